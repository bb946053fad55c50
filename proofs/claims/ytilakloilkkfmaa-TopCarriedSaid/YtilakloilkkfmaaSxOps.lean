/-
  One lemma an operation: what it yields (Y), and the steps of a walk.
-/
import Derived.Test.YtilakloilkkfmaaSx
namespace Go.Sx
open Go

/-- wherever these facts hold, the operation yields v and leaves the world as it is -/
def Y (P : Program) (o : Oper) (n : Nat) (ds : List Deferred) (ρ : Rho) (cells : List Cel) (bs : List Base) (v : Value) : Prop :=
  ∀ a w, Fr n ds ρ a → Hp cells bs w → (execOp a.eval o).run P w = .ok (.value v) w

section
variable {P : Program} {n : Nat} {ds : List Deferred} {ρ : Rho} {cells : List Cel} {bs : List Base} {a : Act} {w : World}
variable {ops : Array Oper} {rest : List Oper} {Q : Exit → Act → World → Prop}
variable {dst : Option Nat} {ty : TypeId} {pos : String} {aft : Array Edge} {gd : Option (Nat × Bool)}

/-! ### what the operations yield -/
theorem y_mv {x : Operand} {v : Value} (hx : ev ρ x = some v) : Y P ⟨dst, .move x, ty, pos, aft, gd⟩ n ds ρ cells bs v := by
  intro a w F H
  simp [execOp, F.ev hx]
theorem y_as {x : Operand} {v : Value} (hx : ev ρ x = some v) : Y P ⟨dst, .assign x, ty, pos, aft, gd⟩ n ds ρ cells bs v := by
  intro a w F H
  simp [execOp, F.ev hx]
theorem y_pick {c x y : Operand} {b : Bool} {u v : Value} (hc : ev ρ c = some (.bool b)) (hx : ev ρ x = some u) (hy : ev ρ y = some v) :
    Y P ⟨dst, .pick c x y, ty, pos, aft, gd⟩ n ds ρ cells bs (if b then u else v) := by
  intro a w F H
  simp [execOp, F.ev hc, F.ev hx, F.ev hy, asBool]
theorem y_pickT {c x y : Operand} {u : Value} (hc : ev ρ c = some (.bool true)) (hx : ev ρ x = some u) :
    Y P ⟨dst, .pick c x y, ty, pos, aft, gd⟩ n ds ρ cells bs u := by
  intro a w F H
  simp [execOp, F.ev hc, F.ev hx, asBool]
theorem y_pickF {c x y : Operand} {v : Value} (hc : ev ρ c = some (.bool false)) (hy : ev ρ y = some v) :
    Y P ⟨dst, .pick c x y, ty, pos, aft, gd⟩ n ds ρ cells bs v := by
  intro a w F H
  simp [execOp, F.ev hc, F.ev hy, asBool]
theorem y_nil {x : Operand} {p : Addr} (hx : ev ρ x = some (.pointer (some p))) : Y P ⟨dst, .nilCheck x, ty, pos, aft, gd⟩ n ds ρ cells bs (.pointer (some p)) := by
  intro a w F H
  simp [execOp, F.ev hx]
theorem y_ext {x : Operand} {vs : List Value} {i : Nat} {v : Value} (hx : ev ρ x = some (.tuple vs.toArray)) (hv : nth vs i = some v) :
    Y P ⟨dst, .extract x i, ty, pos, aft, gd⟩ n ds ρ cells bs v := by
  intro a w F H
  rw [nth_eq] at hv
  simp [execOp, F.ev hx, Instr.extract, hv]
inductive Args (ρ : Rho) : List Operand → List Value → Prop
  | nil : Args ρ [] []
  | cons {x : Operand} {v : Value} {xs : List Operand} {vs : List Value} (h : ev ρ x = some v) (t : Args ρ xs vs) : Args ρ (x :: xs) (v :: vs)
theorem evs {xs : List Operand} {vs : List Value} (F : Fr n ds ρ a) (h : Args ρ xs vs) : xs.map a.eval = vs := by
  induction h with
  | nil => rfl
  | cons h _ ih => rw [List.map_cons, F.ev h, ih]
theorem y_fn {f : FuncId} {caps : List Operand} {cs : List Value} (hc : Args ρ caps cs) :
    Y P ⟨dst, .makeFunc (.func f) #[] caps.toArray, ty, pos, aft, gd⟩ n ds ρ cells bs (.func (.func f) #[] cs.toArray) := by
  intro a w F H
  simp [execOp, Instr.makeFunc, evs F hc]
theorem run_eqGuard_int (op : BinOp) (t : TypeId) (x y : Operand) (k k' : IntKind) (p q : Int) (w : World) :
    (eqGuard op t x y (.int k p) (.int k' q)).run P w = .ok () w := by
  cases op <;> rfl
theorem run_eqGuard_bool (op : BinOp) (t : TypeId) (x y : Operand) (p q : Bool) (w : World) :
    (eqGuard op t x y (.bool p) (.bool q)).run P w = .ok () w := by
  cases op <;> rfl
theorem y_int {op : BinOp} {t t' : TypeId} {x y : Operand} {k : IntKind} {p q : Int} {v : Value} (hx : ev ρ x = some (.int k p)) (hy : ev ρ y = some (.int k q))
    (hr : ∀ w, (binOp op t (.int k p) (.int k q)).run P w = .ok v w) : Y P ⟨dst, .binOp op t x y t', ty, pos, aft, gd⟩ n ds ρ cells bs v := by
  intro a w F H
  simp [execOp, F.ev hx, F.ev hy, run_eqGuard_int, hr]
variable {t t' : TypeId} {x y : Operand} {k : IntKind} {p q : Int}
theorem y_add (hx : ev ρ x = some (.int k p)) (hy : ev ρ y = some (.int k q)) : Y P ⟨dst, .binOp .add t x y t', ty, pos, aft, gd⟩ n ds ρ cells bs (.int k (k.wrap (p + q))) :=
  y_int hx hy fun w => by simp [binOp, Op.intArith]
theorem y_sub (hx : ev ρ x = some (.int k p)) (hy : ev ρ y = some (.int k q)) : Y P ⟨dst, .binOp .sub t x y t', ty, pos, aft, gd⟩ n ds ρ cells bs (.int k (k.wrap (p - q))) :=
  y_int hx hy fun w => by simp [binOp, Op.intArith]
theorem y_mul (hx : ev ρ x = some (.int k p)) (hy : ev ρ y = some (.int k q)) : Y P ⟨dst, .binOp .mul t x y t', ty, pos, aft, gd⟩ n ds ρ cells bs (.int k (k.wrap (p * q))) :=
  y_int hx hy fun w => by simp [binOp, Op.intArith]
theorem y_eq (hx : ev ρ x = some (.int k p)) (hy : ev ρ y = some (.int k q)) : Y P ⟨dst, .binOp .eql t x y t', ty, pos, aft, gd⟩ n ds ρ cells bs (.bool (p == q)) :=
  y_int hx hy fun w => by simp [binOp, Op.intCmp]
theorem y_ne (hx : ev ρ x = some (.int k p)) (hy : ev ρ y = some (.int k q)) : Y P ⟨dst, .binOp .neq t x y t', ty, pos, aft, gd⟩ n ds ρ cells bs (.bool (p != q)) :=
  y_int hx hy fun w => by simp [binOp, Op.intCmp]
/-- shifts by a number at hand, in the range of the counts -/
theorem y_shr (n' : Nat) {k' : IntKind} (hx : ev ρ x = some (.int k p)) (hy : ev ρ y = some (.int k' (Int.ofNat n'))) (hn : Nat.ble n' k.bits = true) : Y P ⟨dst, .binOp .shr t x y t', ty, pos, aft, gd⟩ n ds ρ cells bs (.int k (p.fdiv (2 ^ n'))) := by
  intro a w F H
  have h1 : ¬ ((Int.ofNat n' : Int) < 0) := by simp
  have h2 : min n' k.bits = n' := Nat.min_eq_left (by simpa using hn)
  simp only [execOp, F.ev hx, F.ev hy, binOp, Op.shift, Sem.run_bind, run_eqGuard_int, Result.andThen_ok, if_neg h1]
  simp [h2]
theorem y_shl (n' : Nat) {k' : IntKind} (hx : ev ρ x = some (.int k p)) (hy : ev ρ y = some (.int k' (Int.ofNat n'))) (hn : Nat.ble n' k.bits = true) : Y P ⟨dst, .binOp .shl t x y t', ty, pos, aft, gd⟩ n ds ρ cells bs (.int k (k.wrap (p * 2 ^ n'))) := by
  intro a w F H
  have h1 : ¬ ((Int.ofNat n' : Int) < 0) := by simp
  have h2 : min n' k.bits = n' := Nat.min_eq_left (by simpa using hn)
  simp only [execOp, F.ev hx, F.ev hy, binOp, Op.shift, Sem.run_bind, run_eqGuard_int, Result.andThen_ok, if_neg h1]
  simp [h2]
theorem y_or (hx : ev ρ x = some (.int k p)) (hy : ev ρ y = some (.int k q)) : Y P ⟨dst, .binOp .or t x y t', ty, pos, aft, gd⟩ n ds ρ cells bs (.int k (k.wrap ((p % 2 ^ k.bits).toNat ||| (q % 2 ^ k.bits).toNat : Nat))) :=
  y_int hx hy fun w => by simp [binOp, Op.intBits]
theorem y_lt (hx : ev ρ x = some (.int k p)) (hy : ev ρ y = some (.int k q)) : Y P ⟨dst, .binOp .lss t x y t', ty, pos, aft, gd⟩ n ds ρ cells bs (.bool (decide (p < q))) :=
  y_int hx hy fun w => by simp [binOp, Op.intCmp]
theorem y_le (hx : ev ρ x = some (.int k p)) (hy : ev ρ y = some (.int k q)) : Y P ⟨dst, .binOp .leq t x y t', ty, pos, aft, gd⟩ n ds ρ cells bs (.bool (decide (p ≤ q))) :=
  y_int hx hy fun w => by simp [binOp, Op.intCmp]
theorem y_gt (hx : ev ρ x = some (.int k p)) (hy : ev ρ y = some (.int k q)) : Y P ⟨dst, .binOp .gtr t x y t', ty, pos, aft, gd⟩ n ds ρ cells bs (.bool (decide (q < p))) :=
  y_int hx hy fun w => by simp [binOp, Op.intCmp]
theorem y_ge (hx : ev ρ x = some (.int k p)) (hy : ev ρ y = some (.int k q)) : Y P ⟨dst, .binOp .geq t x y t', ty, pos, aft, gd⟩ n ds ρ cells bs (.bool (decide (q ≤ p))) :=
  y_int hx hy fun w => by simp [binOp, Op.intCmp]
theorem y_rem (hx : ev ρ x = some (.int k p)) (hy : ev ρ y = some (.int k q)) (hq : q ≠ 0) : Y P ⟨dst, .binOp .rem t x y t', ty, pos, aft, gd⟩ n ds ρ cells bs (.int k (p.tmod q)) :=
  y_int hx hy fun w => by simp [binOp, Op.intDiv, hq]
theorem y_quo (hx : ev ρ x = some (.int k p)) (hy : ev ρ y = some (.int k q)) (hq : q ≠ 0) : Y P ⟨dst, .binOp .quo t x y t', ty, pos, aft, gd⟩ n ds ρ cells bs (.int k (k.wrap (p.tdiv q))) :=
  y_int hx hy fun w => by simp [binOp, Op.intDiv, hq]
/-- any operation on two values, by its run -/
theorem y_bin {op : BinOp} {u u' v : Value} (hx : ev ρ x = some u) (hy : ev ρ y = some u') (hg : ∀ w, (eqGuard op t x y u u').run P w = .ok () w)
    (hr : ∀ w, (binOp op t u u').run P w = .ok v w) : Y P ⟨dst, .binOp op t x y t', ty, pos, aft, gd⟩ n ds ρ cells bs v := by
  intro a w F H
  simp [execOp, F.ev hx, F.ev hy, hg, hr]
theorem run_equal_bool {t : TypeId} (ht : P.underlying t = some .bool) (b c : Bool) (w : World) : (Op.equal t (.bool b) (.bool c)).run P w = .ok (b == c) w := by
  have h : ∀ d : Nat, (Op.equalIn (d + 1) t (.bool b) (.bool c)).run P w = .ok (b == c) w := fun d => by simp [Op.equalIn, run_underlying ht]
  exact h 9999
theorem y_eqb {b c : Bool} (ht : P.underlying t = some .bool) (hx : ev ρ x = some (.bool b)) (hy : ev ρ y = some (.bool c)) : Y P ⟨dst, .binOp .eql t x y t', ty, pos, aft, gd⟩ n ds ρ cells bs (.bool (b == c)) :=
  y_bin hx hy (run_eqGuard_bool _ _ _ _ _ _) fun w => by
    show ((do pure (Value.bool (← Op.equal t (.bool b) (.bool c)))) : Sem Value).run P w = _
    simp [run_equal_bool ht]
theorem y_neb {b c : Bool} (ht : P.underlying t = some .bool) (hx : ev ρ x = some (.bool b)) (hy : ev ρ y = some (.bool c)) : Y P ⟨dst, .binOp .neq t x y t', ty, pos, aft, gd⟩ n ds ρ cells bs (.bool (b != c)) :=
  y_bin hx hy (run_eqGuard_bool _ _ _ _ _ _) fun w => by
    show ((do pure (Value.bool (!(← Op.equal t (.bool b) (.bool c))))) : Sem Value).run P w = _
    simp [run_equal_bool ht, bne]
theorem y_not {b : Bool} (hx : ev ρ x = some (.bool b)) : Y P ⟨dst, .unOp .not t x, ty, pos, aft, gd⟩ n ds ρ cells bs (.bool (!b)) := by
  intro a w F H
  simp [execOp, F.ev hx, Op.unary]
theorem y_cvi {src dst' : TypeId} {d : TypeDesc} {k' : IntKind} (hs : P.underlying src = some d) (hd : P.underlying dst' = some (.int k')) (hx : ev ρ x = some (.int k p)) :
    Y P ⟨dst, .convert src dst' x, ty, pos, aft, gd⟩ n ds ρ cells bs (.int k' (k'.wrap p)) := by
  intro a w F H
  simp [execOp, F.ev hx, convert, run_underlying hs, run_underlying hd, Conv.intToInt]
theorem y_fa {s : TypeId} {i : Nat} {fs : Array Field} {f : Field} {g o m : Nat} (hs : P.underlying s = some (.struct fs)) (hf : fs[i]? = some f)
    (hz : ∀ w, (sizeOf f.type).run P w = .ok (m + 1) w) (hx : ev ρ x = some (.pointer (some ⟨g, o, none⟩))) :
    Y P ⟨dst, .fieldAddr s x i, ty, pos, aft, gd⟩ n ds ρ cells bs (.pointer (some ⟨g, o + f.offset, none⟩)) := by
  intro a w F H
  have e : (⟨g, o, none⟩ : Addr).add f.offset = ⟨g, o + f.offset, none⟩ := by
    unfold Addr.add; split <;> simp_all
  simp [execOp, F.ev hx, Instr.fieldAt, run_underlying hs, hf, Instr.sureAddr, fieldPlace, hz, e]
theorem addr_add (g o k : Nat) : (⟨g, o, none⟩ : Addr).add k = ⟨g, o + k, none⟩ := by
  unfold Addr.add; split <;> simp_all
theorem y_ia {s e : TypeId} {g o len cap m : Nat} {i : Int} (hs : P.underlying s = some (.slice e)) (hz : ∀ w, (sizeOf e).run P w = .ok m w)
    (hx : ev ρ x = some (.slice (some ⟨g, o, none⟩) len cap)) (hy : ev ρ y = some (.int k i)) (h0 : 0 ≤ i) (h1 : i < len) :
    Y P ⟨dst, .indexAddr s x y, ty, pos, aft, gd⟩ n ds ρ cells bs (.pointer (some ⟨g, o + i.toNat * m, none⟩)) := by
  intro a w F H
  simp [execOp, F.ev hx, F.ev hy, Instr.indexAt, asIntOf, run_underlying hs, hz, h0, h1, addr_add]
theorem y_len {s e : TypeId} {ad : Option Addr} {len cap : Nat} (hs : P.underlying s = some (.slice e)) (hx : ev ρ x = some (.slice ad len cap)) :
    Y P ⟨dst, .call { callee := .builtin .len, args := #[x], argTypes := #[s] }, ty, pos, aft, gd⟩ n ds ρ cells bs (.int .i64 len) := by
  intro a w F H
  simp [execOp, resolve, invoke, builtin, Builtin.len_, F.ev hx, run_underlying hs, goInt]
theorem y_min {s s' : TypeId} (hx : ev ρ x = some (.int k p)) (hy : ev ρ y = some (.int k q)) :
    Y P ⟨dst, .call { callee := .builtin .min, args := #[x, y], argTypes := #[s, s'] }, ty, pos, aft, gd⟩ n ds ρ cells bs (.int k (if q < p then q else p)) := by
  intro a w F H
  simp [execOp, resolve, invoke, builtin, Builtin.min_, Builtin.min2, F.ev hx, F.ev hy]
theorem y_max {s s' : TypeId} (hx : ev ρ x = some (.int k p)) (hy : ev ρ y = some (.int k q)) :
    Y P ⟨dst, .call { callee := .builtin .max, args := #[x, y], argTypes := #[s, s'] }, ty, pos, aft, gd⟩ n ds ρ cells bs (.int k (if p < q then q else p)) := by
  intro a w F H
  simp [execOp, resolve, invoke, builtin, Builtin.max_, Builtin.max2, F.ev hx, F.ev hy]

/-! loads -/
theorem cell_of_blk {w : World} {g : Nat} {cs : List Value} {t : TypeId} {fz : Nat × Nat} (h : w.heap[g]? = some (.cells cs.toArray t fz)) (i : Nat) :
    w.cell? ⟨g, i, none⟩ = cs[i]? := by
  simp [World.cell?, h]
/-- the cells at an address -/
def At (w : World) (g o : Nat) (vs : List Value) : Prop := ∀ j v, vs[j]? = some v → w.cell? ⟨g, o + j, none⟩ = some v
theorem run_loadCellsFrom {w : World} {g o : Nat} : ∀ (m i : Nat) (acc : Array Value) (vs : List Value), At w g o vs → i + m = vs.length → acc.toList = vs.take i →
    (loadCellsFrom ⟨g, o, none⟩ i m acc).run P w = .ok vs.toArray w
  | 0, i, acc, vs, _, hl, ha => by
    have : vs.take i = vs := List.take_of_length_le (by omega)
    rw [this] at ha
    simp only [loadCellsFrom, Sem.run_pure]
    rw [← ha]
  | m + 1, i, acc, vs, hat, hl, ha => by
    have hi : i < vs.length := by omega
    have hc := hat i vs[i] (List.getElem?_eq_getElem hi)
    simp only [loadCellsFrom, Sem.run_bind, run_load, addr_add, hc, Result.andThen_ok]
    exact run_loadCellsFrom m (i + 1) (acc.push vs[i]) vs hat (by omega) (by rw [Array.toList_push, ha, List.take_succ_eq_append_getElem hi])
theorem run_loadCells {w : World} {g o m : Nat} {vs : List Value} (h : At w g o vs) (hm : vs.length = m) : (loadCells ⟨g, o, none⟩ m).run P w = .ok vs.toArray w :=
  run_loadCellsFrom m 0 #[] vs h (by omega) (by simp)
theorem At.slc {w : World} {g : Nat} {cs : List Value} {t : TypeId} {fz : Nat × Nat} (h : w.heap[g]? = some (.cells cs.toArray t fz)) {o m : Nat} (hb : Nat.ble (o + m) cs.length = true) :
    At w g o (slc cs o m) := by
  have hb' : o + m ≤ cs.length := by simpa using hb
  intro j v hv
  rw [slc_eq _ _ _ hb'] at hv
  rw [cell_of_blk h, ← hv]
  have hj : j < m := by
    have := (List.getElem?_eq_some_iff.1 hv).1
    simp at this; omega
  simp [hj]
theorem y_lda {m : Nat} {g o : Nat} {vs : List Value} (hx : ev ρ x = some (.pointer (some ⟨g, o, none⟩))) (ha : ∀ w, (isAgg t).run P w = .ok true w) (hz : ∀ w, (sizeOf t).run P w = .ok m w)
    (hat : ∀ w, Hp cells bs w → At w g o vs) (hl : Nat.beq vs.length m = true) : Y P ⟨dst, .load t x, ty, pos, aft, gd⟩ n ds ρ cells bs (.agg vs.toArray) := by
  intro a w F H
  simp [execOp, F.ev hx, Instr.loadAt, Instr.sureAddr, loadVar, ha, hz, run_loadCells (hat w H) (Nat.eq_of_beq_eq_true hl)]
theorem y_ld1a {g o : Nat} {v : Value} (hx : ev ρ x = some (.pointer (some ⟨g, o, none⟩))) (ha : ∀ w, (isAgg t).run P w = .ok false w)
    (hat : ∀ w, Hp cells bs w → w.cell? ⟨g, o, none⟩ = some v) : Y P ⟨dst, .load t x, ty, pos, aft, gd⟩ n ds ρ cells bs v := by
  intro a w F H
  simp [execOp, F.ev hx, Instr.loadAt, Instr.sureAddr, loadVar, ha, hat w H]
/-- a struct out of a cell of one's own -/
theorem y_ld {m key : Nat} {g o : Nat} {c : TypeId} {cs : List Value} (hx : ev ρ x = some (.pointer (some ⟨g, o, none⟩))) (hc : getC cells key = some ⟨key, some g, c, cs⟩)
    (ha : ∀ w, (isAgg t).run P w = .ok true w) (hz : ∀ w, (sizeOf t).run P w = .ok m w) (hb : Nat.ble (o + m) cs.length = true) :
    Y P ⟨dst, .load t x, ty, pos, aft, gd⟩ n ds ρ cells bs (.agg (slc cs o m).toArray) :=
  y_lda hx ha hz (fun _ H => At.slc (H.cell hc rfl) hb) (by rw [slc_length]; simp)
theorem y_ld1 {key : Nat} {g o : Nat} {c : TypeId} {cs : List Value} {v : Value} (hx : ev ρ x = some (.pointer (some ⟨g, o, none⟩))) (hc : getC cells key = some ⟨key, some g, c, cs⟩)
    (ha : ∀ w, (isAgg t).run P w = .ok false w) (hv : nth cs o = some v) : Y P ⟨dst, .load t x, ty, pos, aft, gd⟩ n ds ρ cells bs v :=
  y_ld1a hx ha fun _ H => by rw [cell_of_blk (H.cell hc rfl), ← nth_eq, hv]

/-! ### the steps of a plain region -/
theorem st {o : Oper} {d : Nat} {v : Value} (F : Fr n ds ρ a) (H : Hp cells bs w) (hd : o.dst = some d) (hg : o.guard = none) (hn : Nat.blt d n = true) (y : Y P o n ds ρ cells bs v)
    (k : ∀ a, Fr n ds ((d, v) :: ρ) a → wpList P ops Q rest a w) : wpList P ops Q (o :: rest) a w := by
  refine wpList_plain hg fun K hK => ?_
  unfold Oper.wp
  rw [y a w F H, Oper.upon_value, hd]
  exact hK _ _ (k _ (F.put hn v))
/-- the guard holds -/
theorem gt {o : Oper} {j d : Nat} {b c : Bool} {oj : Oper} (F : Fr n ds ρ a) (hg : o.guard = some (j, b)) (hj : ops[j]? = some oj) (hd : oj.dst = some d) (hv : get ρ d = some (.bool c)) (hb : c = b)
    (k : wpList P ops Q ({ o with guard := none } :: rest) a w) : wpList P ops Q (o :: rest) a w := by
  have hw : Region.wanted o (yielded ops a.tmps) = true := by
    have := F.fr _ _ hv
    subst hb
    simp [Region.wanted, hg, yielded, hj, hd, this]
  unfold wpList at k ⊢
  rw [if_pos hw]
  rw [if_pos (by simp [Region.wanted])] at k
  exact k
/-- the guard does not hold: passed over -/
theorem gf {o : Oper} {j d e : Nat} {b : Bool} {oj : Oper} (F : Fr n ds ρ a) (hg : o.guard = some (j, b)) (hj : ops[j]? = some oj) (hd : oj.dst = some d) (hv : get ρ d = some (.bool (!b)))
    (he : o.dst = some e) (hn : Nat.blt e n = true) (k : ∀ a, Fr n ds ((e, undef) :: ρ) a → wpList P ops Q rest a w) : wpList P ops Q (o :: rest) a w := by
  refine wpList_skip ?_ ?_
  · have := F.fr _ _ hv
    cases b <;> simp [Region.wanted, hg, yielded, hj, hd, this]
  · rw [he]; exact k _ (F.put hn _)
/-- the guard hangs on an operation that was passed over -/
theorem gu {o : Oper} {j d e : Nat} {b : Bool} {oj : Oper} (F : Fr n ds ρ a) (hg : o.guard = some (j, b)) (hj : ops[j]? = some oj) (hd : oj.dst = some d) (hv : get ρ d = some undef)
    (he : o.dst = some e) (hn : Nat.blt e n = true) (k : ∀ a, Fr n ds ((e, undef) :: ρ) a → wpList P ops Q rest a w) : wpList P ops Q (o :: rest) a w := by
  refine wpList_skip ?_ ?_
  · have := F.fr _ _ hv
    simp [Region.wanted, hg, yielded, hj, hd, this, undef]
  · rw [he]; exact k _ (F.put hn _)
theorem nl {x : Act → World → Prop} (k : x a w) : wpList P ops (Exit.then x Q) [] a w := k
theorem rg {l : List Oper} {id : Nat} {y : Code} (k : wpList P l.toArray (Exit.then (y.wp P Q) Q) l a w) : (Code.seq (.region id l.toArray false) y).wp P Q a w :=
  wp_seq (wp_region_lit k)
theorem rg1 {l : List Oper} {id : Nat} (k : wpList P l.toArray Q l a w) : (Code.region id l.toArray false).wp P Q a w := wp_region_lit k
theorem cn {c : Operand} {x y : Code} {b : Bool} (F : Fr n ds ρ a) (hc : ev ρ c = some (.bool b)) (ht : b = true → x.wp P Q a w) (hf : b = false → y.wp P Q a w) : (Code.cond c x y).wp P Q a w :=
  wp_cond_split (F.ev hc) ht hf

theorem cnT {c : Operand} {x y : Code} (F : Fr n ds ρ a) (hc : ev ρ c = some (.bool true)) (h : x.wp P Q a w) : (Code.cond c x y).wp P Q a w := cn F hc (fun _ => h) (fun h => by cases h)
theorem cnF {c : Operand} {x y : Code} (F : Fr n ds ρ a) (hc : ev ρ c = some (.bool false)) (h : y.wp P Q a w) : (Code.cond c x y).wp P Q a w := cn F hc (fun h => by cases h) (fun _ => h)

/-! ### operations that turn memory -/
theorem s_box (key : Nat) {x : Operand} {d : Nat} {v : Value} {cs : List Value} {t : TypeId} (F : Fr n ds ρ a) (H : Hp cells bs w) (hn : Nat.blt d n = true) (hx : ev ρ x = some v) (hv : v.cells = cs.toArray)
    (k : ∀ g a w, Fr n ds ((d, .pointer (some ⟨g, 0, none⟩)) :: ρ) a → Hp (⟨key, some g, t, cs⟩ :: cells) bs w → wpList P ops Q rest a w) :
    wpList P ops Q (⟨some d, .box t x, ty, pos, aft, none⟩ :: rest) a w := by
  refine wpList_plain rfl fun K hK => ?_
  unfold Oper.wp
  simp only [execOp, F.ev hx, Instr.box, newVar, newRow, Sem.run_bind, run_newObj, Result.andThen_ok, Sem.run_pure, World.alloc_eq, hv, Oper.upon_value]
  exact hK _ _ (k _ _ _ (F.put hn _) (H.alloc key t cs))
theorem s_alloc (key : Nat) {d : Nat} {v : Value} {cs : List Value} {t : TypeId} (F : Fr n ds ρ a) (H : Hp cells bs w) (hn : Nat.blt d n = true) (hz : ∀ w, (zeroValue t).run P w = .ok v w) (hv : v.cells = cs.toArray)
    (k : ∀ g a w, Fr n ds ((d, .pointer (some ⟨g, 0, none⟩)) :: ρ) a → Hp (⟨key, some g, t, cs⟩ :: cells) bs w → wpList P ops Q rest a w) :
    wpList P ops Q (⟨some d, .alloc t, ty, pos, aft, none⟩ :: rest) a w := by
  refine wpList_plain rfl fun K hK => ?_
  unfold Oper.wp
  simp only [execOp, Instr.alloc, newVar, newRow, Sem.run_bind, hz, run_newObj, Result.andThen_ok, Sem.run_pure, World.alloc_eq, hv, Oper.upon_value]
  exact hK _ _ (k _ _ _ (F.put hn _) (H.alloc key t cs))
end
end Go.Sx
