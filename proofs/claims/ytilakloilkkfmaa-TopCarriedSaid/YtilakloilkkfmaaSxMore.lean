/-
  Structs built, slices cut, rows appended to, cleared; structs compared; a call that turns a cell of one's own.
-/
import Derived.Test.YtilakloilkkfmaaSxDraw
import Derived.Maps.AppendAt
namespace Go.Sx
open Go
section
variable {P : Program} {n : Nat} {ds : List Deferred} {ρ : Rho} {cells : List Cel} {bs : List Base} {a : Act} {w : World}
variable {ops : Array Oper} {rest : List Oper} {Q : Exit → Act → World → Prop}
variable {dst : Option Nat} {ty : TypeId} {pos : String} {aft : Array Edge} {gd : Option (Nat × Bool)}

/-! ### a struct's literal -/
inductive PArgs (ρ : Rho) : List (Nat × Operand) → List (Nat × Value) → Prop
  | nil : PArgs ρ [] []
  | cons {i : Nat} {x : Operand} {v : Value} {xs : List (Nat × Operand)} {vs : List (Nat × Value)} (h : ev ρ x = some v) (t : PArgs ρ xs vs) : PArgs ρ ((i, x) :: xs) ((i, v) :: vs)
theorem pevs {xs : List (Nat × Operand)} {vs : List (Nat × Value)} (F : Fr n ds ρ a) (h : PArgs ρ xs vs) : xs.map (fun p => (p.1, a.eval p.2)) = vs := by
  induction h with
  | nil => rfl
  | cons h _ ih => rw [List.map_cons, F.ev h, ih]
def nth2 : List (Nat × Nat) → Nat → Option (Nat × Nat)
  | [], _ => none
  | v :: _, 0 => some v
  | _ :: r, i + 1 => nth2 r i
theorem nth2_eq (l : List (Nat × Nat)) (i : Nat) : nth2 l i = l[i]? := by
  induction l generalizing i with
  | nil => simp [nth2]
  | cons v r ih => cases i <;> simp [nth2, ih]
def cellsOf : Value → List Value
  | .agg cs => cs.toList
  | v => [v]
theorem cellsOf_eq (v : Value) : v.cells = (cellsOf v).toArray := by cases v <;> rfl
def bld (pl : List (Nat × Nat)) : List Value → List (Nat × Value) → Option (List Value)
  | zs, [] => some zs
  | zs, (i, v) :: r => match nth2 pl i with
    | some (off, size) => bif Nat.beq (cellsOf v).length size && Nat.ble (off + size) zs.length then bld pl (putL zs off (cellsOf v)) r else none
    | none => none
theorem foldl_put : ∀ (vs : List Value) (k : Nat) (cs : List Value) (off : Nat), (vs.zipIdx k).foldl (fun (acc : Array Value) (p : Value × Nat) => acc.setIfInBounds (off + p.2) p.1) cs.toArray = (putL cs (off + k) vs).toArray
  | [], _, _, _ => rfl
  | v :: r, k, cs, off => by
    simp only [List.zipIdx_cons, List.foldl_cons, putL]
    have : cs.toArray.setIfInBounds (off + k) v = (put1 cs (off + k) v).toArray := by simp [put1_eq]
    rw [this]
    exact foldl_put r (k + 1) _ off
theorem putL_length : ∀ (vs cs : List Value) (o : Nat), (putL cs o vs).length = cs.length
  | [], _, _ => rfl
  | v :: r, cs, o => by rw [putL, putL_length r, put1_eq, List.length_set]
theorem fill_bld {pl : List (Nat × Nat)} : ∀ (ps : List (Nat × Value)) (zs cs : List Value), bld pl zs ps = some cs → Instr.fill (pl.toArray[·]?) zs.toArray ps = some cs.toArray
  | [], zs, cs, h => by
    simp only [bld, Option.some.injEq] at h
    subst h; rfl
  | (i, v) :: r, zs, cs, h => by
    unfold bld at h
    rw [nth2_eq] at h
    cases hp : pl[i]? with
    | none => simp [hp] at h
    | some q =>
      obtain ⟨off, size⟩ := q
      simp only [hp] at h
      cases hb : (Nat.beq (cellsOf v).length size && Nat.ble (off + size) zs.length) <;> rw [hb] at h
      · cases h
      · simp only [cond_true] at h
        simp only [Bool.and_eq_true] at hb
        have h1 : (cellsOf v).length = size := Nat.eq_of_beq_eq_true hb.1
        have h2 : off + size ≤ zs.length := by simpa using hb.2
        have ih := fill_bld r _ cs h
        have hp' : pl.toArray[i]? = some (off, size) := by simp [hp]
        unfold Instr.fill
        simp only [hp']
        have e : (v.cells.zipIdx.foldl (fun cs (x : Value × Nat) => cs.setIfInBounds (off + x.2) x.1) zs.toArray) = (putL zs off (cellsOf v)).toArray := by
          rw [cellsOf_eq]
          have := foldl_put (cellsOf v) 0 zs off
          simpa using this
        rw [if_neg (by simp [cellsOf_eq, h1]; omega)]
        have e2 : (v.cells.zipIdx.foldl (fun cs (x : Value × Nat) => match x with | (c, j) => cs.setIfInBounds (off + j) c) zs.toArray) = (putL zs off (cellsOf v)).toArray := e
        rw [e2]
        exact ih
/-- where a struct's fields lie, and how wide they are -/
def Pl (P : Program) (t : TypeId) (pl : List (Nat × Nat)) : Prop := ∀ fs, P.underlying t = some (.struct fs) → ∀ w, (fs.mapM fun f => (do pure (f.offset, ← sizeOf f.type) : Sem (Nat × Nat))).run P w = .ok pl.toArray w
theorem y_build {t : TypeId} {fs : Array Field} {zs cs : List Value} {zv : Value} {parts : List (Nat × Operand)} {pv : List (Nat × Value)} {pl : List (Nat × Nat)} (hz : ∀ w, (zeroValue t).run P w = .ok zv w) (hs : P.underlying t = some (.struct fs))
    (hpl : Pl P t pl) (hzs : zv.cells = zs.toArray) (hp : PArgs ρ parts pv) (hb : bld pl zs pv = some cs) :
    Y P ⟨dst, .build t parts.toArray, ty, pos, aft, gd⟩ n ds ρ cells bs (.agg cs.toArray) := by
  intro a w F H
  have e := pevs F hp
  have hf := fill_bld pv zs cs hb
  simp only [execOp, Instr.build, List.map_toArray, e, Sem.run_bind, hz, Result.andThen_ok, hzs, run_underlying hs, hpl fs hs, hf, Sem.run_pure]
theorem y_buildA {t e : TypeId} {len m : Nat} {zs cs : List Value} {zv : Value} {parts : List (Nat × Operand)} {pv : List (Nat × Value)} {pl : List (Nat × Nat)} (hz : ∀ w, (zeroValue t).run P w = .ok zv w) (hs : P.underlying t = some (.array len e))
    (hse : ∀ w, (sizeOf e).run P w = .ok m w) (hzs : zv.cells = zs.toArray) (hp : PArgs ρ parts pv) (hpl : ∀ p ∈ pv, nth2 pl p.1 = some (p.1 * m, m)) (hb : bld pl zs pv = some cs) :
    Y P ⟨dst, .build t parts.toArray, ty, pos, aft, gd⟩ n ds ρ cells bs (.agg cs.toArray) := by
  intro a w F H
  have e := pevs F hp
  have hf := fill_bld pv zs cs hb
  have hf' : Instr.fill (fun i => some (i * m, m)) zs.toArray pv = some cs.toArray := by
    have gen : ∀ (ps : List (Nat × Value)) (zs : Array Value), (∀ p ∈ ps, nth2 pl p.1 = some (p.1 * m, m)) → Instr.fill (pl.toArray[·]?) zs ps = Instr.fill (fun i => some (i * m, m)) zs ps := by
      intro ps
      induction ps with
      | nil => intro zs _; rfl
      | cons p r ih =>
        intro zs hh
        have h0 := hh p (List.mem_cons_self ..)
        obtain ⟨i, v⟩ := p
        rw [nth2_eq] at h0
        simp only at h0
        have h0' : pl.toArray[i]? = some (i * m, m) := by simp [h0]
        unfold Instr.fill
        simp only [h0']
        split
        · rfl
        · exact ih _ (fun q hq => hh q (List.mem_cons_of_mem _ hq))
    rw [← gen pv _ hpl]; exact hf
  simp only [execOp, Instr.build, List.map_toArray, e, Sem.run_bind, hz, Result.andThen_ok, hzs, run_underlying hs, hse, hf', Sem.run_pure]

/-! ### cutting a slice -/
theorem y_slHi {s e : TypeId} {x hi : Operand} {ad : Option Addr} {len cap m : Nat} {k : IntKind} {h : Int} (hs : P.underlying s = some (.slice e)) (hz : ∀ w, (sizeOf e).run P w = .ok m w)
    (hx : ev ρ x = some (.slice ad len cap)) (hh : ev ρ hi = some (.int k h)) (h0 : 0 ≤ h) (h1 : h ≤ cap) : Y P ⟨dst, .slice s x none (some hi) none, ty, pos, aft, gd⟩ n ds ρ cells bs (.slice ad h.toNat cap) := by
  intro a w F H
  have e : (if cap = 0 then ad else ad.map (·.add (0 * m))) = ad := by
    split
    · rfl
    · cases ad <;> simp [Addr.add]
  simp [execOp, F.ev hx, F.ev hh, Instr.sliceAt, Instr.slice, run_underlying hs, Instr.sliceBounds, Instr.sliceBound, asIntOf, h0, h1, hz, Addr.add]
theorem y_slLo {s e : TypeId} {x lo : Operand} {g o len cap m : Nat} {k : IntKind} {l : Int} (hs : P.underlying s = some (.slice e)) (hz : ∀ w, (sizeOf e).run P w = .ok m w)
    (hx : ev ρ x = some (.slice (some ⟨g, o, none⟩) len cap)) (hh : ev ρ lo = some (.int k l)) (h0 : 0 ≤ l) (h1 : l ≤ len) :
    Y P ⟨dst, .slice s x (some lo) none none, ty, pos, aft, gd⟩ n ds ρ cells bs (.slice (some ⟨g, if cap = l.toNat then o else o + l.toNat * m, none⟩) (len - l.toNat) (cap - l.toNat)) := by
  intro a w F H
  simp [execOp, F.ev hx, F.ev hh, Instr.sliceAt, Instr.slice, run_underlying hs, Instr.sliceBounds, Instr.sliceBound, asIntOf, h0, h1, hz, addr_add]
  split <;> rfl
theorem y_slLH {s e : TypeId} {x lo hi : Operand} {g o len cap m : Nat} {k k' : IntKind} {l h : Int} (hs : P.underlying s = some (.slice e)) (hz : ∀ w, (sizeOf e).run P w = .ok m w)
    (hx : ev ρ x = some (.slice (some ⟨g, o, none⟩) len cap)) (hl : ev ρ lo = some (.int k l)) (hh : ev ρ hi = some (.int k' h)) (h0 : 0 ≤ l) (h1 : l ≤ h) (h2 : h ≤ cap) :
    Y P ⟨dst, .slice s x (some lo) (some hi) none, ty, pos, aft, gd⟩ n ds ρ cells bs (.slice (some ⟨g, if cap = l.toNat then o else o + l.toNat * m, none⟩) (h.toNat - l.toNat) (cap - l.toNat)) := by
  intro a w F H
  have h3 : 0 ≤ h := by omega
  have h4 : l ≤ max h 0 := by omega
  simp [execOp, F.ev hx, F.ev hl, F.ev hh, Instr.sliceAt, Instr.slice, run_underlying hs, Instr.sliceBounds, Instr.sliceBound, asIntOf, h0, h2, h3, h4, hz, addr_add]
  split <;> rfl
theorem y_sl3 {s e : TypeId} {x lo hi mx : Operand} {ad : Option Addr} {len cap m : Nat} {k k' k'' : IntKind} {l h c : Int} (hs : P.underlying s = some (.slice e)) (hz : ∀ w, (sizeOf e).run P w = .ok m w)
    (hx : ev ρ x = some (.slice ad len cap)) (hl : ev ρ lo = some (.int k l)) (hh : ev ρ hi = some (.int k' h)) (hm : ev ρ mx = some (.int k'' c)) (h0 : 0 ≤ l) (h1 : l ≤ h) (h2 : h ≤ c) (h3 : c ≤ cap) :
    Y P ⟨dst, .slice s x (some lo) (some hi) (some mx), ty, pos, aft, gd⟩ n ds ρ cells bs (.slice (if c.toNat = l.toNat then ad else ad.map (·.add (l.toNat * m))) (h.toNat - l.toNat) (c.toNat - l.toNat)) := by
  intro a w F H
  have h4 : 0 ≤ h := by omega
  have h5 : 0 ≤ c := by omega
  have h6 : l ≤ max h 0 := by omega
  have h7 : h ≤ max c 0 := by omega
  simp [execOp, F.ev hx, F.ev hl, F.ev hh, F.ev hm, Instr.sliceAt, Instr.slice, run_underlying hs, Instr.sliceBounds, Instr.sliceBound, asIntOf, h0, h3, h4, h5, h6, h7, hz]
theorem y_eqlSliceNil {t t' e : TypeId} {x : Operand} {ad : Option Addr} {len cap : Nat} (ht : P.underlying t = some (.slice e)) (hx : ev ρ x = some (.slice ad len cap)) {y : Operand} (hy : ev ρ y = some (.slice none 0 0)) :
    Y P ⟨dst, .binOp .eql t x y t', ty, pos, aft, gd⟩ n ds ρ cells bs (.bool ad.isNone) := by
  refine y_bin hx hy (fun w => by cases ad <;> rfl) fun w => ?_
  have h : ∀ d : Nat, (Op.equalIn (d + 1) t (.slice ad len cap) (.slice none 0 0)).run P w = .ok ad.isNone w := fun d => by cases ad <;> simp [Op.equalIn, run_underlying ht]
  have h' : (Op.equal t (.slice ad len cap) (.slice none 0 0)).run P w = .ok ad.isNone w := h 9999
  show ((do pure (Value.bool (← Op.equal t (.slice ad len cap) (.slice none 0 0)))) : Sem Value).run P w = _
  simp [h']

/-! ### a call that turns a cell of one's own -/
theorem s_callM (key : Nat) {fx : Operand} {xs : List Operand} {f : FuncId} {cs vs : List Value} {ats : Array TypeId} {d : Nat} {og : Option Nat} {t : TypeId} {row : List Value} {T : Value → List Value → World → Prop} (F : Fr n ds ρ a) (H : Hp cells bs w) (hn : Nat.blt d n = true)
    (hf : ev ρ fx = some (.func (.func f) #[] cs.toArray)) (hx : Args ρ xs vs) (hen : ∀ args w, (callFunc f args).run P w = .ok (.enter f args) w) (hk : getC cells key = some ⟨key, og, t, row⟩)
    (hc : (∀ g, og = some g → w.heap[g]? = some (.cells row.toArray t (0, 0))) → CallsTo P f (vs ++ cs) w og.toList (fun v w' => ∃ row', (∀ g, og = some g → w'.heap[g]? = some (.cells row'.toArray t (0, 0))) ∧ T v row' w'))
    (k : ∀ v row' a w', T v row' w' → Old og.toList w w' → Fr n ds ((d, v) :: ρ) a → Hp (setC cells key row') bs w' → wpList P ops Q rest a w') :
    wpList P ops Q (⟨some d, .call { callee := .value fx, args := xs.toArray, argTypes := ats }, ty, pos, aft, none⟩ :: rest) a w := by
  refine wpList_plain rfl fun K hK => ?_
  unfold Oper.wp
  rw [run_call_fn (fs := []) F hf hx hen, Oper.upon_enter]
  refine Calls.mono (hc (fun g hg => H.cell hk hg)) ?_
  rintro e w' ⟨v, rfl, h1, row', h2, h3⟩
  exact hK _ _ (k v row' _ _ h3 h1 (F.put hn v) (H.set hk row' h2 h1))
/-- a call that hands back a row of its own making, or nil -/
theorem s_callN (key : Nat) {fx : Operand} {xs : List Operand} {f : FuncId} {cs vs : List Value} {ats : Array TypeId} {d : Nat} {t : TypeId} {T : Value → Option Nat → List Value → World → Prop} (F : Fr n ds ρ a) (H : Hp cells bs w) (hn : Nat.blt d n = true)
    (hf : ev ρ fx = some (.func (.func f) #[] cs.toArray)) (hx : Args ρ xs vs) (hen : ∀ args w, (callFunc f args).run P w = .ok (.enter f args) w)
    (hc : CallsTo P f (vs ++ cs) w [] (fun v w' => ∃ og row, (∀ g, og = some g → w.heap.size ≤ g ∧ w'.heap[g]? = some (.cells row.toArray t (0, 0))) ∧ T v og row w'))
    (k : ∀ v og row a w', T v og row w' → Old [] w w' → Fr n ds ((d, v) :: ρ) a → Hp (⟨key, og, t, row⟩ :: cells) bs w' → wpList P ops Q rest a w') :
    wpList P ops Q (⟨some d, .call { callee := .value fx, args := xs.toArray, argTypes := ats }, ty, pos, aft, none⟩ :: rest) a w := by
  refine wpList_plain rfl fun K hK => ?_
  unfold Oper.wp
  rw [run_call_fn (fs := []) F hf hx hen, Oper.upon_enter]
  refine Calls.mono hc ?_
  rintro e w' ⟨v, rfl, h1, og, row, h2, h3⟩
  exact hK _ _ (k v og row _ _ h3 h1 (F.put hn v) (H.add h1 key og t row h2))

/-! ### append -/
/-- where a row of one's own begins -/
def adr (og : Option Nat) : Option Addr := og.map fun g => ⟨g, 0, none⟩
/-- a row: N elements in it, room for cap -/
structure Row (og : Option Nat) (size N cap : Nat) (cs : List Value) : Prop where
  nc : N ≤ cap
  cm : cap ≤ maxLen
  len : cs.length = cap * size
  nil : og = none → cap = 0
/-- a type's row of the table -/
def TI (P : Program) (e : TypeId) (z : Value) (size bytes : Nat) : Prop := ∃ i, P.info? e = some i ∧ i.zero = some z ∧ i.size = size ∧ i.bytes = bytes
theorem TI.of {e : TypeId} {z : Value} {size bytes : Nat} (h : (P.info? e).map (fun i => (i.zero, i.size, i.bytes)) = some (some z, size, bytes)) : TI P e z size bytes := by
  cases hi : P.info? e with
  | none => rw [hi] at h; cases h
  | some i =>
    rw [hi] at h
    simp only [Option.map_some, Option.some.injEq, Prod.mk.injEq] at h
    exact ⟨i, hi, h.1, h.2.1, h.2.2⟩
theorem run_append_row {t ty e : TypeId} {z : Value} {size bytes : Nat} (ht : P.underlying t = some (.slice e)) (hi : TI P e z size bytes) (hzs : z.cells.size = size) (hsz : 0 < size)
    {og : Option Nat} {N cap : Nat} {cs : List Value} (hh : ∀ g, og = some g → w.heap[g]? = some (.cells cs.toArray e (0, 0))) (hrow : Row og size N cap cs)
    {b o m c : Nat} {news : List Value} (hat : At w b o news) (hl : news.length = m * size) (h1 : ∀ u ∈ news, u.oneCell' = true) (hb : (N + m) * bytes ≤ 140737488355328) (hN : N + m ≤ 140737488355328) :
    ∃ og' cap' cs' w', (Builtin.append_ #[t, t] ty #[.slice (adr og) N cap, .slice (some ⟨b, o, none⟩) m c]).run P w = .ok (.slice (adr og') (N + m) cap') w' ∧ Old og.toList w w' ∧ Row og' size (N + m) cap' cs' ∧
      cs'.take ((N + m) * size) = cs.take (N * size) ++ news ∧ (og' = none → og = none ∧ m = 0) ∧ ∀ g, og' = some g → (og = some g ∨ w.heap.size ≤ g) ∧ w'.heap[g]? = some (.cells cs'.toArray e (0, 0)) := by
  obtain ⟨i, hi, hz, hsize, hby⟩ := hi
  have hown : w.ownsRow 0 e size (.slice (adr og) N cap) N (cs.take (N * size)) := by
    refine ⟨?_, ?_⟩
    · rw [List.length_take, hrow.len]; exact Nat.min_eq_left (Nat.mul_le_mul_right _ hrow.nc)
    · cases og with
      | none =>
        have h0 := hrow.nil rfl
        have h2 := hrow.nc
        subst h0
        have : N = 0 := by omega
        subst this
        exact .inl ⟨rfl, rfl⟩
      | some g => exact .inr ⟨g, cap, cs.toArray, rfl, Nat.zero_le _, hh g rfl, hrow.nc, hrow.cm, by simpa using hrow.len, rfl⟩
  obtain ⟨v', w', hr, hown', hgr, hnil, hblk⟩ := run_append_own_at (P := P) w 0 t ty e i z size bytes ht hi hz hsize hby hzs hsz _ N _ hown ⟨b, o, none⟩ m c news hl (fun j u hu => by rw [addr_add]; exact hat j u hu) h1 (by simp only [maxLen]; omega) hb (Nat.zero_le _)
  have hob : (Value.slice (adr og) N cap).ownBlock = og := by cases og <;> rfl
  rw [hob] at hgr hblk
  have hO : Old og.toList w w' := ⟨hgr.os, hgr.tape, hgr.output, hgr.size, fun k hk hE => hgr.block k hk (fun e => hE (by rw [← e]; simp))⟩
  rcases hown'.2 with ⟨rfl, h0⟩ | ⟨g, cap', cur, rfl, _, hg, hnc, hcm, hcs, htake⟩
  · have hn0 := hnil.1 rfl
    have hm0 := hn0.2
    have hN0 : N = 0 := by omega
    subst hm0
    subst hN0
    have hogn : og = none := by
      cases og with
      | none => rfl
      | some g => simp [adr] at hn0
    have hnews : news = [] := List.eq_nil_of_length_eq_zero (by simpa using hl)
    refine ⟨none, 0, [], w', hr, hO, ⟨Nat.le_refl _, Nat.zero_le _, by simp, fun _ => rfl⟩, by simp [hnews], fun _ => ⟨hogn, rfl⟩, fun g h => (by cases h)⟩
  · refine ⟨some g, cap', cur.toList, w', hr, hO, ⟨hnc, hcm, by simpa using hcs, fun h => (by cases h)⟩, htake, fun h => (by cases h), fun g' hg' => ?_⟩
    cases hg'
    refine ⟨?_, by simpa using hg⟩
    simp only [Value.ownBlock] at hblk
    rcases hblk with h | h
    · exact .inl h.symm
    · simp only [Option.some.injEq] at h; exact .inr (by omega)
/-- append to a row of one's own -/
theorem s_append (key : Nat) {t e : TypeId} {z : Value} {size bytes : Nat} {x y : Operand} {d b o N m c cap : Nat} {og : Option Nat} {cs news : List Value} (F : Fr n ds ρ a) (H : Hp cells bs w) (hn : Nat.blt d n = true)
    (ht : P.underlying t = some (.slice e)) (hi : TI P e z size bytes) (hzs : z.cells.size = size) (hsz : Nat.blt 0 size = true)
    (hx : ev ρ x = some (.slice (adr og) N cap)) (hy : ev ρ y = some (.slice (some ⟨b, o, none⟩) m c)) (hk : getC cells key = some ⟨key, og, e, cs⟩) (hrow : Row og size N cap cs) (hat : At w b o news) (hl : news.length = m * size) (h1 : ∀ u ∈ news, u.oneCell' = true)
    (hb : (N + m) * bytes ≤ 140737488355328) (hN : N + m ≤ 140737488355328)
    (k : ∀ og' cap' cs' a w', Row og' size (N + m) cap' cs' → cs'.take ((N + m) * size) = cs.take (N * size) ++ news → (og' = none → og = none ∧ m = 0) → Old og.toList w w' →
      Fr n ds ((d, .slice (adr og') (N + m) cap') :: ρ) a → Hp (⟨key, og', e, cs'⟩ :: rmC cells key) bs w' → wpList P ops Q rest a w') :
    wpList P ops Q (⟨some d, .call { callee := .builtin .append, args := #[x, y], argTypes := #[t, t] }, ty, pos, aft, none⟩ :: rest) a w := by
  obtain ⟨og', cap', cs', w', hr, hO, hrow', htake, hnil, hg⟩ := run_append_row (ty := ty) ht hi hzs (by simpa [Nat.blt_eq] using hsz) (fun g hg => H.cell hk hg) hrow hat hl h1 (c := c) hb hN
  refine wpList_plain rfl fun K hK => ?_
  unfold Oper.wp
  have ee : (execOp a.eval ⟨some d, .call { callee := .builtin .append, args := #[x, y], argTypes := #[t, t] }, ty, pos, aft, none⟩).run P w = .ok (.value (.slice (adr og') (N + m) cap')) w' := by
    simp [execOp, resolve, invoke, builtin, F.ev hx, F.ev hy, hr]
  rw [ee, Oper.upon_value]
  exact hK _ _ (k og' cap' cs' _ _ hrow' htake hnil hO (F.put hn _) (H.renew hk hO hg))
/-- append to nil -/
theorem s_append0 (key : Nat) {t e : TypeId} {z : Value} {size bytes : Nat} {x y : Operand} {d b o m c : Nat} {news : List Value} (F : Fr n ds ρ a) (H : Hp cells bs w) (hn : Nat.blt d n = true)
    (ht : P.underlying t = some (.slice e)) (hi : TI P e z size bytes) (hzs : z.cells.size = size) (hsz : Nat.blt 0 size = true)
    (hx : ev ρ x = some (.slice none 0 0)) (hy : ev ρ y = some (.slice (some ⟨b, o, none⟩) m c)) (hat : At w b o news) (hl : news.length = m * size) (h1 : ∀ u ∈ news, u.oneCell' = true)
    (hb : m * bytes ≤ 140737488355328) (hN : m ≤ 140737488355328)
    (k : ∀ og' cap' cs' a w', Row og' size m cap' cs' → cs'.take (m * size) = news → (og' = none → m = 0) → Old [] w w' →
      Fr n ds ((d, .slice (adr og') m cap') :: ρ) a → Hp (⟨key, og', e, cs'⟩ :: cells) bs w' → wpList P ops Q rest a w') :
    wpList P ops Q (⟨some d, .call { callee := .builtin .append, args := #[x, y], argTypes := #[t, t] }, ty, pos, aft, none⟩ :: rest) a w := by
  have H0 : Hp (⟨key, none, e, []⟩ :: cells) bs w := H.add (Old.refl _ _) key none e [] (fun g h => (by cases h))
  have hb0 : Nat.beq key key = true := by simp
  refine s_append key (og := none) (cs := []) F H0 hn ht hi hzs hsz hx hy (by simp [getC]) ⟨Nat.le_refl _, Nat.zero_le _, by simp, fun _ => rfl⟩ hat hl h1 (by simpa using hb) (by simpa using hN) ?_
  intro og' cap' cs' a w' hr ht hn' hO F H
  simp only [rmC, hb0, cond_true] at H
  simp only [Nat.zero_add] at hr ht F
  exact k og' cap' cs' a w' hr (by simpa using ht) (fun h => (hn' h).2) hO F H
/-- a slice's literal: a row of one's own -/
theorem s_bs (key : Nat) {t e : TypeId} {len d m : Nat} {zv : Value} {cs0 cs : List Value} {parts : List (Nat × Operand)} {pv : List (Nat × Value)} {pl : List (Nat × Nat)} (F : Fr n ds ρ a) (H : Hp cells bs w) (hn : Nat.blt d n = true)
    (ht : P.underlying t = some (.slice e)) (hse : ∀ w, (sizeOf e).run P w = .ok m w) (hz : ∀ w, (zeroValue e).run P w = .ok zv w) (hlen : Nat.ble (len * m) 16777216 = true)
    (h0 : ((Array.range (len * m)).map ((if len * m = 0 then (#[] : Array Value) else zv.cells)[· % (if len * m = 0 then (#[] : Array Value) else zv.cells).size]!)) = cs0.toArray)
    (hp : PArgs ρ parts pv) (hpl : ∀ p ∈ pv, nth2 pl p.1 = some (p.1 * m, m)) (hb : bld pl cs0 pv = some cs)
    (k : ∀ g a w, Fr n ds ((d, .slice (some ⟨g, 0, none⟩) len len) :: ρ) a → Hp (⟨key, some g, e, cs⟩ :: cells) bs w → wpList P ops Q rest a w) :
    wpList P ops Q (⟨some d, .buildSlice t len parts.toArray, ty, pos, aft, none⟩ :: rest) a w := by
  have ep := pevs F hp
  have hf := fill_bld pv cs0 cs hb
  have hf' : Instr.fill (fun i => some (i * m, m)) cs0.toArray pv = some cs.toArray := by
    have gen : ∀ (ps : List (Nat × Value)) (zs : Array Value), (∀ p ∈ ps, nth2 pl p.1 = some (p.1 * m, m)) → Instr.fill (pl.toArray[·]?) zs ps = Instr.fill (fun i => some (i * m, m)) zs ps := by
      intro ps
      induction ps with
      | nil => intro zs _; rfl
      | cons p r ih =>
        intro zs hh
        have h0 := hh p (List.mem_cons_self ..)
        obtain ⟨i, v⟩ := p
        rw [nth2_eq] at h0
        simp only at h0
        have h0' : pl.toArray[i]? = some (i * m, m) := by simp [h0]
        unfold Instr.fill
        simp only [h0']
        split
        · rfl
        · exact ih _ (fun q hq => hh q (List.mem_cons_of_mem _ hq))
    rw [← gen pv _ hpl]; exact hf
  have hlen' : ¬ (len * m > 2 ^ 24) := by have : len * m ≤ 16777216 := by simpa using hlen
                                          omega
  refine wpList_plain rfl fun K hK => ?_
  unfold Oper.wp
  have ee : (execOp a.eval ⟨some d, .buildSlice t len parts.toArray, ty, pos, aft, none⟩).run P w = .ok (.value (.slice (some ⟨w.heap.size, 0, none⟩) len len)) (w.alloc (.cells cs.toArray e)) := by
    simp only [execOp, Instr.buildSlice, List.map_toArray, ep, Sem.run_bind, run_underlying ht, Result.andThen_ok, hse]
    rw [if_neg hlen']
    by_cases h00 : len * m = 0
    · simp only [h00, if_true] at h0 ⊢
      simp only [Sem.run_pure, Result.andThen_ok, h0, hf', newRow, Sem.run_bind, run_newObj, World.alloc_eq]
    · simp only [h00, if_false] at h0 ⊢
      simp only [Sem.run_bind, hz, Result.andThen_ok, Sem.run_pure, h0, hf', newRow, run_newObj, World.alloc_eq]
  rw [ee, Oper.upon_value]
  exact hK _ _ (k _ _ _ (F.put hn _) (H.alloc key e cs))
theorem putL_eq : ∀ (vs cs : List Value) (o : Nat), o + vs.length ≤ cs.length → putL cs o vs = cs.take o ++ vs ++ cs.drop (o + vs.length)
  | [], cs, o, _ => by simp [putL]
  | v :: r, cs, o, h => by
    simp only [List.length_cons] at h
    rw [putL, putL_eq r _ _ (by rw [put1_eq, List.length_set]; omega), put1_eq]
    rw [List.take_set, List.drop_set_of_lt (by omega)]
    rw [List.take_succ_eq_append_getElem (by omega : o < cs.length), List.set_append_right _ _ (by simp; omega)]
    have e : o - (cs.take o).length = 0 := by simp; omega
    rw [e]
    simp only [List.set_cons_zero, List.append_assoc, List.cons_append, List.nil_append]
    rw [show o + (v :: r).length = o + 1 + r.length by simp; omega]
theorem putL_full {vs cs : List Value} (h : vs.length = cs.length) : putL cs 0 vs = vs := by
  rw [putL_eq _ _ _ (by omega)]
  simp [h]
/-- a slice's literal of one element -/
theorem s_bs1 (key : Nat) {t e : TypeId} {d m : Nat} {x : Operand} {v zv : Value} {cs : List Value} (F : Fr n ds ρ a) (H : Hp cells bs w) (hn : Nat.blt d n = true)
    (ht : P.underlying t = some (.slice e)) (hse : ∀ w, (sizeOf e).run P w = .ok m w) (hz : ∀ w, (zeroValue e).run P w = .ok zv w) (hzs : zv.cells.size = m) (hm : Nat.ble m 16777216 = true) (hm0 : Nat.blt 0 m = true)
    (hx : ev ρ x = some v) (hv : cellsOf v = cs) (hl : cs.length = m)
    (k : ∀ g a w, Fr n ds ((d, .slice (some ⟨g, 0, none⟩) 1 1) :: ρ) a → Hp (⟨key, some g, e, cs⟩ :: cells) bs w → wpList P ops Q rest a w) :
    wpList P ops Q (⟨some d, .buildSlice t 1 #[(0, x)], ty, pos, aft, none⟩ :: rest) a w := by
  have hm0' : 0 < m := by simpa [Nat.blt_eq] using hm0
  subst hv
  refine s_bs key (len := 1) (parts := [(0, x)]) (pv := [(0, v)]) (pl := [(0, m)]) (cs0 := ((Array.range (1 * m)).map ((if 1 * m = 0 then (#[] : Array Value) else zv.cells)[· % (if 1 * m = 0 then (#[] : Array Value) else zv.cells).size]!)).toList) (cs := cellsOf v) F H hn ht hse hz (by simpa using hm) (by rw [Array.toArray_toList]) (.cons hx .nil) (by
    intro p hp; simp only [List.mem_singleton] at hp; subst hp; simp [nth2]) ?_ k
  unfold bld
  simp only [nth2, hl]
  have h2 : (Nat.beq m m && Nat.ble (0 + m) ((Array.range (1 * m)).map ((if 1 * m = 0 then (#[] : Array Value) else zv.cells)[· % (if 1 * m = 0 then (#[] : Array Value) else zv.cells).size]!)).toList.length) = true := by simp
  rw [h2]
  simp only [cond_true, bld, Option.some.injEq]
  exact putL_full (by simp [hl])
/-- append where there is room: in place -/
theorem s_appendRoom (key : Nat) {t e : TypeId} {z : Value} {size bytes : Nat} {x y : Operand} {d b o N m c cap g : Nat} {cs news : List Value} (F : Fr n ds ρ a) (H : Hp cells bs w) (hn : Nat.blt d n = true)
    (ht : P.underlying t = some (.slice e)) (hi : TI P e z size bytes)
    (hx : ev ρ x = some (.slice (some ⟨g, 0, none⟩) N cap)) (hy : ev ρ y = some (.slice (some ⟨b, o, none⟩) m c)) (hk : getC cells key = some ⟨key, some g, e, cs⟩) (hat : At w b o news) (hl : news.length = m * size) (h1 : ∀ u ∈ news, u.oneCell' = true)
    (hroom : N + m ≤ cap) (hlen : cs.length = cap * size)
    (k : ∀ a w', Fr n ds ((d, .slice (some ⟨g, 0, none⟩) (N + m) cap) :: ρ) a → Hp (setC cells key (putL cs (N * size) news)) bs w' → wpList P ops Q rest a w') :
    wpList P ops Q (⟨some d, .call { callee := .builtin .append, args := #[x, y], argTypes := #[t, t] }, ty, pos, aft, none⟩ :: rest) a w := by
  obtain ⟨i, hi, hz, hsize, hby⟩ := hi
  subst hsize
  have hg := H.cell hk rfl
  have hfit : N * i.size + news.length ≤ cs.length := by rw [hl, hlen, ← Nat.add_mul]; exact Nat.mul_le_mul_right _ hroom
  have hld := run_loadCells (P := P) hat hl
  obtain ⟨w', hr, hh, ho⟩ := run_storeCells (P := P) news cs w (N * i.size) 0 hg (by simpa using hfit) h1
  refine wpList_plain rfl fun K hK => ?_
  unfold Oper.wp
  have ee : (execOp a.eval ⟨some d, .call { callee := .builtin .append, args := #[x, y], argTypes := #[t, t] }, ty, pos, aft, none⟩).run P w = .ok (.value (.slice (some ⟨g, 0, none⟩) (N + m) cap)) w' := by
    simp [execOp, resolve, invoke, builtin, F.ev hx, F.ev hy, Builtin.append_, run_underlying ht, sizeOf, typeInfo, hi, Builtin.lenOf, hroom, Builtin.firstCells, hld, addr_add, hr]
  rw [ee, Oper.upon_value]
  exact hK _ _ (k _ _ (F.put hn _) (H.set hk _ (fun _ e => by cases e; exact hh) ho))
theorem zeroCells_list (zs : List Value) (m : Nat) : ∃ l : List Value, (Builtin.zeroCells zs.toArray m).toList = l ∧ l.length = m * zs.length ∧ ∀ u ∈ l, u ∈ zs := by
  refine ⟨_, rfl, by simp [Builtin.zeroCells], ?_⟩
  intro u hu
  simp only [Builtin.zeroCells, Array.toList_map, List.mem_map, Array.mem_toList_iff] at hu
  obtain ⟨i, hi, rfl⟩ := hu
  have hi' : i < m * zs.length := by simpa using hi
  have hpos : 0 < zs.length := by
    rcases Nat.eq_zero_or_pos zs.length with h | h
    · rw [h] at hi'; simp at hi'
    · exact h
  have hlt : i % zs.length < zs.length := Nat.mod_lt _ hpos
  simp only [List.size_toArray]
  rw [getElem!_pos zs.toArray (i % zs.length) (by simpa using hlt)]
  simp
/-- clear a part of a row of one's own -/
theorem s_clear (key : Nat) {t e : TypeId} {x : Operand} {zv : Value} {zs : List Value} {N c g o m : Nat} {cs : List Value} (F : Fr n ds ρ a) (H : Hp cells bs w)
    (ht : P.underlying t = some (.slice e)) (hz : ∀ w, (zeroValue e).run P w = .ok zv w) (hzs : zv.cells = zs.toArray) (hzl : zs.length = m) (h1 : one1 zs = true)
    (hx : ev ρ x = some (.slice (some ⟨g, o, none⟩) N c)) (hk : getC cells key = some ⟨key, some g, e, cs⟩) (hfit : 0 < N → o + N * m ≤ cs.length)
    (k : ∀ l a w', l.length = N * m → Fr n ds ρ a → Hp (setC cells key (putL cs o l)) bs w' → wpList P ops Q rest a w') :
    wpList P ops Q (⟨none, .call { callee := .builtin .clear, args := #[x], argTypes := #[t] }, ty, pos, aft, none⟩ :: rest) a w := by
  have hg := H.cell hk rfl
  obtain ⟨l, hl, hll, hlm⟩ := zeroCells_list zs N
  rw [hzl] at hll
  refine wpList_plain rfl fun K hK => ?_
  unfold Oper.wp
  by_cases hN : N = 0
  · subst hN
    have ee : (execOp a.eval ⟨none, .call { callee := .builtin .clear, args := #[x], argTypes := #[t] }, ty, pos, aft, none⟩).run P w = .ok (.value (.tuple #[])) w := by
      simp [execOp, resolve, invoke, builtin, F.ev hx, Builtin.clear_, run_underlying ht]
    rw [ee, Oper.upon_value]
    have hl0 : l = [] := List.eq_nil_of_length_eq_zero (by simpa using hll)
    subst hl0
    exact hK _ _ (k [] _ _ (by simp) F (H.set hk _ (fun _ e => by cases e; exact hg) (Old.refl _ _)))
  · obtain ⟨w', hr, hh, ho⟩ := run_storeCells (P := P) l cs w o 0 hg (by rw [hll]; simpa using hfit (by omega)) (fun u hu => one1_mem h1 u (hlm u hu))
    have ee : (execOp a.eval ⟨none, .call { callee := .builtin .clear, args := #[x], argTypes := #[t] }, ty, pos, aft, none⟩).run P w = .ok (.value (.tuple #[])) w' := by
      cases N with
      | zero => omega
      | succ N => simp [execOp, resolve, invoke, builtin, F.ev hx, Builtin.clear_, run_underlying ht, hz, hzs, hl, hr]
    rw [ee, Oper.upon_value]
    exact hK _ _ (k l _ _ hll F (H.set hk _ (fun _ e => by cases e; exact hh) ho))
end
end Go.Sx
