/-
  A range over a function: the kit's law (the sixth form) at facts about the heap.
-/
import Derived.Test.YtilakloilkkfmaaSxRep
import Derived.RangeFuncNested
import Derived.RangeFuncLeaves
namespace Go.Sx
open Go Go.RowKit
section
variable {P : Program} {n : Nat} {ds : List Deferred} {ρ : Rho} {cells : List Cel} {bs : List Base} {a : Act} {w W W' : World}
/-- the fence within a round, that asks nothing -/
abbrev FR (l : Nat) : Fence := Fence.wide.inRound l
def noDefer : List Oper → Bool
  | [] => true
  | o :: r => (match o.op with | .defer _ => false | _ => true) && noDefer r
theorem noDefer_head {o : Oper} {r : List Oper} (h : noDefer (o :: r) = true) : ∀ c, o.op ≠ .defer c := by
  intro c hc
  simp [noDefer, hc] at h
theorem noDefer_tail {o : Oper} {r : List Oper} (h : noDefer (o :: r) = true) : noDefer r = true := by
  simp only [noDefer, Bool.and_eq_true] at h; exact h.2
theorem rowsIn_wide {m : Nat} {row : String} {args : Array Value} {R : Value → World → Prop} (h : Rows P row args w R) : RowsIn Fence.wide m P row args w R :=
  fun c cs _ => let ⟨v, w', r, s⟩ := h c cs; ⟨v, w', r, stepsIn_wide.2 s⟩
theorem operIn {l0 m : Nat} {o : Oper} {K : Act → World → Prop} {Q : Exit → Act → World → Prop} (hd : ∀ c, o.op ≠ .defer c) (h : o.wp P a w K Q) : o.wpIn (FR l0) m P a w K Q := by
  refine ⟨fun _ _ => trivial, ?_⟩
  rw [Oper.semAt_eq _ _ _ hd]
  unfold Oper.wp at h
  generalize (execOp a.eval o).run P w = r at *
  cases r with
  | ok nx w' =>
    cases nx with
    | enter f args => exact ⟨fun h => (by cases h), (callsIn_wide.2 h).inRound l0⟩
    | row r args => exact ⟨fun h => (by cases h), rowsIn_wide h⟩
    | value v => exact h
    | skip => exact h
    | «defer» d => exact h
    | _ => exact h.elim
  | halt x w' => cases x <;> simp only [Oper.upon, Oper.uponIn] at h ⊢ <;> exact h
def Fal : Exit → Act → World → Prop := fun _ _ _ => False
/-- a plain list of operations, within a round -/
theorem toIn {l0 m : Nat} {ops : Array Oper} {K : Act → World → Prop} : ∀ (l : List Oper) (a : Act) (w : World), noDefer l = true → wpList P ops (Exit.then K Fal) l a w → wpListIn (FR l0) m P ops (Exit.then K Fal) l a w
  | [], _, _, _, h => h
  | o :: l, a, w, hn, h => by
    unfold wpList at h
    unfold wpListIn
    split
    · rename_i hw
      rw [if_pos hw] at h
      rcases h with h | ⟨_, x, y, z⟩
      · exact operIn (noDefer_head hn) (Oper.wp_mono (fun a' w' h' => toIn l a' w' (noDefer_tail hn) h') h)
      · exact z.elim
    · rename_i hw
      rw [if_neg hw] at h
      exact ⟨fun _ _ => trivial, toIn l _ w (noDefer_tail hn) h⟩
theorem rgR {l0 m id : Nat} {l : List Oper} {K : Act → World → Prop} (hn : noDefer l = true) (h : wpList P l.toArray (Exit.then K Fal) l a w) : (Code.region id l.toArray false).wpIn (FR l0) m P (Exit.then K Fal) a w :=
  wpIn_region_lit (toIn l a w hn h)

/-- what is known abides the turn of a block that is no cells and lies behind all the bases -/
theorem Hp.turned {B : Nat} {row : Option Nat} (H : Hp cells bs W) (hg : W.grownBy W' row) (hr : ∀ r, row = some r → B ≤ r ∧ ∃ o : Obj, W.heap[r]? = some o ∧ o.isCells = false) (hb : ∀ b ∈ bs, b.w.heap.size ≤ B) : Hp cells bs W' := by
  refine ⟨fun c hc g hcg => ?_, H.nd, fun b hbm => ⟨?_, (H.bo b hbm).2⟩⟩
  · have h1 := H.hp c hc g hcg
    have hlt : g < W.heap.size := (Array.getElem?_eq_some_iff.1 h1).1
    rw [hg.block g hlt (fun e => by
      obtain ⟨_, o, ho, hn⟩ := hr g e.symm
      rw [h1] at ho; cases ho; cases hn)]
    exact h1
  · have h1 := (H.bo b hbm).1
    have h2 := hb b hbm
    exact ⟨hg.os.trans h1.os, hg.tape.trans h1.tape, hg.output.trans h1.out, Nat.le_trans h1.sz hg.size, fun k hk hE => by
      rw [hg.block k (Nat.lt_of_lt_of_le hk h1.sz) (fun e => by have := (hr k e.symm).1; omega)]
      exact h1.bl k hk hE⟩
/-- what a round keeps -/
theorem keeps {cells0 cells' : List Cel} {bs' : List Base} (H0 : Hp cells0 bs W) (H : Hp cells' (bs' ++ [⟨blks cells0, W⟩]) W') (B : Nat) : KeepsFrom B W W' := by
  have h := (H.bo ⟨blks cells0, W⟩ (by simp)).1
  refine ⟨h.sz, fun k o _ hk ho => ?_⟩
  have hlt : k < W.heap.size := (Array.getElem?_eq_some_iff.1 hk).1
  rw [h.bl k hlt (fun hm => by
    obtain ⟨c, hc, hg⟩ := mem_blks.1 hm
    have := H0.hp c hc k hg
    rw [hk] at this; cases this; cases ho)]
  exact hk
theorem belows {cells0 cells' : List Cel} {bs' : List Base} {n0 : Nat} (H : Hp cells' (bs' ++ [⟨blks cells0, W⟩]) W') (h0 : ∀ c ∈ cells0, ∀ g, c.g = some g → n0 ≤ g) (hn : n0 ≤ W.heap.size) : Below n0 W W' := by
  have h : Old (blks cells0) W W' := (H.bo ⟨blks cells0, W⟩ (by simp)).1
  refine ⟨h.os, h.tape, h.out, h.sz, fun k hk => h.bl k (by omega) (fun hm => ?_)⟩
  obtain ⟨c, hc, hg⟩ := mem_blks.1 hm
  have := h0 c hc k hg
  omega
/-- another cell: a block that lies there already -/
theorem Hp.addAt (H : Hp cells bs w) (k : Nat) {g : Nat} {t : TypeId} {cs : List Value} (hg : w.heap[g]? = some (.cells cs.toArray t (0, 0))) (hne : ∀ c ∈ cells, c.g ≠ some g) (hb : ∀ b ∈ bs, b.w.heap.size ≤ g) : Hp (⟨k, some g, t, cs⟩ :: cells) bs w := by
  refine ⟨?_, ?_, fun b hbm => ⟨(H.bo b hbm).1, ?_⟩⟩
  · intro c hc g' hcg
    rcases List.mem_cons.1 hc with rfl | hc
    · cases hcg; exact hg
    · exact H.hp c hc g' hcg
  · simp only [List.filterMap_cons, List.nodup_cons]
    exact ⟨fun hm => by obtain ⟨c, hc, he⟩ := List.mem_filterMap.1 hm; exact hne c hc he, H.nd⟩
  · intro c hc g' hcg
    rcases List.mem_cons.1 hc with rfl | hc
    · cases hcg; exact .inr (hb b hbm)
    · exact (H.bo b hbm).2 c hc g' hcg
theorem adr_inj {x y : Option Nat} (h : adr x = adr y) : x = y := by cases x <;> cases y <;> simp_all [adr]
theorem Fr.assign1 (F : Fr n [] ρ a) {d : Nat} (hd : Nat.blt d n = true) (v : Value) : Fr n [] ((d, v) :: ρ) { tmps := (#[d].zip #[v]).foldl (fun t (p, v) => t.setIfInBounds p v) a.tmps, defers := [] } := by
  have h := F.put hd v
  exact ⟨rfl, by simpa [Act.put] using h.sz, fun i u hi => by simpa [Act.put] using h.fr i u hi⟩
theorem Fr.mark (F : Fr n [] ρ a) (d : Deferred) : Fr n [d] ρ { a with defers := d :: a.defers } := ⟨by simp [F.df], F.sz, F.fr⟩

/-! ### a function whose body holds a range over a function -/
theorem enterM {f : FuncId} {fn : Func} {c : Code} {args : List Value} {R : Ending → World → Prop} {m : Nat} (hf : P.funcs[f]? = some fn) (hb : fn.body = some c) (hn : fn.ntmps = m)
    (hl : Nat.ble args.length m = true) (h : ∀ a, Fr m [] (ixs 0 args) a → c.wp P (bodyPostM Fence.wide 5 P fn R) a w) : Calls P f args.toArray w R := by
  refine callsIn_wide.1 (callsIn_of_wp_marks (F := Fence.wide) (n := 5) hf hb trivial (wpIn_wide.2 (h _ ?_)) rfl)
  have hl' : args.length ≤ m := by simpa using hl
  have := Fr.new (ρ := ixs 0 args) (l := args) (m := m - args.length) (fun i v hv => by simpa using (ixs_get args 0 i v hv).2)
  rw [hn]
  simp only [List.size_toArray]
  have e : args.length + (m - args.length) = m := by omega
  rwa [e] at this
/-- the return behind the one loop -/
theorem ret1M {D : Nat} {r : ResultVar} {v : Value} {fn : Func} {R : Ending → World → Prop} (F : Fr n [{ target := .collected D, args := #[] }] ρ a) (hD : w.heap[D]? = some (.deferred (some []))) (hr : fn.results = #[r])
    (h : ∀ a w', Fr n [{ target := .collected D, args := #[] }] ρ a → w' = w.putObj D (.deferred none) → (rvS a.tmps r).run P w' = .ok v w') (hR : R (.returned v) (w.putObj D (.deferred none))) : bodyPostM Fence.wide 5 P fn R .ret a w := by
  show LeavesInM Fence.wide 5 P fn a.tmps R a.defers .returning w
  rw [F.df]
  refine ⟨by simp, .inl ⟨D, _, rfl, run_takeDeferred hD, ?_⟩⟩
  refine ⟨v, ?_, hR⟩
  have := h a _ F rfl
  simp [results_eq, hr, this]
/-! ### yield is called -/
theorem operW {m : Nat} {o : Oper} {K : Act → World → Prop} {Q : Exit → Act → World → Prop} (h : o.wp P a w K Q) : o.wpIn Fence.wide m P a w K Q := by
  refine ⟨fun _ _ => trivial, ?_⟩
  unfold Oper.wp at h
  show o.uponIn Fence.wide m P a K Q ((execOp a.eval o).run P w)
  generalize (execOp a.eval o).run P w = r at *
  cases r with
  | ok nx w' =>
    cases nx with
    | enter f args => exact ⟨fun h => (by cases h), callsIn_wide.2 h⟩
    | row r args => exact ⟨fun h => (by cases h), rowsIn_wide h⟩
    | value v => exact h
    | skip => exact h
    | «defer» d => exact h
    | _ => exact h.elim
  | halt x w' => cases x <;> simp only [Oper.upon, Oper.uponIn] at h ⊢ <;> exact h
theorem append_wide {m : Nat} {ops : Array Oper} {Q : Exit → Act → World → Prop} {l2 : List Oper} : ∀ (l : List Oper) (a : Act) (w : World), wpList P ops (Exit.then (fun a w => wpListIn Fence.wide m P ops Q l2 a w) Fal) l a w → wpListIn Fence.wide m P ops Q (l ++ l2) a w
  | [], _, _, h => h
  | o :: l, a, w, h => by
    rw [List.cons_append]
    unfold wpList at h
    unfold wpListIn
    split
    · rename_i hw
      rw [if_pos hw] at h
      rcases h with h | ⟨_, x, y, z⟩
      · have conv : ∀ {K1 : Act → World → Prop}, o.wp P a w K1 (Exit.then (fun a w => wpListIn Fence.wide m P ops Q l2 a w) Fal) → o.wp P a w K1 Q := by
          intro K1 h
          unfold Oper.wp at *
          generalize (execOp a.eval o).run P w = r at *
          cases r with
          | ok nx w' => cases nx <;> simp only [Oper.upon] at h ⊢ <;> first | exact h | exact Calls.mono h (fun e w'' he => by cases e <;> first | exact he | exact he.elim | (obtain ⟨x, y, z⟩ := he; exact z.elim))
          | halt x w' => cases x <;> simp only [Oper.upon] at h ⊢ <;> exact h.elim
        exact operW (Oper.wp_mono (fun a' w' h' => append_wide l a' w' h') (conv h))
      · exact z.elim
    · rename_i hw
      rw [if_neg hw] at h
      exact ⟨fun _ _ => trivial, append_wide l _ w h⟩
/-- the first k operations are plain -/
theorem plainW (k : Nat) {m : Nat} {ops : Array Oper} {Q : Exit → Act → World → Prop} {l : List Oper} (h : wpList P ops (Exit.then (fun a w => wpListIn Fence.wide m P ops Q (l.drop k) a w) Fal) (l.take k) a w) : wpListIn Fence.wide m P ops Q l a w := by
  have := append_wide (l.take k) a w h
  rwa [List.take_append_drop] at this
/-- the call of yield -/
theorem s_yield {m : Nat} {ops : Array Oper} {Q : Exit → Act → World → Prop} {rest : List Oper} {fx x : Operand} {ats : Array TypeId} {ty : TypeId} {pos : String} {aft : Array Edge} {gd : Option (Nat × Bool)} {d l : Nat} {v : Value} {R : Ending → World → Prop}
    (F : Fr n ds ρ a) (hw : Wt ops ρ gd) (hn : Nat.blt d n = true) (hf : ev ρ fx = some (.func (.yield l) #[] #[])) (hx : ev ρ x = some v) (hY : YieldAt Fence.wide (m - 1) P l #[v] w R)
    (k : ∀ e w', R e w' → ∃ u, e = .returned u ∧ ∀ a, Fr n ds ((d, u) :: ρ) a → wpListIn Fence.wide m P ops Q rest a w') :
    wpListIn Fence.wide m P ops Q (⟨some d, .call { callee := .value fx, args := #[x], argTypes := ats }, ty, pos, aft, gd⟩ :: rest) a w := by
  obtain ⟨fn, tmps, assign, body, hy, hR⟩ := hY
  unfold wpListIn
  rw [if_pos (hw.wanted F)]
  refine ⟨fun _ _ => trivial, ?_⟩
  have e : (Oper.semAt Fence.wide.round a.eval ⟨some d, .call { callee := .value fx, args := #[x], argTypes := ats }, ty, pos, aft, gd⟩).run P w = .ok (.round l fn tmps assign body) w := by
    rw [show Fence.wide.round = none from rfl, Oper.semAt_none]
    simp [execOp, resolve, Deferred.ofValue, invoke, F.ev hf, F.ev hx, hy]
  rw [e, Oper.uponIn_round]
  refine ⟨fun h => (by cases h), hR.mono ?_⟩
  intro e w' h
  obtain ⟨u, rfl, hk⟩ := k e w' h
  exact hk _ (F.put hn u)
end
end Go.Sx
