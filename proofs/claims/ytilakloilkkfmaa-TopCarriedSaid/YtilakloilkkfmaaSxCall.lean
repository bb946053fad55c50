/-
  Entering a function, leaving it, calling one by its contract, storing into a cell of one's own.
-/
import Derived.Test.YtilakloilkkfmaaSxGuard
namespace Go.Sx
open Go

/-- the arguments, by their numbers -/
def ixs : Nat → List Value → Rho
  | _, [] => []
  | i, v :: r => (i, v) :: ixs (i + 1) r
theorem ixs_get : ∀ (l : List Value) (k i : Nat) (v : Value), get (ixs k l) i = some v → k ≤ i ∧ l[i - k]? = some v
  | [], _, _, _, h => by cases h
  | u :: r, k, i, v, h => by
    unfold ixs get at h
    cases hb : Nat.beq k i <;> rw [hb] at h
    · simp only [cond_false] at h
      obtain ⟨h1, h2⟩ := ixs_get r (k + 1) i v h
      refine ⟨by omega, ?_⟩
      obtain ⟨j, rfl⟩ : ∃ j, i = k + 1 + j := ⟨i - (k + 1), by omega⟩
      have e1 : k + 1 + j - (k + 1) = j := by omega
      have e2 : k + 1 + j - k = j + 1 := by omega
      rw [e1] at h2; rw [e2]; simpa using h2
    · have he : k = i := Nat.eq_of_beq_eq_true hb
      subst he
      simp only [cond_true, Option.some.injEq] at h
      subst h
      simp

section
variable {P : Program} {Q : Exit → Act → World → Prop}
/-- a function is entered -/
theorem enter {f : FuncId} {fn : Func} {c : Code} {args : List Value} {w : World} {R : Ending → World → Prop} {m : Nat} (hf : P.funcs[f]? = some fn) (hb : fn.body = some c) (hn : fn.ntmps = m)
    (hl : Nat.ble args.length m = true) (h : ∀ a, Fr m [] (ixs 0 args) a → c.wp P (bodyPost P fn R) a w) : Calls P f args.toArray w R := by
  refine calls_of_wp hf hb (h _ ?_)
  have hl' : args.length ≤ m := by simpa using hl
  have := Fr.new (ρ := ixs 0 args) (l := args) (m := m - args.length) (fun i v hv => by simpa using (ixs_get args 0 i v hv).2)
  rw [hn]
  simp only [List.size_toArray]
  have e : args.length + (m - args.length) = m := by omega
  rwa [e] at this

/-- what a result variable holds -/
def rvS (tmps : Array Value) : ResultVar → Sem Value
  | .tmp t => pure (tmps.getD t undef)
  | .cell x t => do loadVar t (← asAddr (tmps.getD x undef))
theorem results_eq (fn : Func) (tmps : Array Value) : results fn tmps = (do let vs ← fn.results.mapM (rvS tmps); pure (if h : vs.size = 1 then vs[0] else .tuple vs)) := by
  unfold results
  have : (fun r : ResultVar => (match r with
    | .tmp t => pure (tmps.getD t undef)
    | .cell a t => do loadVar t (← asAddr (tmps.getD a undef)) : Sem Value)) = rvS tmps := by funext r; cases r <;> rfl
  rw [← this]
  rfl
def RV (P : Program) (n : Nat) (ds : List Deferred) (ρ : Rho) (cells : List Cel) (bs : List Base) (r : ResultVar) (v : Value) : Prop :=
  ∀ a w, Fr n ds ρ a → Hp cells bs w → (rvS a.tmps r).run P w = .ok v w
variable {n : Nat} {ds : List Deferred} {ρ : Rho} {cells : List Cel} {bs : List Base} {a : Act} {w : World} {fn : Func} {R : Ending → World → Prop}
theorem rv {t : Nat} {v : Value} (h : get ρ t = some v) : RV P n ds ρ cells bs (.tmp t) v := by
  intro a w F H
  have := F.fr _ _ h
  simp [rvS, this]
theorem rva {t x m key : Nat} {g : Nat} {c : TypeId} {cs : List Value} (hx : get ρ x = some (.pointer (some ⟨g, 0, none⟩))) (hc : getC cells key = some ⟨key, some g, c, cs⟩)
    (ha : ∀ w, (isAgg t).run P w = .ok true w) (hz : ∀ w, (sizeOf t).run P w = .ok m w) (hb : Nat.ble (0 + m) cs.length = true) : RV P n ds ρ cells bs (.cell x t) (.agg (slc cs 0 m).toArray) := by
  intro a w F H
  have h1 := F.fr _ _ hx
  have h2 := run_loadCells (P := P) (At.slc (H.cell hc rfl) hb) (slc_length cs m 0)
  simp [rvS, h1, asAddr, loadVar, ha, hz, h2]
theorem rv1 {t x key : Nat} {g : Nat} {c : TypeId} {cs : List Value} {v : Value} (hx : get ρ x = some (.pointer (some ⟨g, 0, none⟩))) (hc : getC cells key = some ⟨key, some g, c, cs⟩)
    (ha : ∀ w, (isAgg t).run P w = .ok false w) (hv : nth cs 0 = some v) : RV P n ds ρ cells bs (.cell x t) v := by
  intro a w F H
  have h1 := F.fr _ _ hx
  have h2 : w.cell? ⟨g, 0, none⟩ = some v := by rw [cell_of_blk (H.cell hc rfl), ← nth_eq, hv]
  simp [rvS, h1, asAddr, loadVar, ha, h2]
theorem ret0 (F : Fr n [] ρ a) (hr : fn.results = #[]) (hR : R (.returned (.tuple #[])) w) : bodyPost P fn R .ret a w :=
  bodyPost_ret (results_none hr _ _ _) F.df hR
theorem end0 (F : Fr n [] ρ a) (hr : fn.results = #[]) (hR : R (.returned (.tuple #[])) w) : bodyPost P fn R .normal a w :=
  bodyPost_end (results_none hr _ _ _) F.df hR
theorem ret1 {r : ResultVar} {v : Value} (F : Fr n [] ρ a) (H : Hp cells bs w) (hr : fn.results = #[r]) (h : RV P n [] ρ cells bs r v) (hR : R (.returned v) w) : bodyPost P fn R .ret a w := by
  refine bodyPost_ret ?_ F.df hR
  have := h a w F H
  simp [results_eq, hr, this]
theorem ret2 {r1 r2 : ResultVar} {v1 v2 : Value} (F : Fr n [] ρ a) (H : Hp cells bs w) (hr : fn.results = #[r1, r2]) (h1 : RV P n [] ρ cells bs r1 v1) (h2 : RV P n [] ρ cells bs r2 v2)
    (hR : R (.returned (.tuple #[v1, v2])) w) : bodyPost P fn R .ret a w := by
  refine bodyPost_ret ?_ F.df hR
  have e1 := h1 a w F H
  have e2 := h2 a w F H
  simp [results_eq, hr, e1, e2]
theorem ret3 {r1 r2 r3 : ResultVar} {v1 v2 v3 : Value} (F : Fr n [] ρ a) (H : Hp cells bs w) (hr : fn.results = #[r1, r2, r3]) (h1 : RV P n [] ρ cells bs r1 v1) (h2 : RV P n [] ρ cells bs r2 v2) (h3 : RV P n [] ρ cells bs r3 v3)
    (hR : R (.returned (.tuple #[v1, v2, v3])) w) : bodyPost P fn R .ret a w := by
  refine bodyPost_ret ?_ F.df hR
  have e1 := h1 a w F H
  have e2 := h2 a w F H
  have e3 := h3 a w F H
  simp [results_eq, hr, e1, e2, e3]
theorem ret4 {r1 r2 r3 r4 : ResultVar} {v1 v2 v3 v4 : Value} (F : Fr n [] ρ a) (H : Hp cells bs w) (hr : fn.results = #[r1, r2, r3, r4]) (h1 : RV P n [] ρ cells bs r1 v1) (h2 : RV P n [] ρ cells bs r2 v2) (h3 : RV P n [] ρ cells bs r3 v3) (h4 : RV P n [] ρ cells bs r4 v4)
    (hR : R (.returned (.tuple #[v1, v2, v3, v4])) w) : bodyPost P fn R .ret a w := by
  refine bodyPost_ret ?_ F.df hR
  have e1 := h1 a w F H
  have e2 := h2 a w F H
  have e3 := h3 a w F H
  have e4 := h4 a w F H
  simp [results_eq, hr, e1, e2, e3, e4]

/-! ### ways out -/
section
variable {x : Act → World → Prop} {id id' : Nat} {Q : Exit → Act → World → Prop}
theorem th_n (h : x a w) : Exit.then x Q .normal a w := h
theorem th_r (h : Q .ret a w) : Exit.then x Q .ret a w := h
theorem th_x (h : Q (.exit id) a w) : Exit.then x Q (.exit id) a w := h
theorem ib_n (h : Q .normal a w) : Exit.inBlock id Q .normal a w := h
theorem ib_r (h : Q .ret a w) : Exit.inBlock id Q .ret a w := h
theorem ib_x (h : Q .normal a w) : Exit.inBlock id Q (.exit id) a w := by simp [Exit.inBlock, h]
theorem ib_y (hne : Nat.beq id' id = false) (h : Q (.exit id') a w) : Exit.inBlock id Q (.exit id') a w := by
  have : id' ≠ id := by rintro rfl; simp at hne
  simp [Exit.inBlock, this, h]
/-- a loop, by an invariant over ghosts -/
theorem lp {G : Type} {c : Code} {P : Program} (I : G → Act → World → Prop) (μ : G → Nat) (g : G) (h0 : I g a w)
    (round : ∀ g a w, I g a w → c.wp P (Exit.then (fun a' w' => ∃ g', I g' a' w' ∧ μ g' < μ g) Q) a w) : (Code.loop c).wp P Q a w := by
  intro b k cs
  have key : ∀ n g a w, μ g = n → I g a w →
      ∃ e a' w', Q e a' w' ∧ Arrives P (lone (b.at a (.code c :: .inLoop c :: k)) cs w) b k cs e a' w' := by
    intro n
    induction n using Nat.strongRecOn with
    | _ n ih =>
      intro g a w hn hI
      obtain ⟨e, a₁, w₁, hq, harr⟩ := round g a w hI b (.inLoop c :: k) cs
      cases e with
      | normal =>
        obtain ⟨g', hI₁, hlt⟩ := hq
        obtain ⟨e₂, a₂, w₂, hq₂, harr₂⟩ := ih (μ g') (hn ▸ hlt) g' a₁ w₁ rfl hI₁
        exact ⟨e₂, a₂, w₂, hq₂, .of_steps (Steps.trans harr (.one step_inLoop)) harr₂⟩
      | exit id => exact ⟨_, a₁, w₁, hq, .pass (x := .inLoop c) rfl (fun _ _ => .inl (by simp)) harr⟩
      | goto l => exact ⟨_, a₁, w₁, hq, .pass (x := .inLoop c) rfl (fun _ _ => .inl (by simp)) harr⟩
      | ret => exact ⟨_, a₁, w₁, hq, .pass (x := .inLoop c) rfl (fun _ _ => .inl (by simp)) harr⟩
      | panic ch => exact ⟨_, a₁, w₁, hq, .pass (x := .inLoop c) rfl (fun _ _ => .inl (by simp)) harr⟩
      | outgrown => exact ⟨_, a₁, w₁, hq, .pass (x := .inLoop c) rfl (fun _ _ => .inl (by simp)) harr⟩
  obtain ⟨e, a', w', hq, harr⟩ := key _ g a w rfl h0
  exact ⟨e, a', w', hq, .of_steps (.one step_loop) harr⟩
end

/-! ### calls -/
/-- what a call comes to: a value, and a world in which what lay there lies as it did (but for the blocks of E) -/
def CallsTo (P : Program) (f : FuncId) (args : List Value) (w : World) (E : List Nat) (T : Value → World → Prop) : Prop :=
  Calls P f args.toArray w fun e w' => ∃ v, e = .returned v ∧ Old E w w' ∧ T v w'
theorem CallsTo.mono {f : FuncId} {args : List Value} {E : List Nat} {T T' : Value → World → Prop} (h : CallsTo P f args w E T) (hT : ∀ v w', Old E w w' → T v w' → T' v w') : CallsTo P f args w E T' :=
  Calls.mono h fun _ w' ⟨v, h1, h2, h3⟩ => ⟨v, h1, h2, hT v w' h2 h3⟩
variable {ops : Array Oper} {rest : List Oper} {ty : TypeId} {pos : String} {aft : Array Edge}
theorem run_call_fn {fx : Operand} {xs : List Operand} {f : FuncId} {fs cs vs : List Value} {ats : Array TypeId} {dst : Option Nat} (F : Fr n ds ρ a) (hf : ev ρ fx = some (.func (.func f) fs.toArray cs.toArray))
    (hx : Args ρ xs vs) (hen : ∀ args w, (callFunc f args).run P w = .ok (.enter f args) w) :
    (execOp a.eval ⟨dst, .call { callee := .value fx, args := xs.toArray, argTypes := ats }, ty, pos, aft, none⟩).run P w = .ok (.enter f (fs ++ vs ++ cs).toArray) w := by
  simp [execOp, resolve, Deferred.ofValue, invoke, F.ev hf, evs F hx, hen]
theorem s_call {fx : Operand} {xs : List Operand} {f : FuncId} {cs vs : List Value} {ats : Array TypeId} {d : Nat} {T : Value → World → Prop} (F : Fr n ds ρ a) (H : Hp cells bs w) (hn : Nat.blt d n = true)
    (hf : ev ρ fx = some (.func (.func f) #[] cs.toArray)) (hx : Args ρ xs vs) (hen : ∀ args w, (callFunc f args).run P w = .ok (.enter f args) w)
    (hc : CallsTo P f (vs ++ cs) w [] T)
    (k : ∀ v a w', T v w' → Old [] w w' → Fr n ds ((d, v) :: ρ) a → Hp cells bs w' → wpList P ops Q rest a w') :
    wpList P ops Q (⟨some d, .call { callee := .value fx, args := xs.toArray, argTypes := ats }, ty, pos, aft, none⟩ :: rest) a w := by
  refine wpList_plain rfl fun K hK => ?_
  unfold Oper.wp
  rw [run_call_fn (fs := []) F hf hx hen, Oper.upon_enter]
  refine Calls.mono hc ?_
  rintro e w' ⟨v, rfl, h1, h2⟩
  exact hK _ _ (k v _ _ h2 h1 (F.put hn v) (H.old h1))
/-- a call whose value is known, and that leaves the world as it is or makes memory only -/
theorem s_callV {fx : Operand} {xs : List Operand} {f : FuncId} {cs vs : List Value} {ats : Array TypeId} {d : Nat} {v : Value} (F : Fr n ds ρ a) (H : Hp cells bs w) (hn : Nat.blt d n = true)
    (hf : ev ρ fx = some (.func (.func f) #[] cs.toArray)) (hx : Args ρ xs vs) (hen : ∀ args w, (callFunc f args).run P w = .ok (.enter f args) w)
    (hc : CallsTo P f (vs ++ cs) w [] (fun u _ => u = v))
    (k : ∀ a w', Fr n ds ((d, v) :: ρ) a → Hp cells bs w' → wpList P ops Q rest a w') :
    wpList P ops Q (⟨some d, .call { callee := .value fx, args := xs.toArray, argTypes := ats }, ty, pos, aft, none⟩ :: rest) a w :=
  s_call F H hn hf hx hen hc fun _ a w' e _ F H => k a w' (e ▸ F) H
/-- a call that is entered in place -/
theorem s_in {fx : Operand} {xs : List Operand} {f : FuncId} {cs vs : List Value} {ats : Array TypeId} {d : Nat} (F : Fr n ds ρ a)
    (hf : ev ρ fx = some (.func (.func f) #[] cs.toArray)) (hx : Args ρ xs vs) (hen : ∀ args w, (callFunc f args).run P w = .ok (.enter f args) w) (hn : Nat.blt d n = true)
    (k : Calls P f (vs ++ cs).toArray w (fun e w' => ∃ v, e = .returned v ∧ ∀ a, Fr n ds ((d, v) :: ρ) a → wpList P ops Q rest a w')) :
    wpList P ops Q (⟨some d, .call { callee := .value fx, args := xs.toArray, argTypes := ats }, ty, pos, aft, none⟩ :: rest) a w := by
  refine wpList_plain rfl fun K hK => ?_
  unfold Oper.wp
  rw [run_call_fn (fs := []) F hf hx hen, Oper.upon_enter]
  refine Calls.mono k ?_
  rintro e w' ⟨v, rfl, h2⟩
  exact hK _ _ (h2 _ (F.put hn v))

/-! ### a store into a cell of one's own -/
theorem heap_setCell_same {w : World} {g : Nat} {cs : List Value} {t : TypeId} (h : w.heap[g]? = some (.cells cs.toArray t (0, 0))) (o : Nat) (v : Value) :
    (w.setCell ⟨g, o, none⟩ v).heap[g]? = some (.cells (put1 cs o v).toArray t (0, 0)) := by
  simp [World.setCell, Array.getElem?_modify, h, put1_eq]
theorem Old.setCell {w : World} {g o : Nat} {v : Value} : Old [g] w (w.setCell ⟨g, o, none⟩ v) :=
  ⟨rfl, rfl, rfl, by simp, fun k _ hk => by
    have : g ≠ k := by rintro rfl; simp at hk
    simp [World.setCell, Array.getElem?_modify, this]⟩
theorem run_storeCells {g t : Nat} : ∀ (vs : List Value) (cs : List Value) (w : World) (o i : Nat), w.heap[g]? = some (.cells cs.toArray t (0, 0)) → o + i + vs.length ≤ cs.length → (∀ v ∈ vs, v.oneCell' = true) →
    ∃ w', (storeCells ⟨g, o, none⟩ vs i).run P w = .ok () w' ∧ w'.heap[g]? = some (.cells (putL cs (o + i) vs).toArray t (0, 0)) ∧ Old [g] w w'
  | [], cs, w, o, i, h, _, _ => ⟨w, by simp [storeCells], h, Old.refl _ _⟩
  | v :: vs, cs, w, o, i, h, hl, h1 => by
    have hc : w.cell? ⟨g, o + i, none⟩ = some (cs[o + i]'(by simp at hl; omega)) := by
      rw [cell_of_blk h, List.getElem?_eq_getElem]
    have hfz : w.frozen? ⟨g, o + i, none⟩ = false := by simp [World.frozen?, h]
    obtain ⟨w', hr, hh, ho⟩ := run_storeCells (g := g) (t := t) vs (put1 cs (o + i) v) (w.setCell ⟨g, o + i, none⟩ v) o (i + 1) (heap_setCell_same h _ _)
      (by simp [put1_eq]; simp at hl; omega) (fun u hu => h1 u (List.mem_cons_of_mem _ hu))
    refine ⟨w', ?_, ?_, Old.setCell.trans ho⟩
    · have h1v := h1 v (List.mem_cons_self ..)
      simp only [storeCells, Sem.run_bind, addr_add, run_store _ _ _ _ _ h1v, hc, hfz]
      simpa using hr
    · rw [hh]; rfl
def one1 : List Value → Bool
  | [] => true
  | v :: r => v.oneCell' && one1 r
theorem one1_mem : ∀ {l : List Value}, one1 l = true → ∀ v ∈ l, v.oneCell' = true
  | [], _, _, h => by cases h
  | u :: r, h, v, hv => by
    simp only [one1, Bool.and_eq_true] at h
    rcases List.mem_cons.1 hv with rfl | hv
    · exact h.1
    · exact one1_mem h.2 v hv
theorem s_st {x y : Operand} {t : TypeId} {key g o m : Nat} {c : TypeId} {cs vs : List Value} {v : Value} (F : Fr n ds ρ a) (H : Hp cells bs w) (hx : ev ρ x = some (.pointer (some ⟨g, o, none⟩)))
    (hy : ev ρ y = some v) (hv : v.cells = vs.toArray) (hc : getC cells key = some ⟨key, some g, c, cs⟩) (hz : ∀ w, (sizeOf t).run P w = .ok m w) (hm : Nat.beq vs.length m = true) (hb : Nat.ble (o + vs.length) cs.length = true)
    (h1 : one1 vs = true) (k : ∀ a w, Fr n ds ρ a → Hp (setC cells key (putL cs o vs)) bs w → wpList P ops Q rest a w) :
    wpList P ops Q (⟨none, .store t x y, ty, pos, aft, none⟩ :: rest) a w := by
  refine wpList_plain rfl fun K hK => ?_
  have hcell := H.cell hc rfl
  obtain ⟨w', hr, hh, ho⟩ := run_storeCells (P := P) vs cs w o 0 hcell (by simpa using hb) (one1_mem h1)
  have hm' : vs.length = m := Nat.eq_of_beq_eq_true hm
  unfold Oper.wp
  have e : (execOp a.eval ⟨none, .store t x y, ty, pos, aft, none⟩).run P w = .ok .skip w' := by
    simp [execOp, F.ev hx, F.ev hy, Instr.storeAt, Instr.sureAddr, storeVar, hv, hz, hm', hr]
  rw [e, Oper.upon_skip]
  exact hK _ _ (k _ _ F (H.set hc _ (fun _ e => by cases e; exact hh) ho))
end
end Go.Sx
