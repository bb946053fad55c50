/-
  Regions whose order the tape draws. (A) all operations only read, or are calls whose value is known: one walk in the text's order. (B) any region: what only reads is taken first.
-/
import Derived.Test.YtilakloilkkfmaaSxCall
import Derived.Deep.Quiet
namespace Go.Sx
open Go
section quiet
variable {P : Program} {n : Nat} {ds : List Deferred} {ρ : Rho} {cells : List Cel} {bs : List Base} {a : Act} {w : World}
variable {ops : Array Oper} {l rest : List Oper} {Q : Exit → Act → World → Prop} {K : Act → Prop}
variable {ty : TypeId} {pos : String} {aft : Array Edge} {gd : Option (Nat × Bool)}

/-- the walk of a quiet region -/
abbrev Wq (P : Program) (ops : Array Oper) (cells : List Cel) (bs : List Base) (K : Act → Prop) (l : List Oper) (a : Act) : Prop := wpQuiet P ops (Hp cells bs) K l a

theorem rgq {id : Nat} {y : Code} (H : Hp cells bs w) (hm : P.follows .mixedOrders = true) (hB : Region.lexB .any l.toArray = true)
    (h : Wq P l.toArray cells bs (fun a => ∀ w, Hp cells bs w → y.wp P Q a w) l a) : (Code.seq (.region id l.toArray true) y).wp P Q a w :=
  wp_seq (wp_region_quiet (C := Hp cells bs) hm hB (H.old (Old.drew w)) h)
theorem rgq1 {id : Nat} (H : Hp cells bs w) (hm : P.follows .mixedOrders = true) (hB : Region.lexB .any l.toArray = true)
    (h : Wq P l.toArray cells bs (fun a => ∀ w, Hp cells bs w → Q .normal a w) l a) : (Code.region id l.toArray true).wp P Q a w :=
  wp_region_quiet (C := Hp cells bs) hm hB (H.old (Old.drew w)) h
theorem nlq (h : K a) : Wq P ops cells bs K [] a := h
theorem stq {o : Oper} {d : Nat} {v : Value} (F : Fr n ds ρ a) (hd : o.dst = some d) (hg : o.guard = none) (hn : Nat.blt d n = true) (y : Y P o n ds ρ cells bs v)
    (k : ∀ a, Fr n ds ((d, v) :: ρ) a → Wq P ops cells bs K rest a) : Wq P ops cells bs K (o :: rest) a := by
  show wpQuiet _ _ _ _ _ _
  unfold wpQuiet
  rw [if_pos (by simp [Region.wanted, hg])]
  refine ⟨v, fun w H => ?_, by rw [hd]; exact k _ (F.put hn v)⟩
  unfold Oper.quietAt
  rw [y a w F H]
  exact ⟨rfl, rfl⟩
theorem gtq {o : Oper} {j d : Nat} {b c : Bool} {oj : Oper} (F : Fr n ds ρ a) (hg : o.guard = some (j, b)) (hj : ops[j]? = some oj) (hd : oj.dst = some d) (hv : get ρ d = some (.bool c)) (hb : c = b)
    (k : Wq P ops cells bs K ({ o with guard := none } :: rest) a) : Wq P ops cells bs K (o :: rest) a := by
  have hw : Region.wanted o (yielded ops a.tmps) = true := by
    have := F.fr _ _ hv
    subst hb
    simp [Region.wanted, hg, yielded, hj, hd, this]
  show wpQuiet _ _ _ _ _ _
  have k' : wpQuiet P ops (Hp cells bs) K ({ o with guard := none } :: rest) a := k
  unfold wpQuiet at k' ⊢
  rw [if_pos hw]
  rw [if_pos (by simp [Region.wanted])] at k'
  exact k'
theorem callq {fx : Operand} {xs : List Operand} {f : FuncId} {cs vs : List Value} {ats : Array TypeId} {d : Nat} {v : Value} (F : Fr n ds ρ a) (hn : Nat.blt d n = true)
    (hf : ev ρ fx = some (.func (.func f) #[] cs.toArray)) (hx : Args ρ xs vs) (hen : ∀ args w, (callFunc f args).run P w = .ok (.enter f args) w)
    (hc : ∀ w, Hp cells bs w → CallsTo P f (vs ++ cs) w [] (fun u _ => u = v))
    (k : ∀ a, Fr n ds ((d, v) :: ρ) a → Wq P ops cells bs K rest a) :
    Wq P ops cells bs K (⟨some d, .call { callee := .value fx, args := xs.toArray, argTypes := ats }, ty, pos, aft, none⟩ :: rest) a := by
  show wpQuiet _ _ _ _ _ _
  unfold wpQuiet
  rw [if_pos (by simp [Region.wanted])]
  refine ⟨v, fun w H => ?_, k _ (F.put hn v)⟩
  unfold Oper.quietAt
  rw [run_call_fn (fs := []) F hf hx hen]
  refine ⟨rfl, Calls.mono (hc w H) ?_⟩
  rintro e w' ⟨u, rfl, h1, rfl⟩
  exact ⟨rfl, H.old h1⟩
theorem Wq_frame {D : List Nat} : ∀ (l : List Oper) (a a0 : Act), dstsIn D l = true → (∀ i, i ∉ D → a.tmps[i]? = a0.tmps[i]?) →
    Wq P ops cells bs K l a → Wq P ops cells bs (fun a' => K a' ∧ ∀ i, i ∉ D → a'.tmps[i]? = a0.tmps[i]?) l a
  | [], a, a0, _, ha, h => ⟨h, ha⟩
  | o :: l, a, a0, hd, ha, h => by
    simp only [dstsIn, Bool.and_eq_true] at hd
    have h' : wpQuiet P ops (Hp cells bs) K (o :: l) a := h
    show wpQuiet _ _ _ _ _ _
    unfold wpQuiet at h' ⊢
    split
    · rename_i hw
      rw [if_pos hw] at h'
      obtain ⟨v, h1, h2⟩ := h'
      exact ⟨v, h1, Wq_frame l _ a0 hd.2 (fun i hi => by rw [put_other hd.1 i hi]; exact ha i hi) h2⟩
    · rename_i hw
      rw [if_neg hw] at h'
      exact Wq_frame l _ a0 hd.2 (fun i hi => by rw [put_other hd.1 i hi]; exact ha i hi) h'
theorem Wq_append {K' : Act → Prop} : ∀ (l r : List Oper) (a : Act), Wq P ops cells bs K' l a → (∀ a, K' a → Wq P ops cells bs K r a) → Wq P ops cells bs K (l ++ r) a
  | [], r, a, h, hk => hk _ h
  | o :: l, r, a, h, hk => by
    rw [List.cons_append]
    have h' : wpQuiet P ops (Hp cells bs) K' (o :: l) a := h
    show wpQuiet _ _ _ _ _ _
    unfold wpQuiet at h' ⊢
    split
    · rename_i hw
      rw [if_pos hw] at h'
      obtain ⟨v, h1, h2⟩ := h'
      exact ⟨v, h1, Wq_append l r _ h2 hk⟩
    · rename_i hw
      rw [if_neg hw] at h'
      exact Wq_append l r _ h' hk
theorem Wq_skips {tb : Nat} {want : Bool} {K' : Act → Prop} : ∀ (l : List Oper) (D : List Nat) (a : Act), skips ops tb want l D = true →
    a.tmps[tb]? = some (.bool (!want)) → (∀ d ∈ D, a.tmps[d]? = some undef ∨ a.tmps[d]? = none) → (∀ a', (a'.defers = a.defers ∧ a'.tmps.size = a.tmps.size) → K' a') → Wq P ops cells bs K' l a
  | [], _, a, _, _, _, hk => hk a ⟨rfl, rfl⟩
  | o :: l, D, a, hs, ht, hD, hk => by
    unfold skips at hs
    split at hs
    · rename_i j b e hg he
      simp only [Bool.and_eq_true, Bool.not_eq_true'] at hs
      obtain ⟨⟨h1, h2⟩, h3⟩ := hs
      have hne : e ≠ tb := by rintro rfl; simp at h2
      have hw : Region.wanted o (yielded ops a.tmps) = false := by
        split at h1
        · rename_i d hd
          cases ho : ops[j]? with
          | none => simp [ho] at hd
          | some oj =>
            simp only [ho, Option.bind_some] at hd
            rcases Bool.or_eq_true _ _ ▸ h1 with h | h
            · simp only [Bool.and_eq_true, beq_iff_eq] at h
              have hdt : d = tb := Nat.eq_of_beq_eq_true h.1
              subst hdt
              obtain ⟨_, rfl⟩ := h
              cases b <;> simp [Region.wanted, hg, yielded, ho, hd, ht]
            · simp only [Bool.and_eq_true] at h
              rcases hD d (by simpa using h.1) with hu | hu <;> simp [Region.wanted, hg, yielded, ho, hd, hu, undef]
        · cases h1
      show wpQuiet _ _ _ _ _ _
      unfold wpQuiet
      rw [if_neg (by simp [hw]), he]
      refine Wq_skips l (e :: D) _ h3 ?_ ?_ ?_
      · simp [Act.put, hne, ht]
      · intro d hd
        by_cases hde : e = d
        · subst hde
          by_cases hlt : e < a.tmps.size
          · exact .inl (by simp [Act.put, hlt])
          · exact .inr (by simp [Act.put, hlt])
        · rcases List.mem_cons.1 hd with rfl | hd
          · exact absurd rfl hde
          · simpa [Act.put, hde] using hD d hd
      · intro a' ha'
        exact hk a' ⟨ha'.1, by rw [ha'.2]; simp [Act.put]⟩
    · cases hs
theorem guardBlockq (want : Bool) (m : Nat) {b c : Bool} {tb tc : Nat} {o : Oper} (F : Fr n ds ρ a) (hl : l.drop m = o :: rest)
    (hb : get ρ tb = some (.bool b)) (hs : skips ops tb want (l.take m) [] = true) (hk : noK (dstsOf (l.take m)) ρ = true)
    (hT : b = want → ∀ K' : Act → Prop, (∀ ρe a, Fr n ds ρe a → get ρe tc = some (.bool c) → K' a) → Wq P ops cells bs K' (l.take m) a)
    (hpick : ∀ a, Fr n ds ρ a → (b = want → a.tmps[tc]? = some (.bool c)) → Wq P ops cells bs K (o :: rest) a) : Wq P ops cells bs K l a := by
  have e : l = l.take m ++ (o :: rest) := by rw [← hl, List.take_append_drop]
  rw [e]
  by_cases hbw : b = want
  · have h0 := hT hbw (fun a' => a'.defers = ds ∧ a'.tmps.size = n ∧ a'.tmps[tc]? = some (.bool c)) (fun ρe a' F' hc => ⟨F'.df, F'.sz, F'.fr _ _ hc⟩)
    have h1 := Wq_frame (D := dstsOf (l.take m)) (l.take m) a a (dstsIn_of _) (fun _ _ => rfl) h0
    refine Wq_append _ _ a h1 ?_
    rintro a' ⟨⟨h2, h3, h4⟩, h6⟩
    exact hpick a' ⟨h2, h3, fun i v hv => by rw [h6 i (noK_get hk hv)]; exact F.fr i v hv⟩ (fun _ => h4)
  · have hbn : b = !want := by cases b <;> cases want <;> first | rfl | exact absurd rfl hbw
    subst hbn
    have h0 := Wq_skips (P := P) (cells := cells) (bs := bs) (K' := fun a' => a'.defers = ds ∧ a'.tmps.size = n) (l.take m) [] a hs (F.fr _ _ hb) (by simp) (fun a' h => ⟨h.1.trans F.df, h.2.trans F.sz⟩)
    have h1 := Wq_frame (D := dstsOf (l.take m)) (l.take m) a a (dstsIn_of _) (fun _ _ => rfl) h0
    refine Wq_append _ _ a h1 ?_
    rintro a' ⟨⟨h2, h3⟩, h6⟩
    exact hpick a' ⟨h2, h3, fun i v hv => by rw [h6 i (noK_get hk hv)]; exact F.fr i v hv⟩ (fun h => absurd h hbw)
theorem wq_pick {o : Oper} {d : Nat} {v : Value} (F : Fr n ds ρ a) (hw : Wt ops ρ o.guard) (hd : o.dst = some d) (hn : Nat.blt d n = true) (hr : ∀ w, (execOp a.eval o).run P w = .ok (.value v) w)
    (k : ∀ a, Fr n ds ((d, v) :: ρ) a → Wq P ops cells bs K rest a) : Wq P ops cells bs K (o :: rest) a := by
  show wpQuiet _ _ _ _ _ _
  unfold wpQuiet
  rw [if_pos (hw.wanted F)]
  refine ⟨v, fun w H => ?_, by rw [hd]; exact k _ (F.put hn v)⟩
  unfold Oper.quietAt
  rw [hr w]
  exact ⟨rfl, rfl⟩
theorem gandq (m : Nat) {b c : Bool} {d tb tc : Nat} (F : Fr n ds ρ a) (hl : l.drop m = ⟨some d, .pick (.tmp tb) (.tmp tc) (.const (.bool false)), ty, pos, aft, gd⟩ :: rest) (hw : Wt ops ρ gd)
    (hb : get ρ tb = some (.bool b)) (hs : skips ops tb true (l.take m) [] = true) (hk : noK (dstsOf (l.take m)) ρ = true) (hn : Nat.blt d n = true)
    (hT : b = true → ∀ K' : Act → Prop, (∀ ρe a, Fr n ds ρe a → get ρe tc = some (.bool c) → K' a) → Wq P ops cells bs K' (l.take m) a)
    (k : ∀ a, Fr n ds ((d, .bool (b && c)) :: ρ) a → Wq P ops cells bs K rest a) : Wq P ops cells bs K l a := by
  refine guardBlockq true m F hl hb hs hk hT fun a F hc => ?_
  refine wq_pick (v := .bool (b && c)) F hw rfl hn (fun w => ?_) k
  have ht := F.ev (x := .tmp tb) hb
  cases b with
  | false => simp [execOp, ht, asBool]; rfl
  | true =>
    have : a.eval (.tmp tc) = .bool c := by simp [Act.eval, hc rfl]
    simp [execOp, ht, asBool, this]
theorem gorq (m : Nat) {b c : Bool} {d tb tc : Nat} (F : Fr n ds ρ a) (hl : l.drop m = ⟨some d, .pick (.tmp tb) (.const (.bool true)) (.tmp tc), ty, pos, aft, gd⟩ :: rest) (hw : Wt ops ρ gd)
    (hb : get ρ tb = some (.bool b)) (hs : skips ops tb false (l.take m) [] = true) (hk : noK (dstsOf (l.take m)) ρ = true) (hn : Nat.blt d n = true)
    (hT : b = false → ∀ K' : Act → Prop, (∀ ρe a, Fr n ds ρe a → get ρe tc = some (.bool c) → K' a) → Wq P ops cells bs K' (l.take m) a)
    (k : ∀ a, Fr n ds ((d, .bool (b || c)) :: ρ) a → Wq P ops cells bs K rest a) : Wq P ops cells bs K l a := by
  refine guardBlockq false m F hl hb hs hk hT fun a F hc => ?_
  refine wq_pick (v := .bool (b || c)) F hw rfl hn (fun w => ?_) k
  have ht := F.ev (x := .tmp tb) hb
  cases b with
  | true => simp [execOp, ht, asBool]; rfl
  | false =>
    have : a.eval (.tmp tc) = .bool c := by simp [Act.eval, hc rfl]
    simp [execOp, ht, asBool, this]
end quiet

section drawn
variable {P : Program} {ops : Array Oper} {Q : Exit → Act → World → Prop} {A B : World → Prop} {pre pre2 : List Nat}
/-- what an operation keeps: those of pre keep A, those of pre2 keep B -/
def Kp (A B : World → Prop) (pre pre2 : List Nat) (i : Nat) (w w' : World) : Prop := (i ∈ pre → A w → A w') ∧ (i ∈ pre2 → B w → B w')
theorem Kp.rfl {i : Nat} {w : World} : Kp A B pre pre2 i w w := ⟨fun _ h => h, fun _ h => h⟩
/-- whatever order is drawn from here on; each operation keeps what it keeps -/
def wpG (P : Program) (ops : Array Oper) (Q : Exit → Act → World → Prop) (A B : World → Prop) (pre pre2 : List Nat) : Nat → Array Bool → Act → World → Prop
  | 0, listed, a, w => Region.ready .any ops listed = [] ∧ Q .normal a w
  | fuel + 1, listed, a, w =>
    (Region.ready .any ops listed = [] → Q .normal a w) ∧
    ∀ i ∈ Region.ready .any ops listed, wpOp P ops Q i (fun a' w' => Kp A B pre pre2 i w w' ∧ wpG P ops Q A B pre pre2 fuel (listed.setIfInBounds i true) a' w') a w
theorem wpAny_of_G : ∀ (fuel : Nat) (listed : Array Bool) (a : Act) (w : World), wpG P ops Q A B pre pre2 fuel listed a w → wpAny P .any ops Q fuel listed a w
  | 0, _, _, _, h => h
  | fuel + 1, _, _, _, h => ⟨h.1, fun i hi => wpOp_mono (fun a' w' h' => wpAny_of_G fuel _ a' w' h'.2) (h.2 i hi)⟩
/-- whoever is not of pre waits for number i -/
def sufB (ops : Array Oper) (pre : List Nat) (i : Nat) : Bool :=
  (List.range ops.size).all fun j => pre.contains j || ((ops[j]?).map fun o => o.after.any fun e => Region.binds .any e && e.on == i).getD true
theorem wpG_first {R : World → Prop} {pr : List Nat} {i : Nat} {oi : Oper} {v : Value} (hi : ops[i]? = some oi) (hsel : ∀ (j : Nat) (o : Oper) cs b, ops[j]? = some o → o.op ≠ .select cs b)
    (hQ : ∀ c a w, Q (.panic c) (a.put oi.dst v) w → Q (.panic c) a w) (hsuf : sufB ops pr i = true) (hR : ∀ j w w', j ∈ pr → Kp A B pre pre2 j w w' → R w → R w') :
    ∀ (fuel : Nat) (listed : Array Bool) (a : Act) (w : World),
      (∀ j oj, ops[j]? = some oj → j ≠ i → listed.getD j true = false → (∀ e ∈ oj.after, Region.binds .any e = true → e.on ≠ i) → oi.apart ops oj = true) →
      i ∈ Region.ready .any ops listed → YieldsIf P ops R oi v a → R w →
      wpG P ops Q A B pre pre2 fuel (listed.setIfInBounds i true) (a.put oi.dst v) w → wpG P ops Q A B pre pre2 (fuel + 1) listed a w := by
  intro fuel
  induction fuel with
  | zero =>
    intro listed a w _ hr hy hS H
    refine ⟨fun h => (by rw [h] at hr; cases hr), fun j hj => ?_⟩
    by_cases hji : j = i
    · subst hji; exact hy.wpOp hi hS ⟨Kp.rfl, H⟩
    · have := ready_mono hj hji
      rw [H.1] at this
      cases this
  | succ fuel ih =>
    intro listed a w hfree hr hy hS H
    refine ⟨fun h => (by rw [h] at hr; cases hr), fun j hj => ?_⟩
    by_cases hji : j = i
    · subst hji; exact hy.wpOp hi hS ⟨Kp.rfl, H⟩
    · have h1 := H.2 j (ready_mono hj hji)
      obtain ⟨hjun, oj, hoj, hall⟩ := mem_ready.1 hj
      have hnot : ∀ e ∈ oj.after, Region.binds .any e = true → e.on ≠ i := fun e he hb heq => by
        have h1 := hall e he hb
        have h0 := (mem_ready.1 hr).1
        rw [heq] at h1
        rcases Nat.lt_or_ge i listed.size with h' | h'
        · simp [h'] at h0 h1; rw [h0] at h1; cases h1
        · simp [Array.getElem?_eq_none h'] at h1
      have hjpre : j ∈ pr := by
        have hjs : j < ops.size := (Array.getElem?_eq_some_iff.1 hoj).1
        have := List.all_eq_true.1 hsuf j (List.mem_range.2 hjs)
        rcases Bool.or_eq_true _ _ ▸ this with h | h
        · simpa using h
        · simp only [hoj, Option.map_some, Option.getD_some, Array.any_eq_true, Bool.and_eq_true, beq_iff_eq] at h
          obtain ⟨k, hk, hb, he⟩ := h
          exact absurd he (hnot _ (Array.getElem_mem hk) hb)
      have h2 := wpOp_putIf hoj (hfree j oj hoj hji hjun hnot) (fun cs b => hsel i oi cs b hi) (fun cs b => hsel j oj cs b hoj) hQ hy h1
      have hfree' : ∀ k ok, ops[k]? = some ok → k ≠ i → (listed.setIfInBounds j true).getD k true = false →
          (∀ e ∈ ok.after, Region.binds .any e = true → e.on ≠ i) → oi.apart ops ok = true := fun k ok hk hki hun hno => by
        refine hfree k ok hk hki ?_ hno
        by_cases hjk : j = k
        · subst hjk; exact hjun
        · rw [getD_set_ne true hjk] at hun; exact hun
      refine wpOp_mono (fun a' w' h3 => ⟨h3.2.1, ih (listed.setIfInBounds j true) a' w' hfree' (ready_mono hr (Ne.symm hji)) h3.1 (hR j w w' hjpre h3.2.1 hS) ?_⟩) h2
      rw [Array.setIfInBounds_comm _ _ hji]
      exact h3.2.2
/-- all that a take asks of the text -/
def takeB (ops : Array Oper) (pr : List Nat) (listed : Array Bool) (i : Nat) : Bool :=
  Region.noSelect ops && Region.free .any ops listed i && (Region.ready .any ops listed).contains i && sufB ops pr i
/-- panics are shut out -/
def NoP (Q : Exit → Act → World → Prop) : Exit → Act → World → Prop
  | .panic _, _, _ => False
  | e, a, w => Q e a w
theorem NoP.of {Q : Exit → Act → World → Prop} : ∀ e a w, NoP Q e a w → Q e a w := by
  intro e a w h
  cases e <;> first | exact h | exact h.elim
variable {n : Nat} {ds : List Deferred} {ρ : Rho} {cells : List Cel} {bs : List Base} {a : Act} {w : World} {fuel : Nat} {listed : Array Bool}
/-- cells left out, by their keys -/
def rms : List Nat → List Cel → List Cel
  | [], c => c
  | k :: r, c => rms r (rmC c k)
theorem rms_sub : ∀ (ks : List Nat) (l : List Cel), (rms ks l).Sublist l
  | [], l => List.Sublist.refl _
  | k :: r, l => (rms_sub r _).trans (rmC_sub l k)
theorem Hp.rms (H : Hp cells bs w) (ks : List Nat) : Hp (Sx.rms ks cells) bs w := H.sub (rms_sub ks cells)
/-- the beginning -/
theorem rgd {id : Nat} {y : Code} {l : List Oper} (pre pre2 : List Nat) (A B : World → Prop) (hm : P.follows .mixedOrders = true)
    (h : wpG P l.toArray (NoP (Exit.then (y.wp P Q) Q)) A B pre pre2 l.toArray.size (Array.replicate l.toArray.size false) a w.drew) : (Code.seq (.region id l.toArray true) y).wp P Q a w :=
  wp_seq (wp_mono (wp_region_any hm (wpAny_of_G _ _ _ _ h)) NoP.of)
theorem rgd1 {id : Nat} {l : List Oper} (pre pre2 : List Nat) (A B : World → Prop) (hm : P.follows .mixedOrders = true)
    (h : wpG P l.toArray (NoP Q) A B pre pre2 l.toArray.size (Array.replicate l.toArray.size false) a w.drew) : (Code.region id l.toArray true).wp P Q a w :=
  wp_mono (wp_region_any hm (wpAny_of_G _ _ _ _ h)) NoP.of
theorem rgdH {id : Nat} {y : Code} {l : List Oper} (pre pre2 d1 d2 : List Nat) (_H : Hp cells bs w) (hm : P.follows .mixedOrders = true)
    (h : wpG P l.toArray (NoP (Exit.then (y.wp P Q) Q)) (Hp (rms d1 cells) bs) (Hp (rms d2 cells) bs) pre pre2 l.toArray.size (Array.replicate l.toArray.size false) a w.drew) : (Code.seq (.region id l.toArray true) y).wp P Q a w := rgd pre pre2 _ _ hm h
theorem rgd1H {id : Nat} {l : List Oper} (pre pre2 d1 d2 : List Nat) (_H : Hp cells bs w) (hm : P.follows .mixedOrders = true)
    (h : wpG P l.toArray (NoP Q) (Hp (rms d1 cells) bs) (Hp (rms d2 cells) bs) pre pre2 l.toArray.size (Array.replicate l.toArray.size false) a w.drew) : (Code.region id l.toArray true).wp P Q a w := rgd1 pre pre2 _ _ hm h
/-- number i is taken first -/
theorem tk (i : Nat) {o : Oper} {d : Nat} {v : Value} {cells bs} (F : Fr n ds ρ a) (hS : Hp cells bs w) (hc : takeB ops pre listed i = true) (hi : ops[i]? = some o) (hd : o.dst = some d) (hn : Nat.blt d n = true) (hw : Wt ops ρ o.guard)
    (y : Y P o n ds ρ cells bs v) (k : ∀ a, Fr n ds ((d, v) :: ρ) a → wpG P ops (NoP Q) (Hp cells bs) B pre pre2 fuel (listed.setIfInBounds i true) a w) : wpG P ops (NoP Q) (Hp cells bs) B pre pre2 (fuel + 1) listed a w := by
  simp only [takeB, Bool.and_eq_true] at hc
  obtain ⟨⟨⟨h1, h2⟩, h3⟩, h5⟩ := hc
  refine wpG_first (v := v) (R := Hp cells bs) hi (Region.noSelect_spec h1) (fun c a w h => h) h5 (fun j w w' hj hk => hk.1 hj) fuel listed a w (Region.free_spec hi h2) (by simpa using h3) (.inl ⟨hw.wanted F, fun w hw => y a w F hw⟩) hS ?_
  rw [hd]
  exact k _ (F.put hn v)
theorem tk2 (i : Nat) {o : Oper} {d : Nat} {v : Value} {cells bs} (F : Fr n ds ρ a) (hS : Hp cells bs w) (hc : takeB ops pre2 listed i = true) (hi : ops[i]? = some o) (hd : o.dst = some d) (hn : Nat.blt d n = true) (hw : Wt ops ρ o.guard)
    (y : Y P o n ds ρ cells bs v) (k : ∀ a, Fr n ds ((d, v) :: ρ) a → wpG P ops (NoP Q) A (Hp cells bs) pre pre2 fuel (listed.setIfInBounds i true) a w) : wpG P ops (NoP Q) A (Hp cells bs) pre pre2 (fuel + 1) listed a w := by
  simp only [takeB, Bool.and_eq_true] at hc
  obtain ⟨⟨⟨h1, h2⟩, h3⟩, h5⟩ := hc
  refine wpG_first (v := v) (R := Hp cells bs) hi (Region.noSelect_spec h1) (fun c a w h => h) h5 (fun j w w' hj hk => hk.2 hj) fuel listed a w (Region.free_spec hi h2) (by simpa using h3) (.inl ⟨hw.wanted F, fun w hw => y a w F hw⟩) hS ?_
  rw [hd]
  exact k _ (F.put hn v)
/-- number i alone may come up -/
theorem one (i : Nat) (hr : Region.ready .any ops listed = [i]) (h : wpOp P ops (NoP Q) i (fun a' w' => Kp A B pre pre2 i w w' ∧ wpG P ops (NoP Q) A B pre pre2 fuel (listed.setIfInBounds i true) a' w') a w) : wpG P ops (NoP Q) A B pre pre2 (fuel + 1) listed a w :=
  ⟨fun h0 => (by rw [hr] at h0; cases h0), fun j hj => by
    rw [hr] at hj
    simp only [List.mem_singleton] at hj
    subst hj
    exact h⟩
/-- two may come up: in both orders -/
theorem two (i j : Nat) (hr : Region.ready .any ops listed = [i, j]) (h1 : wpOp P ops (NoP Q) i (fun a' w' => Kp A B pre pre2 i w w' ∧ wpG P ops (NoP Q) A B pre pre2 fuel (listed.setIfInBounds i true) a' w') a w)
    (h2 : wpOp P ops (NoP Q) j (fun a' w' => Kp A B pre pre2 j w w' ∧ wpG P ops (NoP Q) A B pre pre2 fuel (listed.setIfInBounds j true) a' w') a w) : wpG P ops (NoP Q) A B pre pre2 (fuel + 1) listed a w :=
  ⟨fun h0 => (by rw [hr] at h0; cases h0), fun x hx => by
    rw [hr] at hx
    simp only [List.mem_cons, List.mem_nil_iff, or_false] at hx
    rcases hx with rfl | rfl
    · exact h1
    · exact h2⟩
theorem dn (hr : Region.ready .any ops listed = []) (h : Q .normal a w) : ∀ fuel, wpG P ops (NoP Q) A B pre pre2 fuel listed a w
  | 0 => ⟨hr, h⟩
  | _ + 1 => ⟨fun _ => h, by rw [hr]; simp⟩
/-- an operation as in a plain list -/
theorem wpOp_of_list {i : Nat} {o : Oper} {K : Act → World → Prop} (hi : ops[i]? = some o) (h : wpList P ops (Exit.then K (NoP Q)) [o] a w) : wpOp P ops (NoP Q) i K a w := by
  unfold wpOp
  simp only [hi]
  unfold wpList at h
  split
  · rename_i hw
    rw [if_pos hw] at h
    have conv : ∀ {K1 : Act → World → Prop}, o.wp P a w K1 (Exit.then K (NoP Q)) → o.wp P a w K1 (NoP Q) := by
      intro K1 h
      unfold Oper.wp at *
      generalize (execOp a.eval o).run P w = r at *
      cases r with
      | ok nx w' => cases nx <;> simp only [Oper.upon] at h ⊢ <;> first | exact h | exact Calls.mono h (fun e w'' he => by cases e <;> first | exact he | (obtain ⟨x, y, z⟩ := he; exact ⟨x, y, z⟩))
      | halt x w' => cases x <;> simp only [Oper.upon] at h ⊢ <;> exact h
    rcases h with h | ⟨h1, x, y, z⟩
    · exact .inl (conv (Oper.wp_mono (fun a' w' h' => h') h))
    · exact .inr ⟨h1, x, y, z⟩
  · rename_i hw
    rw [if_neg hw] at h
    exact h
theorem br1 {i : Nat} {o : Oper} {K : Act → World → Prop} (hi : ops[i]? = some o) (h : wpList P ops (Exit.then K (NoP Q)) [o] a w) : wpOp P ops (NoP Q) i K a w := wpOp_of_list hi h
/-- number i alone may come up: as the first of a plain list -/
theorem one' (i : Nat) {o : Oper} (hr : Region.ready .any ops listed = [i]) (hi : ops[i]? = some o)
    (h : wpList P ops (Exit.then (fun a' w' => Kp A B pre pre2 i w w' ∧ wpG P ops (NoP Q) A B pre pre2 fuel (listed.setIfInBounds i true) a' w') (NoP Q)) [o] a w) : wpG P ops (NoP Q) A B pre pre2 (fuel + 1) listed a w :=
  one i hr (wpOp_of_list hi h)
end drawn
end Go.Sx
