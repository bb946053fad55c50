/-
  '&&' and '||': a guarded block of operations and the pick behind it, taken as one.
-/
import Derived.Test.YtilakloilkkfmaaSxOps
namespace Go.Sx
open Go
section
variable {P : Program} {ops : Array Oper} {Q : Exit → Act → World → Prop}

theorem Oper.wp_put {o : Oper} {a : Act} {w : World} {K : Act → World → Prop} (h : o.wp P a w K Q) : o.wp P a w (fun a' w' => K a' w' ∧ ∃ v, a'.tmps = (a.put o.dst v).tmps) Q := by
  unfold Oper.wp at *
  generalize (execOp a.eval o).run P w = r at *
  cases r with
  | ok nx w' =>
    cases nx <;> simp only [Oper.upon] at h ⊢ <;>
      first
        | exact ⟨h, _, rfl⟩
        | exact Calls.mono h (fun e w'' he => by cases e <;> first | exact ⟨he, _, rfl⟩ | exact he)
        | exact Rows.mono h (fun _ _ he => ⟨he, _, rfl⟩)
        | (refine ⟨h, undef, ?_⟩; cases hd : o.dst <;> simp [Act.put])
  | halt x w' => cases x <;> simp only [Oper.upon] at h ⊢ <;> exact h
def dstsIn (D : List Nat) : List Oper → Bool
  | [] => true
  | o :: r => (match o.dst with | some d => D.contains d | none => true) && dstsIn D r
theorem put_other {a : Act} {d : Option Nat} {D : List Nat} {v : Value} (hd : (match d with | some d => D.contains d | none => true) = true) (i : Nat) (hi : i ∉ D) :
    (a.put d v).tmps[i]? = a.tmps[i]? := by
  cases d with
  | none => rfl
  | some d =>
    have hne : d ≠ i := by rintro rfl; exact hi (by simpa using hd)
    simp [Act.put, hne]
theorem wpList_frame {D : List Nat} {K : Act → World → Prop} : ∀ (l : List Oper) (a a0 : Act) (w : World), dstsIn D l = true → (∀ i, i ∉ D → a.tmps[i]? = a0.tmps[i]?) →
    wpList P ops (Exit.then K Q) l a w → wpList P ops (Exit.then (fun a' w' => K a' w' ∧ ∀ i, i ∉ D → a'.tmps[i]? = a0.tmps[i]?) Q) l a w
  | [], a, a0, w, _, ha, h => ⟨h, ha⟩
  | o :: l, a, a0, w, hd, ha, h => by
    simp only [dstsIn, Bool.and_eq_true] at hd
    unfold wpList at h ⊢
    split
    · rename_i hw
      rw [if_pos hw] at h
      have conv : ∀ {K1 : Act → World → Prop}, o.wp P a w K1 (Exit.then K Q) → o.wp P a w K1 (Exit.then (fun a' w' => K a' w' ∧ ∀ i, i ∉ D → a'.tmps[i]? = a0.tmps[i]?) Q) := by
        intro K1 h
        unfold Oper.wp at *
        generalize (execOp a.eval o).run P w = r at *
        cases r with
        | ok nx w' => cases nx <;> simp only [Oper.upon] at h ⊢ <;> first | exact h | exact Calls.mono h (fun e w'' he => by cases e <;> first | exact he | (obtain ⟨x, y, z⟩ := he; exact ⟨x, y, z⟩))
        | halt x w' => cases x <;> simp only [Oper.upon] at h ⊢ <;> exact h
      rcases h with h | ⟨h1, x, y, z⟩
      · refine .inl (conv (Oper.wp_mono ?_ (Oper.wp_put h)))
        rintro a' w' ⟨h', v, hv⟩
        exact wpList_frame l a' a0 w' hd.2 (fun i hi => by rw [hv, put_other hd.1 i hi]; exact ha i hi) h'
      · exact .inr ⟨h1, x, y, z⟩
    · rename_i hw
      rw [if_neg hw] at h
      exact wpList_frame l _ a0 w hd.2 (fun i hi => by rw [put_other hd.1 i hi]; exact ha i hi) h
theorem wpList_append {K : Act → World → Prop} : ∀ (l r : List Oper) (a : Act) (w : World), wpList P ops (Exit.then K Q) l a w → (∀ a w, K a w → wpList P ops Q r a w) → wpList P ops Q (l ++ r) a w
  | [], r, a, w, h, hk => hk _ _ h
  | o :: l, r, a, w, h, hk => by
    rw [List.cons_append]
    unfold wpList at h ⊢
    split
    · rename_i hw
      rw [if_pos hw] at h
      have conv : ∀ {K1 : Act → World → Prop}, o.wp P a w K1 (Exit.then K Q) → o.wp P a w K1 Q := by
        intro K1 h
        unfold Oper.wp at *
        generalize (execOp a.eval o).run P w = r at *
        cases r with
        | ok nx w' => cases nx <;> simp only [Oper.upon] at h ⊢ <;> first | exact h | exact Calls.mono h (fun e w'' he => by cases e <;> first | exact he | (obtain ⟨x, y, z⟩ := he; exact ⟨x, y, z⟩))
        | halt x w' => cases x <;> simp only [Oper.upon] at h ⊢ <;> exact h
      rcases h with h | ⟨h1, x, y, z⟩
      · exact .inl (conv (Oper.wp_mono (fun a' w' h' => wpList_append l r a' w' h' hk) h))
      · exact .inr ⟨h1, x, y, z⟩
    · rename_i hw
      rw [if_neg hw] at h
      exact wpList_append l r _ w h hk
/-- all of these are passed over, where the guard's temporary tb is not what they want -/
def skips (ops : Array Oper) (tb : Nat) (want : Bool) : List Oper → List Nat → Bool
  | [], _ => true
  | o :: r, D =>
    match o.guard, o.dst with
    | some (j, b), some e =>
      (match (ops[j]?).bind (·.dst) with
        | some d => (Nat.beq d tb && (b == want)) || (D.contains d && !(Nat.beq d tb))
        | none => false) && !(Nat.beq e tb) && skips ops tb want r (e :: D)
    | _, _ => false
theorem wpList_skips {tb : Nat} {want : Bool} {K : Act → World → Prop} : ∀ (l : List Oper) (D : List Nat) (a : Act) (w : World), skips ops tb want l D = true →
    a.tmps[tb]? = some (.bool (!want)) → (∀ d ∈ D, a.tmps[d]? = some undef ∨ a.tmps[d]? = none) → (∀ a', (a'.defers = a.defers ∧ a'.tmps.size = a.tmps.size) → K a' w) → wpList P ops (Exit.then K Q) l a w
  | [], _, a, w, _, _, _, hk => hk a ⟨rfl, rfl⟩
  | o :: l, D, a, w, hs, ht, hD, hk => by
    unfold skips at hs
    split at hs
    · rename_i j b e hg he
      simp only [Bool.and_eq_true, Bool.not_eq_true'] at hs
      obtain ⟨⟨h1, h2⟩, h3⟩ := hs
      have hne : e ≠ tb := by rintro rfl; simp at h2
      have hw : Region.wanted o (yielded ops a.tmps) = false := by
        split at h1
        · rename_i d hd
          cases ho : ops[j]? with
          | none => simp [ho] at hd
          | some oj =>
            simp only [ho, Option.bind_some] at hd
            rcases Bool.or_eq_true _ _ ▸ h1 with h | h
            · simp only [Bool.and_eq_true, beq_iff_eq] at h
              have hdt : d = tb := Nat.eq_of_beq_eq_true h.1
              subst hdt
              obtain ⟨_, rfl⟩ := h
              cases b <;> simp [Region.wanted, hg, yielded, ho, hd, ht]
            · simp only [Bool.and_eq_true] at h
              rcases hD d (by simpa using h.1) with hu | hu <;> simp [Region.wanted, hg, yielded, ho, hd, hu, undef]
        · cases h1
      refine wpList_skip hw ?_
      rw [he]
      refine wpList_skips l (e :: D) _ w h3 ?_ ?_ ?_
      · simp [Act.put, hne, ht]
      · intro d hd
        by_cases hde : e = d
        · subst hde
          by_cases hlt : e < a.tmps.size
          · exact .inl (by simp [Act.put, hlt])
          · exact .inr (by simp [Act.put, hlt])
        · rcases List.mem_cons.1 hd with rfl | hd
          · exact absurd rfl hde
          · simpa [Act.put, hde] using hD d hd
      · intro a' ha'
        exact hk a' ⟨ha'.1, by rw [ha'.2]; simp [Act.put]⟩
    · cases hs
def dstsOf : List Oper → List Nat
  | [] => []
  | o :: r => (match o.dst with | some d => d :: dstsOf r | none => dstsOf r)
theorem dstsIn_more {D : List Nat} : ∀ (l : List Oper) (d : Nat), dstsIn D l = true → dstsIn (d :: D) l = true
  | [], _, _ => rfl
  | o :: r, d, h => by
    simp only [dstsIn, Bool.and_eq_true] at h ⊢
    refine ⟨?_, dstsIn_more r d h.2⟩
    cases ho : o.dst with
    | none => rfl
    | some e =>
      have := h.1
      simp only [ho] at this
      simp only [List.contains_eq_mem, decide_eq_true_eq] at this ⊢
      exact List.mem_cons_of_mem _ this
theorem dstsIn_of : ∀ (l : List Oper), dstsIn (dstsOf l) l = true
  | [] => rfl
  | o :: r => by
    simp only [dstsIn, dstsOf]
    cases ho : o.dst with
    | none => simpa [ho] using dstsIn_of r
    | some d =>
      simp only [Bool.and_eq_true]
      exact ⟨by simp, dstsIn_more r d (dstsIn_of r)⟩
/-- none of these temporaries is told of -/
def noK (D : List Nat) : Rho → Bool
  | [] => true
  | (i, _) :: r => !(D.contains i) && noK D r
theorem noK_get {D : List Nat} : ∀ {ρ : Rho} {i : Nat} {v : Value}, noK D ρ = true → get ρ i = some v → i ∉ D
  | [], _, _, _, h => by cases h
  | (j, u) :: r, i, v, hn, h => by
    simp only [noK, Bool.and_eq_true, Bool.not_eq_true'] at hn
    unfold get at h
    cases hb : Nat.beq j i <;> rw [hb] at h
    · exact noK_get hn.2 h
    · have he : j = i := Nat.eq_of_beq_eq_true hb
      subst he
      have := hn.1
      simpa using this
variable {n : Nat} {ds : List Deferred} {ρ : Rho} {cells : List Cel} {bs : List Base} {a : Act} {w : World} {l rest : List Oper}
variable {ty : TypeId} {pos : String} {aft : Array Edge}

theorem guardBlock (want : Bool) (m : Nat) {b c : Bool} {tb tc : Nat} {o : Oper} (F : Fr n ds ρ a) (H : Hp cells bs w) (hl : l.drop m = o :: rest)
    (hb : get ρ tb = some (.bool b)) (hs : skips ops tb want (l.take m) [] = true) (hk : noK (dstsOf (l.take m)) ρ = true)
    (hT : b = want → ∀ K : Act → World → Prop, (∀ ρe a w, Fr n ds ρe a → get ρe tc = some (.bool c) → Hp cells bs w → K a w) → wpList P ops (Exit.then K Q) (l.take m) a w)
    (hpick : ∀ a w, Fr n ds ρ a → Hp cells bs w → (b = want → a.tmps[tc]? = some (.bool c)) → wpList P ops Q (o :: rest) a w) : wpList P ops Q l a w := by
  have e : l = l.take m ++ (o :: rest) := by rw [← hl, List.take_append_drop]
  rw [e]
  by_cases hbw : b = want
  · have h0 := hT hbw (fun a' w' => a'.defers = ds ∧ a'.tmps.size = n ∧ a'.tmps[tc]? = some (.bool c) ∧ Hp cells bs w') (fun ρe a' w' F' hc H' => ⟨F'.df, F'.sz, F'.fr _ _ hc, H'⟩)
    have h1 := wpList_frame (D := dstsOf (l.take m)) (l.take m) a a w (dstsIn_of _) (fun _ _ => rfl) h0
    refine wpList_append _ _ a w h1 ?_
    rintro a' w' ⟨⟨h2, h3, h4, h5⟩, h6⟩
    exact hpick a' w' ⟨h2, h3, fun i v hv => by rw [h6 i (noK_get hk hv)]; exact F.fr i v hv⟩ h5 (fun _ => h4)
  · have hbn : b = !want := by cases b <;> cases want <;> first | rfl | exact absurd rfl hbw
    subst hbn
    have h0 := wpList_skips (P := P) (Q := Q) (K := fun a' w' => a'.defers = ds ∧ a'.tmps.size = n ∧ w' = w) (l.take m) [] a w hs (F.fr _ _ hb) (by simp) (fun a' h => ⟨h.1.trans F.df, h.2.trans F.sz, rfl⟩)
    have h1 := wpList_frame (D := dstsOf (l.take m)) (l.take m) a a w (dstsIn_of _) (fun _ _ => rfl) h0
    refine wpList_append _ _ a w h1 ?_
    rintro a' w' ⟨⟨h2, h3, rfl⟩, h6⟩
    exact hpick a' _ ⟨h2, h3, fun i v hv => by rw [h6 i (noK_get hk hv)]; exact F.fr i v hv⟩ H (fun h => absurd h hbw)

/-- the operation is wanted -/
inductive Wt (ops : Array Oper) (ρ : Rho) : Option (Nat × Bool) → Prop
  | no : Wt ops ρ none
  | yes {j d : Nat} {b c : Bool} {oj : Oper} (hj : ops[j]? = some oj) (hd : oj.dst = some d) (hv : get ρ d = some (.bool c)) (hb : c = b) : Wt ops ρ (some (j, b))
theorem Wt.wanted {o : Oper} (h : Wt ops ρ o.guard) (F : Fr n ds ρ a) : Region.wanted o (yielded ops a.tmps) = true := by
  unfold Region.wanted
  generalize o.guard = g at *
  cases h with
  | no => rfl
  | yes hj hd hv hb =>
    have := F.fr _ _ hv
    subst hb
    simp [yielded, hj, hd, this]
theorem wpList_wanted {o : Oper} (hw : Region.wanted o (yielded ops a.tmps) = true) (h : ∀ K : Act → World → Prop, (∀ a w, wpList P ops Q rest a w → K a w) → o.wp P a w K Q) : wpList P ops Q (o :: rest) a w := by
  unfold wpList
  rw [if_pos hw]
  exact .inl (h _ (fun _ _ h => h))
variable {gd : Option (Nat × Bool)}
/-- 'x && y' -/
theorem gand (m : Nat) {b c : Bool} {d tb tc : Nat} (F : Fr n ds ρ a) (H : Hp cells bs w) (hl : l.drop m = ⟨some d, .pick (.tmp tb) (.tmp tc) (.const (.bool false)), ty, pos, aft, gd⟩ :: rest) (hw : Wt ops ρ gd)
    (hb : get ρ tb = some (.bool b)) (hs : skips ops tb true (l.take m) [] = true) (hk : noK (dstsOf (l.take m)) ρ = true) (hn : Nat.blt d n = true)
    (hT : b = true → ∀ K : Act → World → Prop, (∀ ρe a w, Fr n ds ρe a → get ρe tc = some (.bool c) → Hp cells bs w → K a w) → wpList P ops (Exit.then K Q) (l.take m) a w)
    (k : ∀ a w, Fr n ds ((d, .bool (b && c)) :: ρ) a → Hp cells bs w → wpList P ops Q rest a w) : wpList P ops Q l a w := by
  refine guardBlock true m F H hl hb hs hk hT fun a w F H hc => ?_
  refine wpList_wanted (hw.wanted F) fun K hK => ?_
  have ht := F.ev (x := .tmp tb) hb
  have e : (execOp a.eval ⟨some d, .pick (.tmp tb) (.tmp tc) (.const (.bool false)), ty, pos, aft, gd⟩).run P w = .ok (.value (.bool (b && c))) w := by
    cases b with
    | false => simp [execOp, ht, asBool]; rfl
    | true =>
      have : a.eval (.tmp tc) = .bool c := by simp [Act.eval, hc rfl]
      simp [execOp, ht, asBool, this]
  unfold Oper.wp
  rw [e, Oper.upon_value]
  exact hK _ _ (k _ _ (F.put hn _) H)
/-- 'x || y' -/
theorem gor (m : Nat) {b c : Bool} {d tb tc : Nat} (F : Fr n ds ρ a) (H : Hp cells bs w) (hl : l.drop m = ⟨some d, .pick (.tmp tb) (.const (.bool true)) (.tmp tc), ty, pos, aft, gd⟩ :: rest) (hw : Wt ops ρ gd)
    (hb : get ρ tb = some (.bool b)) (hs : skips ops tb false (l.take m) [] = true) (hk : noK (dstsOf (l.take m)) ρ = true) (hn : Nat.blt d n = true)
    (hT : b = false → ∀ K : Act → World → Prop, (∀ ρe a w, Fr n ds ρe a → get ρe tc = some (.bool c) → Hp cells bs w → K a w) → wpList P ops (Exit.then K Q) (l.take m) a w)
    (k : ∀ a w, Fr n ds ((d, .bool (b || c)) :: ρ) a → Hp cells bs w → wpList P ops Q rest a w) : wpList P ops Q l a w := by
  refine guardBlock false m F H hl hb hs hk hT fun a w F H hc => ?_
  refine wpList_wanted (hw.wanted F) fun K hK => ?_
  have ht := F.ev (x := .tmp tb) hb
  have e : (execOp a.eval ⟨some d, .pick (.tmp tb) (.const (.bool true)) (.tmp tc), ty, pos, aft, gd⟩).run P w = .ok (.value (.bool (b || c))) w := by
    cases b with
    | true => simp [execOp, ht, asBool]; rfl
    | false =>
      have : a.eval (.tmp tc) = .bool c := by simp [Act.eval, hc rfl]
      simp [execOp, ht, asBool, this]
  unfold Oper.wp
  rw [e, Oper.upon_value]
  exact hK _ _ (k _ _ (F.put hn _) H)
end
end Go.Sx
