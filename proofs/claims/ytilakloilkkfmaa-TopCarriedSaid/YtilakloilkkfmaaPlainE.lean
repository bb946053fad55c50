/-
  The plain law: a round of the last loop takes an element, or makes ready to.
-/
import Derived.Test.YtilakloilkkfmaaPlainD
namespace Go.Proofs.Ytilakloilkkfmaa
open Go Go.Sx
set_option maxRecDepth 10000
section
variable {sess room : Int} {all : List El} {B h t : Nat} {S : WS}
/-- more is on its way, all of it data -/
def Ext (X Y : WS) : Prop := (∃ l, Y.cs = X.cs ++ l ∧ ∀ c ∈ l, c.t = 5) ∧ ∃ l, Y.went = X.went ++ l
theorem Ext.refl (X : WS) : Ext X X := ⟨⟨[], by simp, by simp⟩, ⟨[], by simp⟩⟩
theorem Ext.trans {X Y Z : WS} (h1 : Ext X Y) (h2 : Ext Y Z) : Ext X Z := by
  obtain ⟨⟨l1, e1, f1⟩, ⟨m1, g1⟩⟩ := h1
  obtain ⟨⟨l2, e2, f2⟩, ⟨m2, g2⟩⟩ := h2
  refine ⟨⟨l1 ++ l2, by rw [e2, e1, List.append_assoc], fun c hc => ?_⟩, ⟨m1 ++ m2, by rw [g2, g1, List.append_assoc]⟩⟩
  rcases List.mem_append.1 hc with hc | hc
  · exact f1 c hc
  · exact f2 c hc
theorem goes_ext (X : WS) (p : Pck) : Ext X (goesS X p 4 5) := by
  unfold goesS
  split
  · exact Ext.refl X
  · exact ⟨⟨_, rfl, by simp⟩, ⟨_, rfl⟩⟩
theorem sendK_ext (S : WS) (k : Nat) : ∀ j, k + j ≤ (sendP S.s).length → Ext (sendK S k) (sendK S (k + j))
  | 0, _ => Ext.refl _
  | j + 1, hj => by
    have h1 := sendK_ext S k j (by omega)
    have hc : (sendP S.s)[k + j]? = some _ := List.getElem?_eq_getElem (by omega)
    rw [show k + (j + 1) = k + j + 1 by omega, sendK_succ S hc]
    exact h1.trans (goes_ext _ _)
/-- an element is put, an acknowledgement goes, the sender sends -/
def round1 (all : List El) (S : WS) : WS := (putStep all S).1
def round2 (all : List El) (S : WS) : WS := goesS (round1 all S) (ackV (round1 all S).r).1 5 4
def round3 (all : List El) (S : WS) : WS := sendStep (round2 all S)
theorem round2_inv (P : Par0 sess room all) (I : Inv sess room all B h t S) (hse : S.sent ≤ 100000) (hw : S.went.length ≤ 60000) :
    Inv sess room all B h t (round2 all S) ∧ (round2 all S).sent ≤ S.sent + 1 ∧ (round2 all S).went.length ≤ S.went.length + 1 ∧ (round2 all S).s = (round1 all S).s ∧ (round2 all S).put = (round1 all S).put ∧ (ackV (round1 all S).r) = (ackPk sess room h t, 0) := by
  obtain ⟨_, i1, i2, i3, i4, i5, i6, i7⟩ := put_inv P I
  have ha := ackV_eq P i1
  have hg := goesS_ok (p := ackPk sess room h t) (fr := 5) (to := 4) i1.net (by rw [i4]; omega) (by decide)
  have hr := goesS_rest (round1 all S) (ackPk sess room h t) 5 4
  unfold round2
  rw [show ackV (round1 all S).r = (ackPk sess room h t, 0) from ha]
  refine ⟨goes_inv i1 _ 5 4 (.inr (ackPk_ok P i1)) ⟨fun hh => absurd hh (by decide), fun _ => rfl⟩ (by decide) (by rw [i4]; omega) (by rw [i3]; omega), ?_, ?_, hr.1, hr.2.2.1, rfl⟩
  · have := hg.2.1; rw [i4] at this; exact this
  · have := hg.2.2; rw [i3] at this; exact this
theorem round3_inv (P : Par0 sess room all) (I : Inv sess room all B h t S) (hse : S.sent ≤ 100000) (hw : S.went.length ≤ 60000) :
    Inv sess room all B h t (round3 all S) ∧ (round3 all S).sent ≤ S.sent + 9 ∧ (round3 all S).went.length ≤ S.went.length + 9 := by
  obtain ⟨i1, i2, i3, _⟩ := round2_inv P I hse hw
  have hlen : (round2 all S).s.q.length = (round2 all S).put - B := by rw [i1.sq, part_len i1.pl]
  have h8 := i1.q8
  have hc8 : (sendP (round2 all S).s).length ≤ 8 := by rw [sendP_len]; unfold cntP; omega
  obtain ⟨k1, _, _, _, _, k2, k3⟩ := sendK_inv P i1 (by omega) (by omega) _ (Nat.le_refl _)
  unfold round3
  rw [sendStep_eq]
  exact ⟨k1, by omega, by omega⟩
/-- the next element is at the sender's head, and may be sent -/
def Primed (B h t : Nat) (S : WS) : Prop := h = t ∧ B = h ∧ (h : Int) + 1 ≤ S.s.l
/-- the first parcel of a round whose net was empty: the acknowledgement -/
theorem round_head (P : Par0 sess room all) (I : Inv sess room all B h t S) (hse : S.sent ≤ 100000) (hw : S.went.length ≤ 60000) (hcs : S.cs = []) :
    ∃ c rest b0 b1, (round3 all S).cs = c :: rest ∧ (∀ c ∈ rest, c.t = 5) ∧ c.t = 4 ∧ c.b = [b0, b1] ∧ (round3 all S).went[(b0 * 256 + b1).toNat]? = some (ackPk sess room h t) ∧ (round3 all S).s = (round1 all S).s ∧
      (Primed B h t S → h < (round1 all S).put → ∃ c1 r1 d0 d1 p, rest = c1 :: r1 ∧ c1.b = [d0, d1] ∧ (round3 all S).went[(d0 * 256 + d1).toNat]? = some p ∧ p.k = 1 ∧ p.s = (h : Int) + 1) := by
  obtain ⟨_, i1, i2, i3, i4, i5, i6, i7⟩ := put_inv P I
  obtain ⟨j1, j2, j3, j4, j5, j6⟩ := round2_inv P I hse hw
  have hR1 : round1 all S = (putStep all S).1 := rfl
  have e2 : round2 all S = { round1 all S with cs := [⟨S.sent + 1, 5, 4, idxB S.went.length⟩], sent := S.sent + 1, went := S.went ++ [ackPk sess room h t] } := by
    unfold round2 goesS
    rw [j6, if_neg (by rw [hR1, i2, hcs]; decide), hR1, i2, i3, i4, hcs]
    rfl
  have ext := sendK_ext (round2 all S) 0 (sendP (round2 all S).s).length (by omega)
  have e0 : sendK (round2 all S) 0 = round2 all S := rfl
  rw [e0, Nat.zero_add, ← sendStep_eq] at ext
  obtain ⟨⟨l, hl, hl5⟩, ⟨m, hm⟩⟩ := ext
  have hcs2 : (round2 all S).cs = [⟨S.sent + 1, 5, 4, idxB S.went.length⟩] := by rw [e2]
  have hw2 : (round2 all S).went = S.went ++ [ackPk sess room h t] := by rw [e2]
  rw [hcs2] at hl
  rw [hw2] at hm
  have d1 : IntKind.u8.wrap ((S.went.length : Int).fdiv (2 ^ 8)) = ((S.went.length / 256 : Nat) : Int) := by
    rw [Int.fdiv_eq_ediv_of_nonneg _ (by decide), wu8 (by omega)]; omega
  have d2 : ∀ n : Nat, IntKind.u8.wrap (n : Int) = ((n % 256 : Nat) : Int) := fun n => by
    have : IntKind.u8.wrap (n : Int) = (n : Int) % 256 := rfl
    rw [this]; omega
  have hs3 : (round3 all S).s = (round1 all S).s := by
    have := (sendK_inv P j1 (by omega) (by omega) _ (Nat.le_refl _)).2.1
    unfold round3
    rw [sendStep_eq, this, j4]
  refine ⟨⟨S.sent + 1, 5, 4, idxB S.went.length⟩, l, _, _, hl, hl5, rfl, rfl, ?_, hs3, ?_⟩
  · rw [d1, d2, show (((S.went.length / 256 : Nat) : Int) * 256 + ((S.went.length % 256 : Nat) : Int)).toNat = S.went.length by omega]
    show (sendStep (round2 all S)).went[S.went.length]? = _
    rw [hm, List.append_assoc, List.getElem?_append_right (Nat.le_refl _)]
    simp
  · rintro ⟨hp1, hp2, hp3⟩ hput
    have hs2 : (round2 all S).s = (round1 all S).s := j4
    have hlen : (round2 all S).s.q.length = (round2 all S).put - B := by rw [j1.sq, part_len j1.pl]
    have hn : 0 < (sendP (round2 all S).s).length := by
      rw [sendP_len]; unfold cntP
      rw [hlen, j5, j1.sb, hs2, show (round1 all S).s.l = S.s.l from i5]
      omega
    obtain ⟨hc, hd⟩ := pkt_ok P j1 hn
    have k1 := sendK_succ (round2 all S) hc
    rw [e0] at k1
    have hg : goesS (round2 all S) (pktAt (round2 all S).s 0) 4 5 = goesN (round2 all S) (pktAt (round2 all S).s 0) 4 5 := if_neg (by rw [hcs2]; simp)
    rw [hg] at k1
    have ext := sendK_ext (round2 all S) 1 ((sendP (round2 all S).s).length - 1) (by omega)
    rw [show 1 + ((sendP (round2 all S).s).length - 1) = (sendP (round2 all S).s).length by omega, ← sendStep_eq, k1] at ext
    obtain ⟨⟨l', hl', _⟩, ⟨m', hm'⟩⟩ := ext
    simp only [goesN, hcs2, hw2] at hl' hm'
    rw [hl] at hl'
    have hll : l = ⟨(round2 all S).sent + 1, 4, 5, idxB (S.went ++ [ackPk sess room h t]).length⟩ :: l' := by
      simpa using hl'
    have d3 : IntKind.u8.wrap (((S.went ++ [ackPk sess room h t]).length : Int).fdiv (2 ^ 8)) = (((S.went.length + 1) / 256 : Nat) : Int) := by
      rw [List.length_append, Int.fdiv_eq_ediv_of_nonneg _ (by decide), wu8 (by simp; omega)]; simp
    refine ⟨_, l', _, _, pktAt (round2 all S).s 0, hll, rfl, ?_, rfl, ?_⟩
    · rw [d3, d2, List.length_append, List.length_singleton, show ((((S.went.length + 1) / 256 : Nat) : Int) * 256 + (((S.went.length + 1) % 256 : Nat) : Int)).toNat = S.went.length + 1 by omega]
      show (sendStep (round2 all S)).went[S.went.length + 1]? = _
      rw [hm', List.getElem?_append_left (by simp), List.getElem?_append_right (by simp)]
      simp
    · simp only [pktAt]; rw [j1.sb]; omega
/-- a round, whole -/
def roundE (all : List El) (S : WS) : WS := (takeStep (drain (round3 all S).cs.length (round3 all S))).1
/-- what is left to do -/
def Pot (L B h t : Nat) (S : WS) (m : Nat) : Prop := (S.cs ≠ [] ∧ m = 2 * (L - t) + 2) ∨ (S.cs = [] ∧ m = 2 * (L - t) + 1) ∨ (S.cs = [] ∧ Primed B h t S ∧ m = 2 * (L - t))
theorem round_pot (P : Par0 sess room all) (I : Inv sess room all B h t S) (hse : S.sent ≤ 100000) (hw : S.went.length ≤ 60000) {m : Nat} (hm : Pot all.length B h t S m) (ht : t < all.length) :
    ∃ B' h' t' m', Inv sess room all B' h' t' (roundE all S) ∧ Pot all.length B' h' t' (roundE all S) m' ∧ m' + 1 ≤ m ∧ (roundE all S).sent ≤ S.sent + 9 ∧ (roundE all S).went.length ≤ S.went.length + 9 := by
  obtain ⟨I3, s3, w3⟩ := round3_inv P I hse hw
  have hr := P.r
  have hth := I.th
  -- behind the drain: for some B4, h4
  have key : ∃ B4 h4, h ≤ h4 ∧ Inv sess room all B4 h4 t (drain (round3 all S).cs.length (round3 all S)) ∧ (drain (round3 all S).cs.length (round3 all S)).went = (round3 all S).went ∧ (drain (round3 all S).cs.length (round3 all S)).sent = (round3 all S).sent ∧
      (S.cs = [] → B4 = h ∧ (t : Int) + room ≤ (drain (round3 all S).cs.length (round3 all S)).s.l) ∧ (S.cs = [] → Primed B h t S → h < h4) := by
    by_cases hcs : S.cs = []
    · obtain ⟨c, rest, b0, b1, e1, e2, e3, e4, e5, e6, e7⟩ := round_head P I hse hw hcs
      have hc0 := comes0 e1 e4 e5
      rw [if_neg (by rw [e3]; decide)] at hc0
      have hsub : rest.Sublist (round3 all S).cs := by rw [e1]; exact List.sublist_cons_self ..
      have hpk := ackPk_ok P I
      obtain ⟨_, B', g1, g2, g3, g4⟩ := acked_inv P (I3.cut hsub) (ackPk sess room h t) (.inr hpk)
      obtain ⟨g5, g6⟩ := g4 rfl rfl
      subst g5
      have hlen : (round3 all S).cs.length = rest.length + 1 := by rw [e1]; rfl
      obtain ⟨h4, k1, k2, k3⟩ := drain_data P rest.length g2 e2
      obtain ⟨_, _, _, _, _, q4, q5, _⟩ := drain_inv P g2 rest.length
      have hd : drain (round3 all S).cs.length (round3 all S) = drain rest.length { round3 all S with cs := rest, s := (ackS (round3 all S).s (ackPk sess room B' t)).1 } := by
        rw [hlen]
        show drain rest.length (comesS (round3 all S) 0 false) = _
        rw [hc0]
      rw [hd]
      refine ⟨B', h4, k1, k2, q4, q5, fun _ => ⟨rfl, by rw [k3]; exact g6⟩, fun _ hp => ?_⟩
      have hput : B' < (round1 all S).put := by
        obtain ⟨_, i1, _, _, _, _, i6, i7⟩ := put_inv P I
        have hh := I.hp
        have hpp := hp
        obtain ⟨p1, p2, p3⟩ := hpp
        by_cases hlt : B' < S.put
        · show B' < (putStep all S).1.put
          rcases i6 with h | h <;> omega
        · have := i7 (by omega) (by omega)
          show B' < (putStep all S).1.put
          omega
      obtain ⟨c1, r1, d0, d1, p, f1, f2, f3, f4, f5⟩ := e7 hp hput
      subst f1
      have hc1 := comes0 (S := { round3 all S with cs := c1 :: r1, s := (ackS (round3 all S).s (ackPk sess room B' t)).1 }) rfl f2 f3
      rw [if_pos (e2 c1 (List.mem_cons_self ..))] at hc1
      have hsub2 : r1.Sublist (c1 :: r1) := List.sublist_cons_self ..
      obtain ⟨_, h5, l1, l2, l3⟩ := hear_inv P (g2.cut hsub2) p (g2.went p (List.mem_of_getElem? f3))
      have hp1 := hp.1
      have h51 := l3 f4 f5 (by rw [show B' - t = 0 by omega]; simp; omega)
      obtain ⟨h6, n1, n2, n3⟩ := drain_data P r1.length l2 (fun c hc => e2 c (hsub2.subset hc))
      have hd2 : drain (c1 :: r1).length { round3 all S with cs := c1 :: r1, s := (ackS (round3 all S).s (ackPk sess room B' t)).1 } = drain r1.length { round3 all S with cs := r1, s := (ackS (round3 all S).s (ackPk sess room B' t)).1, r := (hearR (round3 all S).r p).1 } := by
        show drain r1.length (comesS _ 0 false) = _
        rw [hc1]
      rw [hd2] at k2
      have r1' := k2.rb
      have r2' := n2.rb
      rw [r1'] at r2'
      omega
    · obtain ⟨B', h', q1, q2, q3, q4, q5, q6, q7⟩ := drain_inv P I3 (round3 all S).cs.length
      exact ⟨B', h', q2, q3, q4, q5, fun h => absurd h hcs, fun h => absurd h hcs⟩
  obtain ⟨B4, h4, k1, k2, k3, k4, k5, k6⟩ := key
  have hcs4 : (drain (round3 all S).cs.length (round3 all S)).cs = [] := by rw [drain_cs, List.drop_length]
  obtain ⟨_, t1, t2, t3, t4, t5, t6⟩ := take_inv P k2
  have hcs5 : (roundE all S).cs = [] := by unfold roundE; rw [t1, hcs4]
  have hse5 : (roundE all S).sent ≤ S.sent + 9 := by unfold roundE; rw [t3, k4]; exact s3
  have hwe5 : (roundE all S).went.length ≤ S.went.length + 9 := by unfold roundE; rw [t2, k3]; exact w3
  rcases t6 with ⟨ha, hb⟩ | ⟨ha, hb⟩
  · -- nothing was taken
    have hI5 : Inv sess room all B4 h4 t (roundE all S) := by unfold roundE; rw [hb]; exact k2
    rcases hm with ⟨c1, c2⟩ | ⟨c1, c2⟩ | ⟨c1, c2, c3⟩
    · exact ⟨B4, h4, t, 2 * (all.length - t) + 1, hI5, .inr (.inl ⟨hcs5, rfl⟩), by omega, hse5, hwe5⟩
    · obtain ⟨g1, g2⟩ := k5 c1
      have hl5 : (roundE all S).s.l = (drain (round3 all S).cs.length (round3 all S)).s.l := by unfold roundE; rw [hb]
      exact ⟨B4, h4, t, 2 * (all.length - t), hI5, .inr (.inr ⟨hcs5, ⟨by omega, by omega, by rw [hl5]; omega⟩, rfl⟩), by omega, hse5, hwe5⟩
    · have := k6 c1 c2
      omega
  · exact ⟨B4, h4, t + 1, 2 * (all.length - (t + 1)) + 1, hb, .inr (.inl ⟨hcs5, rfl⟩), by rcases hm with ⟨_, c2⟩ | ⟨_, c2⟩ | ⟨_, _, c2⟩ <;> omega, hse5, hwe5⟩
end
end Go.Proofs.Ytilakloilkkfmaa
