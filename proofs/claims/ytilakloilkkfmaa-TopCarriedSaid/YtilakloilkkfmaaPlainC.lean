/-
  The plain law: what comes and what goes.
-/
import Derived.Test.YtilakloilkkfmaaPlainB
namespace Go.Proofs.Ytilakloilkkfmaa
open Go Go.Sx
set_option maxRecDepth 10000
section
variable {sess room : Int} {all : List El} {B h t : Nat} {S : WS}
theorem hear_inv (P : Par0 sess room all) (I : Inv sess room all B h t S) (p : Pck) (hd : DataP sess all S.put p ∨ AckP sess h p) :
    (hearR S.r p).2 = 0 ∧ ∃ h', h ≤ h' ∧ Inv sess room all B h' t { S with r := (hearR S.r p).1 } ∧ (p.k = 1 → p.s = (h : Int) + 1 → ((h - t : Nat) : Int) < room → h' = h + 1) := by
  have hpl := I.pl; have hl := P.l; have hh := I.hp; have hB := I.bh; have ht := I.th; have hrm := I.rm; have hr := P.r
  have hlen : S.r.q.length = h - t := by rw [I.rq, part_len (by omega)]
  cases hok : hearOk S.r p with
  | false =>
    have e : hearR S.r p = (S.r, 0) := by unfold hearR; rw [if_neg (ntrue (I.rbad P)), if_neg (ntrue hok)]
    rw [e]
    refine ⟨rfl, h, Nat.le_refl _, I, fun hk hs hq => ?_⟩
    exfalso
    rcases hd with hd | hd
    · obtain ⟨_, ha, hpl0, i, hi, hsi, hx⟩ := hd
      have hih : i = h := by omega
      subst hih
      have hxo := (P.o _ _ hx).1
      have hne : endsB S.r.q = false := by
        cases he : endsB S.r.q with
        | false => rfl
        | true =>
          have e1 : endsB ((part all t i).take (i - t)) = true := by rw [List.take_of_length_le (by rw [part_len (by omega)]; omega), ← I.rq]; exact he
          have := part_ends P.o (by omega) (by omega) ht e1
          omega
      unfold hearOk at hok
      rw [hne, hxo, hk, ha, I.ra, hpl0, hs, I.rb, I.rr, hlen] at hok
      simp at hok
      omega
    · rw [hd.1] at hk; cases hk
  | true =>
    have hok' := hok
    unfold hearOk at hok'
    simp only [Bool.and_eq_true, beq_iff_eq, decide_eq_true_eq, Bool.not_eq_true'] at hok'
    obtain ⟨⟨⟨⟨⟨⟨⟨hk, ha⟩, hl0⟩, hx0⟩, hs⟩, hmax⟩, hroom⟩, hne⟩ := hok'
    rcases hd with hd | hd
    · obtain ⟨_, _, _, i, hi, hsi, hx⟩ := hd
      have hih : i = h := by rw [I.rb] at hs; omega
      subst hih
      have e : hearR S.r p = ({ S.r with q := S.r.q ++ [p.x], b := IntKind.u64.wrap (S.r.b + 1) }, 0) := by unfold hearR; rw [if_neg (ntrue (I.rbad P)), if_pos hok]
      rw [e]
      refine ⟨rfl, i + 1, by omega, ⟨I.sa, I.ra, I.rr, I.sb, ?_, by omega, by omega, hi, I.pl, I.q8, ?_, I.sq, ?_, I.tk, I.se, I.sl, I.net, ?_, I.cs⟩, fun _ _ _ => rfl⟩
      · simp only
        rw [I.rb, wu64 (by omega)]; omega
      · rw [I.rr, hlen] at hroom; omega
      · simp only
        rw [I.rq]; exact part_snoc hx ht
      · intro q hq
        rcases I.went q hq with h1 | h1
        · exact .inl h1
        · exact .inr (h1.mono (by omega))
    · rw [hd.1] at hk; cases hk
theorem acked_inv (P : Par0 sess room all) (I : Inv sess room all B h t S) (p : Pck) (hd : DataP sess all S.put p ∨ AckP sess h p) :
    (ackS S.s p).2 = 0 ∧ ∃ B', B ≤ B' ∧ Inv sess room all B' h t { S with s := (ackS S.s p).1 } ∧ S.s.l ≤ (ackS S.s p).1.l ∧ (p.k = 2 → p.s = (h : Int) + 1 → B' = h ∧ p.l ≤ (ackS S.s p).1.l) := by
  have hpl := I.pl; have hl := P.l; have hh := I.hp; have hB := I.bh; have ht := I.th; have h8 := I.q8
  have hlen : S.s.q.length = S.put - B := by rw [I.sq, part_len I.pl]
  have hbeh : beh S.s.b S.s.q = (S.put : Int) + 1 := by rw [beh_eq (by omega) (by rw [I.sb]; omega) (by rw [I.sb]; omega), I.sb, hlen]; omega
  cases hok : ackOk S.s p with
  | false =>
    have e : ackS S.s p = (S.s, 0) := by unfold ackS; rw [if_neg (ntrue (I.sbad P)), if_neg (ntrue hok)]
    rw [e]
    refine ⟨rfl, B, Nat.le_refl _, I, Int.le_refl _, fun hk hs => ?_⟩
    exfalso
    rcases hd with hd | hd
    · rw [hd.1] at hk; cases hk
    · obtain ⟨_, ha, hx, hlp, j, hj, hsj⟩ := hd
      unfold ackOk at hok
      rw [hk, ha, I.sa, hx, hs, hbeh, I.sb] at hok
      have hz : elz El.zero = true := by decide
      rw [hz] at hok
      rw [if_neg (by omega)] at hok
      simp at hok
      omega
  | true =>
    have hok' := hok
    unfold ackOk at hok'
    rw [hbeh, if_neg (by omega)] at hok'
    simp only [Bool.and_eq_true, beq_iff_eq, decide_eq_true_eq] at hok'
    obtain ⟨⟨⟨⟨⟨hk, ha⟩, hz⟩, hb1⟩, hb2⟩, hl2⟩ := hok'
    rcases hd with hd | hd
    · rw [hd.1] at hk; cases hk
    · obtain ⟨_, _, hx, hlp, j, hj, hsj⟩ := hd
      have e : ackS S.s p = ({ S.s with b := p.s, q := S.s.q.take 0 ++ S.s.q.drop (p.s - S.s.b).toNat, l := if S.s.l < p.l then p.l else S.s.l }, 0) := by unfold ackS; rw [if_neg (ntrue (I.sbad P)), if_pos hok]
      rw [e]
      have hsb := I.sb
      have hjB : B ≤ j := by omega
      refine ⟨rfl, j, hjB, ⟨I.sa, I.ra, I.rr, hsj, I.rb, hj, I.th, I.hp, I.pl, (by show S.put - j ≤ 8; omega), I.rm, ?_, I.rq, I.tk, I.se, ?_, I.net, I.went, I.cs⟩, ?_, fun _ hs => ⟨by omega, ?_⟩⟩
      · simp only [List.take_zero, List.nil_append]
        rw [I.sq, show (p.s - S.s.b).toNat = j - B by omega]
        unfold part
        rw [List.drop_drop, show B + (j - B) = j by omega]
      · have := I.sl
        simp only
        split <;> omega
      · simp only; split <;> omega
      · simp only; split <;> omega
theorem NetOk.sub {sent : Int} {cs cs' : List PC} (hn : NetOk sent cs) (hs : cs'.Sublist cs) : NetOk sent cs' :=
  ⟨hn.s0, hn.s1, Nat.le_trans hs.length_le hn.len, hn.ord.sublist hs, fun c hc => hn.each c (hs.subset hc)⟩
theorem Inv.cut (I : Inv sess room all B h t S) {cs' : List PC} (hs : cs'.Sublist S.cs) : Inv sess room all B h t { S with cs := cs' } :=
  ⟨I.sa, I.ra, I.rr, I.sb, I.rb, I.bh, I.th, I.hp, I.pl, I.q8, I.rm, I.sq, I.rq, I.tk, I.se, I.sl, I.net.sub hs, I.went, fun c hc => I.cs c (hs.subset hc)⟩
theorem Inv.csOk (I : Inv sess room all B h t S) : CsOk S := fun c hc => by
  obtain ⟨b0, b1, p, h1, h2, h3, h4, _⟩ := I.cs c hc
  exact ⟨b0, b1, h1, h2, h3, (List.getElem?_eq_some_iff.1 h4).1⟩
theorem takeDrop_sub {α : Type} (l : List α) (J : Nat) : (l.take J ++ l.drop (J + 1)).Sublist l := by
  have h1 : (l.take J ++ l.drop (J + 1)).Sublist (l.take J ++ l.drop J) := (List.Sublist.refl _).append (by
    rw [← List.drop_drop]
    exact List.drop_sublist _ _)
  rwa [List.take_append_drop] at h1
/-- a parcel comes -/
theorem comes_inv (P : Par0 sess room all) (I : Inv sess room all B h t S) (k : Int) (stays : Bool) :
    comesB S k = true ∧ ∃ B' h', B ≤ B' ∧ h ≤ h' ∧ Inv sess room all B' h' t (comesS S k stays) ∧ (comesS S k stays).went = S.went ∧ (comesS S k stays).sent = S.sent ∧ (comesS S k stays).put = S.put ∧ S.s.l ≤ (comesS S k stays).s.l := by
  unfold comesB comesS
  cases hc : S.cs[k.toNat % S.cs.length]? with
  | none => exact ⟨rfl, B, h, Nat.le_refl _, Nat.le_refl _, I, rfl, rfl, rfl, Int.le_refl _⟩
  | some c =>
    obtain ⟨b0, b1, p, h1, h2, h3, h4, h5, h6⟩ := I.cs c (List.mem_of_getElem? hc)
    have hi : idxOf c.b = (b0 * 256 + b1).toNat := by rw [h1]; rfl
    have hg : S.went.getD (idxOf c.b) default = p := by rw [hi, List.getD_eq_getElem?_getD, h4]; rfl
    have hd := I.went p (List.mem_of_getElem? h4)
    simp only [hg]
    have hsub : (if stays = true then S.cs else S.cs.take (k.toNat % S.cs.length) ++ S.cs.drop (k.toNat % S.cs.length + 1)).Sublist S.cs := by
      split
      · exact List.Sublist.refl _
      · exact takeDrop_sub _ _
    by_cases ht5 : c.t = 5
    · obtain ⟨e1, h', e2, e3, _⟩ := hear_inv P (I.cut hsub) p hd
      unfold comesE comesN
      rw [if_pos ht5, if_pos ht5]
      exact ⟨by rw [e1]; rfl, B, h', Nat.le_refl _, e2, e3, rfl, rfl, rfl, Int.le_refl _⟩
    · obtain ⟨e1, B', e2, e3, e4, _⟩ := acked_inv P (I.cut hsub) p hd
      unfold comesE comesN
      rw [if_neg ht5, if_neg ht5]
      exact ⟨by rw [e1]; rfl, B', h, e2, Nat.le_refl _, e3, rfl, rfl, rfl, e4⟩
/-- a packet goes -/
theorem goes_inv (I : Inv sess room all B h t S) (p : Pck) (fr to : Int) (hd : DataP sess all S.put p ∨ AckP sess h p) (hto : (to = 5 → p.k = 1) ∧ (to ≠ 5 → p.k = 2)) (hft : (1 ≤ fr ∧ fr ≤ 7) ∧ (1 ≤ to ∧ to ≤ 7) ∧ fr ≠ to) (hse : S.sent < 4611686018427387904) (hw : S.went.length ≤ 65535) :
    Inv sess room all B h t (goesS S p fr to) := by
  have hn := (goesS_ok (p := p) I.net hse hft).1
  unfold goesS at hn ⊢
  split
  · exact I
  · rename_i hf
    rw [if_neg hf] at hn
    refine ⟨I.sa, I.ra, I.rr, I.sb, I.rb, I.bh, I.th, I.hp, I.pl, I.q8, I.rm, I.sq, I.rq, I.tk, I.se, I.sl, hn, ?_, ?_⟩
    · intro q hq
      rcases List.mem_append.1 hq with hq | hq
      · exact I.went q hq
      · simp only [List.mem_singleton] at hq
        subst hq
        exact hd
    · intro c hc
      rcases List.mem_append.1 hc with hc | hc
      · obtain ⟨b0, b1, q, h1, h2, h3, h4, h5⟩ := I.cs c hc
        refine ⟨b0, b1, q, h1, h2, h3, ?_, h5⟩
        simp only
        rw [List.getElem?_append_left (List.getElem?_eq_some_iff.1 h4).1]
        exact h4
      · simp only [List.mem_singleton] at hc
        subst hc
        have e0 : IntKind.u8.wrap ((S.went.length : Int).fdiv (2 ^ 8)) = ((S.went.length / 256 : Nat) : Int) := by
          rw [Int.fdiv_eq_ediv_of_nonneg _ (by decide), wu8 (by omega)]; omega
        have e1 : IntKind.u8.wrap (S.went.length : Int) = ((S.went.length % 256 : Nat) : Int) := by
          have : IntKind.u8.wrap (S.went.length : Int) = (S.went.length : Int) % 256 := rfl
          rw [this]; omega
        refine ⟨((S.went.length / 256 : Nat) : Int), ((S.went.length % 256 : Nat) : Int), p, ?_, by omega, by omega, ?_, hto⟩
        · simp only [idxB, e0, e1]
        · have : (((S.went.length / 256 : Nat) : Int) * 256 + ((S.went.length % 256 : Nat) : Int)).toNat = S.went.length := by omega
          simp only [this]
          simp
end
end Go.Proofs.Ytilakloilkkfmaa
