/-
  The plain law: the sender sends, the receiver answers, and what is on its way comes.
-/
import Derived.Test.YtilakloilkkfmaaPlainC
namespace Go.Proofs.Ytilakloilkkfmaa
open Go Go.Sx
set_option maxRecDepth 10000
section
variable {sess room : Int} {all : List El} {B h t : Nat} {S : WS}
/-- what a receiver says -/
def ackPk (sess room : Int) (h t : Nat) : Pck := ⟨2, sess, (h : Int) + 1, (t : Int) + room, .zero⟩
theorem ackV_eq (P : Par0 sess room all) (I : Inv sess room all B h t S) : ackV S.r = (ackPk sess room h t, 0) := by
  have hpl := I.pl; have hl := P.l; have hh := I.hp; have ht := I.th; have hrm := I.rm; have hr := P.r
  have hlen : S.r.q.length = h - t := by rw [I.rq, part_len (by omega)]
  have e : ackL S.r = (t : Int) + room := by
    unfold ackL
    rw [I.rb, I.rr, hlen, wu64 (x := (h : Int) + 1 - 1) (by omega), wi64 (by omega), wu64 (x := room - ((h - t : Nat) : Int)) (by omega), wu64 (by omega)]
    omega
  unfold ackV
  rw [if_neg (ntrue (I.rbad P)), e, if_neg (by omega), I.ra, I.rb]
  rfl
theorem ackPk_ok (P : Par0 sess room all) (I : Inv sess room all B h t S) : AckP sess h (ackPk sess room h t) := by
  have hpl := I.pl; have hl := P.l; have hh := I.hp; have ht := I.th; have hr := P.r
  exact ⟨rfl, rfl, rfl, ⟨by simp only [ackPk]; omega, by simp only [ackPk]; omega⟩, h, Nat.le_refl _, rfl⟩
theorem pkt_ok (P : Par0 sess room all) (I : Inv sess room all B h t S) {k : Nat} (hk : k < (sendP S.s).length) : (sendP S.s)[k]? = some (pktAt S.s k) ∧ DataP sess all S.put (pktAt S.s k) := by
  have hpl := I.pl; have hB := I.bh; have hh := I.hp
  have hc : (sendP S.s)[k]? = some (pktAt S.s k) := by
    rw [sendP_len] at hk
    simp [sendP, hk]
  refine ⟨hc, ?_⟩
  rw [sendP_len] at hk
  have hlen : S.s.q.length = S.put - B := by rw [I.sq, part_len I.pl]
  have hkl : k < S.put - B := by unfold cntP at hk; omega
  refine ⟨rfl, I.sa, rfl, B + k, by omega, ?_, ?_⟩
  · simp only [pktAt]; rw [I.sb]; omega
  · simp only [pktAt]
    have h1 : S.s.q[k]? = all[B + k]? := by rw [I.sq]; exact part_get (by omega)
    have hx : B + k < all.length := by omega
    rw [List.getD_eq_getElem?_getD, h1, List.getElem?_eq_getElem hx]
    rfl
theorem goesS_rest (S : WS) (p : Pck) (fr to : Int) : (goesS S p fr to).s = S.s ∧ (goesS S p fr to).r = S.r ∧ (goesS S p fr to).put = S.put ∧ (goesS S p fr to).taken = S.taken := by
  unfold goesS; split <;> exact ⟨rfl, rfl, rfl, rfl⟩
/-- all that a sender may send is sent -/
theorem sendK_inv (P : Par0 sess room all) (I : Inv sess room all B h t S) (hse : S.sent ≤ 1000000) (hw : S.went.length ≤ 65000) : ∀ k, k ≤ (sendP S.s).length →
    Inv sess room all B h t (sendK S k) ∧ (sendK S k).s = S.s ∧ (sendK S k).r = S.r ∧ (sendK S k).put = S.put ∧ (sendK S k).taken = S.taken ∧ (sendK S k).sent ≤ S.sent + k ∧ (sendK S k).went.length ≤ S.went.length + k
  | 0, _ => ⟨I, rfl, rfl, rfl, rfl, by simp [sendK], by simp [sendK]⟩
  | k + 1, hk => by
    have hlen : S.s.q.length = S.put - B := by rw [I.sq, part_len I.pl]
    have h8 := I.q8
    have hc8 : (sendP S.s).length ≤ 8 := by rw [sendP_len]; unfold cntP; omega
    obtain ⟨i1, i2, i3, i4, i5, i6, i7⟩ := sendK_inv P I hse hw k (by omega)
    obtain ⟨hc, hd⟩ := pkt_ok P I (k := k) (by omega)
    rw [sendK_succ S hc]
    have hg := goesS_ok (p := pktAt S.s k) (fr := 4) (to := 5) i1.net (by omega) (by decide)
    have hr := goesS_rest (sendK S k) (pktAt S.s k) 4 5
    have hgi := goes_inv i1 (pktAt S.s k) 4 5 (.inl (by rw [i4]; exact hd)) ⟨fun _ => rfl, fun hh => absurd rfl hh⟩ (by decide) (by omega) (by omega)
    exact ⟨hgi, by rw [hr.1, i2], by rw [hr.2.1, i3], by rw [hr.2.2.1, i4], by rw [hr.2.2.2, i5], by have := hg.2.1; omega, by have := hg.2.2; omega⟩
theorem sendStep_eq (S : WS) : sendStep S = sendK S (sendP S.s).length := by unfold sendStep sendK; rw [List.take_length]
/-- the first parcel comes, and is gone -/
theorem comes0 {c : PC} {rest : List PC} {p : Pck} {b0 b1 : Int} (hcs : S.cs = c :: rest) (hb : c.b = [b0, b1]) (hp : S.went[(b0 * 256 + b1).toNat]? = some p) :
    comesS S 0 false = if c.t = 5 then { S with cs := rest, r := (hearR S.r p).1 } else { S with cs := rest, s := (ackS S.s p).1 } := by
  have hi : idxOf c.b = (b0 * 256 + b1).toNat := by rw [hb]; rfl
  have hg : S.went.getD (idxOf c.b) default = p := by rw [hi, List.getD_eq_getElem?_getD, hp]; rfl
  have hm : (0 : Int).toNat % S.cs.length = 0 := by simp
  unfold comesS
  rw [hm, hcs]
  simp only [List.getElem?_cons_zero, hg]
  unfold comesN
  rw [hcs]
  simp
def drain : Nat → WS → WS
  | 0, S => S
  | n + 1, S => drain n (comesS S 0 false)
theorem drain_succ : ∀ (n : Nat) (S : WS), drain (n + 1) S = comesS (drain n S) 0 false
  | 0, _ => rfl
  | n + 1, S => drain_succ n (comesS S 0 false)
theorem comes0_cs (S : WS) : (comesS S 0 false).cs = S.cs.drop 1 := by
  unfold comesS
  have hm : (0 : Int).toNat % S.cs.length = 0 := by simp
  rw [hm]
  cases hcs : S.cs with
  | nil => simp [hcs]
  | cons c rest =>
    simp only [List.getElem?_cons_zero]
    unfold comesN
    split <;> simp [hcs]
theorem drain_cs : ∀ (n : Nat) (S : WS), (drain n S).cs = S.cs.drop n
  | 0, _ => rfl
  | n + 1, S => by
    show (drain n (comesS S 0 false)).cs = _
    rw [drain_cs n, comes0_cs, List.drop_drop, Nat.add_comm]
/-- behind any number of parcels -/
theorem drain_inv (P : Par0 sess room all) (I : Inv sess room all B h t S) : ∀ n, ∃ B' h', B ≤ B' ∧ h ≤ h' ∧ Inv sess room all B' h' t (drain n S) ∧ (drain n S).went = S.went ∧ (drain n S).sent = S.sent ∧ (drain n S).put = S.put ∧ S.s.l ≤ (drain n S).s.l
  | 0 => ⟨B, h, Nat.le_refl _, Nat.le_refl _, I, rfl, rfl, rfl, Int.le_refl _⟩
  | n + 1 => by
    obtain ⟨B', h', h1, h2, h3, h4, h5, h6, h7⟩ := drain_inv P I n
    obtain ⟨_, B2, h2', g1, g2, g3, g4, g5, g6, g7⟩ := comes_inv P h3 0 false
    rw [drain_succ]
    exact ⟨B2, h2', by omega, by omega, g3, by rw [g4, h4], by rw [g5, h5], by rw [g6, h6], by omega⟩
/-- behind any number of parcels with data -/
theorem drain_data (P : Par0 sess room all) : ∀ (n : Nat) {S : WS} {h : Nat}, Inv sess room all B h t S → (∀ c ∈ S.cs, c.t = 5) → ∃ h', h ≤ h' ∧ Inv sess room all B h' t (drain n S) ∧ (drain n S).s = S.s
  | 0, _, h, I, _ => ⟨h, Nat.le_refl _, I, rfl⟩
  | n + 1, S, h, I, h5 => by
    cases hcs : S.cs with
    | nil =>
      have e : comesS S 0 false = S := by unfold comesS; rw [hcs]; rfl
      show ∃ h', h ≤ h' ∧ Inv sess room all B h' t (drain n (comesS S 0 false)) ∧ (drain n (comesS S 0 false)).s = S.s
      rw [e]
      exact drain_data P n I h5
    | cons c rest =>
      have hm : c ∈ S.cs := by rw [hcs]; exact List.mem_cons_self ..
      obtain ⟨b0, b1, p, e1, e2, e3, e4, _⟩ := I.cs c hm
      have ht5 := h5 c hm
      have e := comes0 hcs e1 e4
      rw [if_pos ht5] at e
      have hsub : rest.Sublist S.cs := by rw [hcs]; exact List.sublist_cons_self ..
      obtain ⟨_, h', g1, g2, _⟩ := hear_inv P (I.cut hsub) p (I.went p (List.mem_of_getElem? e4))
      show ∃ h', h ≤ h' ∧ Inv sess room all B h' t (drain n (comesS S 0 false)) ∧ (drain n (comesS S 0 false)).s = S.s
      rw [e]
      obtain ⟨h2, k1, k2, k3⟩ := drain_data P n g2 (fun c hc => h5 c (hsub.subset hc))
      exact ⟨h2, by omega, k2, k3⟩
end
end Go.Proofs.Ytilakloilkkfmaa
