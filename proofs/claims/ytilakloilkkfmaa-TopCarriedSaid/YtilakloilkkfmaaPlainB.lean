/-
  The plain law: each step answers true and keeps what holds of the wires.
-/
import Derived.Test.YtilakloilkkfmaaPlain
namespace Go.Proofs.Ytilakloilkkfmaa
open Go Go.Sx
set_option maxRecDepth 10000
section
variable {sess room : Int} {all : List El} {B h t : Nat} {S : WS}
theorem DataP.mono {p : Pck} {a b : Nat} (hd : DataP sess all a p) (hab : a ≤ b) : DataP sess all b p := by
  obtain ⟨h1, h2, h3, i, hi, hs, hx⟩ := hd
  exact ⟨h1, h2, h3, i, by omega, hs, hx⟩
theorem AckP.mono {p : Pck} {a b : Nat} (hd : AckP sess a p) (hab : a ≤ b) : AckP sess b p := by
  obtain ⟨h1, h2, h3, h4, j, hj, hs⟩ := hd
  exact ⟨h1, h2, h3, h4, j, by omega, hs⟩
/-- an element is put -/
theorem put_inv (P : Par0 sess room all) (I : Inv sess room all B h t S) : (putStep all S).2 = true ∧ Inv sess room all B h t (putStep all S).1 ∧ (putStep all S).1.cs = S.cs ∧ (putStep all S).1.went = S.went ∧ (putStep all S).1.sent = S.sent ∧
    (putStep all S).1.s.l = S.s.l ∧ ((putStep all S).1.put = S.put ∨ (putStep all S).1.put = S.put + 1) ∧ (S.put < all.length → S.put - B < 8 → (putStep all S).1.put = S.put + 1) := by
  have hpl := I.pl; have hl := P.l; have hh := I.hp; have hB := I.bh; have h8 := I.q8
  by_cases he : S.put = all.length
  · rw [show putStep all S = (S, true) from if_pos he]
    exact ⟨rfl, I, rfl, rfl, rfl, rfl, .inl rfl, fun h _ => by omega⟩
  · have hlt : S.put < all.length := by omega
    obtain ⟨x, hx⟩ : ∃ x, all[S.put]? = some x := ⟨_, List.getElem?_eq_getElem hlt⟩
    have hxd : all.getD S.put default = x := by rw [List.getD_eq_getElem?_getD, hx]; rfl
    have hok := P.o _ _ hx
    have hse : S.s.e = false := by rw [I.se]; simp; omega
    have hlen : S.s.q.length = S.put - B := by rw [I.sq, part_len I.pl]
    have hbeh : beh S.s.b S.s.q = S.s.b + S.s.q.length := beh_eq (by omega) (by rw [I.sb]; omega) (by rw [I.sb]; omega)
    by_cases hf : 8 ≤ S.put - B
    · have hput : putS S.s x = (.zero, 6) := by
        unfold putS
        rw [if_neg (ntrue (I.sbad P)), if_neg (by rw [hok.1]; decide), if_neg (ntrue hse), if_pos (by simp [hlen]; omega)]
      have e : putStep all S = (S, (S.s.q.length : Int) == 8) := by
        unfold putStep
        rw [if_neg he, hxd, hput]
        rfl
      rw [e]
      exact ⟨by simp [hlen]; omega, I, rfl, rfl, rfl, rfl, .inl rfl, fun _ h => by omega⟩
    · have hput : putS S.s x = ({ S.s with q := S.s.q ++ [x], e := x.k == 3 }, 0) := by
        unfold putS
        rw [if_neg (ntrue (I.sbad P)), if_neg (by rw [hok.1]; decide), if_neg (ntrue hse), if_neg (by rw [hbeh, I.sb, hlen]; simp; omega)]
      have e : putStep all S = ({ S with s := { S.s with q := S.s.q ++ [x], e := x.k == 3 }, put := S.put + 1 }, true) := by
        unfold putStep
        rw [if_neg he, hxd, hput]
        rfl
      rw [e]
      refine ⟨rfl, ⟨I.sa, I.ra, I.rr, I.sb, I.rb, I.bh, I.th, by simp only; omega, by simp only; omega, by simp only; omega, I.rm, ?_, I.rq, I.tk, ?_, I.sl, I.net, ?_, I.cs⟩, rfl, rfl, rfl, rfl, .inr rfl, fun _ _ => rfl⟩
      · simp only
        rw [I.sq]; exact part_snoc hx (by omega)
      · simp only
        have hk := hok.2
        cases hk3 : x.k == 3 with
        | true =>
          have := hk.1 (by simpa using hk3)
          simp [this]
        | false =>
          have hne : ¬ S.put + 1 = all.length := fun hh => by rw [hk.2 hh] at hk3; cases hk3
          simp [hne]
      · intro p hp
        rcases I.went p hp with h | h
        · exact .inl (h.mono (by simp only; omega))
        · exact .inr h
/-- an element is taken -/
theorem take_inv (P : Par0 sess room all) (I : Inv sess room all B h t S) : (takeStep S).2 = true ∧ (takeStep S).1.cs = S.cs ∧ (takeStep S).1.went = S.went ∧ (takeStep S).1.sent = S.sent ∧ (takeStep S).1.s = S.s ∧ (takeStep S).1.put = S.put ∧
    ((t = h ∧ (takeStep S).1 = S) ∨ (t < h ∧ Inv sess room all B h (t + 1) (takeStep S).1)) := by
  have hpl := I.pl; have hl := P.l; have hh := I.hp; have hB := I.bh; have ht := I.th; have hrm := I.rm
  have hlen : S.r.q.length = h - t := by rw [I.rq, part_len (by omega)]
  by_cases he : t = h
  · have htk : takeR S.r = (.zero, .zero, 4) := by
      unfold takeR
      rw [if_neg (ntrue (I.rbad P)), if_pos (by omega)]
    have e : takeStep S = (S, (S.r.q.length : Int) == 0) := by unfold takeStep; rw [htk]; rfl
    rw [e]
    exact ⟨by simp [hlen]; omega, rfl, rfl, rfl, rfl, rfl, .inl ⟨he, rfl⟩⟩
  · have htk : takeR S.r = ({ S.r with q := S.r.q.drop 1 }, S.r.q.getD 0 default, 0) := by
      unfold takeR
      rw [if_neg (ntrue (I.rbad P)), if_neg (by omega)]
    have e : takeStep S = ({ S with r := { S.r with q := S.r.q.drop 1 }, taken := S.taken ++ [S.r.q.getD 0 default] }, true) := by unfold takeStep; rw [htk]; rfl
    rw [e]
    refine ⟨rfl, rfl, rfl, rfl, rfl, rfl, .inr ⟨by omega, ⟨I.sa, I.ra, I.rr, I.sb, I.rb, I.bh, by omega, I.hp, I.pl, I.q8, by omega, I.sq, ?_, ?_, I.se, I.sl, I.net, I.went, I.cs⟩⟩⟩
    · simp only
      rw [I.rq]; unfold part; rw [List.drop_drop]
    · simp only
      rw [I.tk, I.rq]
      have hx : t < all.length := by omega
      have h1 : (part all t h)[0]? = all[t]? := by rw [part_get (by omega)]; rfl
      rw [List.getD_eq_getElem?_getD, h1, List.getElem?_eq_getElem hx, List.take_succ_eq_append_getElem hx]
      rfl
end
end Go.Proofs.Ytilakloilkkfmaa
