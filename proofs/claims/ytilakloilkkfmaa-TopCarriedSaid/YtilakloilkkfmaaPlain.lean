/-
  The plain law of the wires: what each step does keeps the order of what was put.
-/
import Derived.Test.YtilakloilkkfmaaTopE
namespace Go.Proofs.Ytilakloilkkfmaa
open Go Go.Sx
set_option maxRecDepth 10000

/-- elements that may be, of which the last alone is an end -/
def AllOk (all : List El) : Prop := ∀ i x, all[i]? = some x → x.ok = true ∧ (x.k = 3 ↔ i + 1 = all.length)
theorem rowL_ok (n : Nat) (hn : n ≤ 20) : AllOk (rowL n) := by
  intro i x hx
  unfold rowL at hx
  rw [List.getElem?_append] at hx
  split at hx
  · rename_i hi
    simp only [List.length_map, List.length_range] at hi
    simp only [List.getElem?_map, List.getElem?_range hi, Option.map_some, Option.some.injEq] at hx
    subst hx
    have hr : (i : Int).tmod 32 = ((i % 32 : Nat) : Int) := (Int.ofNat_tmod i 32).symm
    refine ⟨?_, ?_⟩
    · simp only [El.ok, elAt, elemOK, badRec, hr]
      have h1 : ¬ ((i % 32 : Nat) : Int) < 0 := by omega
      have h2 : ¬ (32 : Int) ≤ ((i % 32 : Nat) : Int) := by omega
      simp [h1]
      omega
    · simp only [elAt, rowL_len]
      constructor
      · intro h; cases h
      · intro h; omega
  · rename_i hi
    simp only [List.length_map, List.length_range] at hi hx
    have h0 : i - n = 0 := by
      have := (List.getElem?_eq_some_iff.1 hx).1
      simp at this; omega
    rw [h0] at hx
    simp only [List.getElem?_cons_zero, Option.some.injEq] at hx
    subst hx
    refine ⟨by decide, ?_⟩
    simp only [elEnd, rowL_len, true_iff]; omega
/-- a part of them -/
def part (all : List El) (b p : Nat) : List El := (all.take p).drop b
theorem part_len {all : List El} {b p : Nat} (hp : p ≤ all.length) : (part all b p).length = p - b := by simp [part]; omega
theorem part_get {all : List El} {b p i : Nat} (h : b + i < p) : (part all b p)[i]? = all[b + i]? := by
  simp [part, List.getElem?_drop, List.getElem?_take, h]
theorem part_ends {all : List El} (ho : AllOk all) {b p i : Nat} (hp : p ≤ all.length) (hi : i ≤ p - b) (hb : b ≤ p) : endsB ((part all b p).take i) = true → b + i = all.length := by
  intro h
  unfold endsB at h
  simp only [Bool.and_eq_true, decide_eq_true_eq, beq_iff_eq] at h
  obtain ⟨h1, h2⟩ := h
  have hl : ((part all b p).take i).length = i := by rw [List.length_take, part_len hp]; omega
  rw [hl] at h1
  unfold lastE at h2
  rw [hl, List.getD_eq_getElem?_getD, List.getElem?_take, if_pos (by omega), part_get (by omega)] at h2
  have hx : b + (i - 1) < all.length := by omega
  rw [List.getElem?_eq_getElem hx] at h2
  have := (ho _ _ (List.getElem?_eq_getElem hx)).2.1 h2
  omega
theorem part_row {all : List El} (ho : AllOk all) {b p : Nat} {m : Int} (hp : p ≤ all.length) (hb : b ≤ p) (hm : ((p - b : Nat) : Int) ≤ m) : rowB (part all b p) m = true := by
  unfold rowB okTo
  rw [part_len hp]
  simp only [Bool.and_eq_true, decide_eq_true_eq, List.all_eq_true, List.mem_range, Bool.not_eq_true']
  refine ⟨hm, fun i hi => ⟨?_, ?_⟩⟩
  · have h1 : (part all b p)[i]? = all[b + i]? := part_get (by omega)
    have hx : b + i < all.length := by omega
    rw [List.getD_eq_getElem?_getD, h1, List.getElem?_eq_getElem hx]
    exact (ho _ _ (List.getElem?_eq_getElem hx)).1
  · cases h : endsB ((part all b p).take i) with
    | false => rfl
    | true =>
      have := part_ends ho hp (by omega) hb h
      omega
theorem part_snoc {all : List El} {b p : Nat} {x : El} (hx : all[p]? = some x) (hb : b ≤ p) : part all b p ++ [x] = part all b (p + 1) := by
  obtain ⟨hlt, rfl⟩ := List.getElem?_eq_some_iff.1 hx
  unfold part
  rw [List.take_succ_eq_append_getElem hlt, List.drop_append_of_le_length (by simp; omega)]

/-- data, or an acknowledgement -/
def DataP (sess : Int) (all : List El) (put : Nat) (p : Pck) : Prop := p.k = 1 ∧ p.a = sess ∧ p.l = 0 ∧ ∃ i, i < put ∧ p.s = (i : Int) + 1 ∧ all[i]? = some p.x
def AckP (sess : Int) (h : Nat) (p : Pck) : Prop := p.k = 2 ∧ p.a = sess ∧ p.x = .zero ∧ (0 ≤ p.l ∧ p.l ≤ 4611686018427387904) ∧ ∃ j, j ≤ h ∧ p.s = (j : Int) + 1
/-- what holds of the wires -/
structure Inv (sess room : Int) (all : List El) (B h t : Nat) (S : WS) : Prop where
  sa : S.s.a = sess
  ra : S.r.a = sess
  rr : S.r.r = room
  sb : S.s.b = (B : Int) + 1
  rb : S.r.b = (h : Int) + 1
  bh : B ≤ h
  th : t ≤ h
  hp : h ≤ S.put
  pl : S.put ≤ all.length
  q8 : S.put - B ≤ 8
  rm : ((h - t : Nat) : Int) ≤ room
  sq : S.s.q = part all B S.put
  rq : S.r.q = part all t h
  tk : S.taken = all.take t
  se : S.s.e = (S.put == all.length)
  sl : 0 ≤ S.s.l ∧ S.s.l ≤ 4611686018427387904
  net : NetOk S.sent S.cs
  went : ∀ p ∈ S.went, DataP sess all S.put p ∨ AckP sess h p
  cs : ∀ c ∈ S.cs, ∃ b0 b1 p, c.b = [b0, b1] ∧ (0 ≤ b0 ∧ b0 ≤ 255) ∧ (0 ≤ b1 ∧ b1 ≤ 255) ∧ S.went[(b0 * 256 + b1).toNat]? = some p ∧ (c.t = 5 → p.k = 1) ∧ (c.t ≠ 5 → p.k = 2)
section
variable {sess room : Int} {all : List El} {B h t : Nat} {S : WS}
structure Par0 (sess room : Int) (all : List El) : Prop where
  s : 1 ≤ sess ∧ sess ≤ 2147483647
  r : 1 ≤ room ∧ room ≤ 8
  o : AllOk all
  l : 1 ≤ all.length ∧ all.length ≤ 21
theorem Inv.sbad (P : Par0 sess room all) (I : Inv sess room all B h t S) : S.s.bad = false := by
  have hp := P.s; have hl := P.l; have h8 := I.q8; have hpl := I.pl; have hB := I.bh; have hh := I.hp
  have hlen : S.s.q.length = S.put - B := by rw [I.sq, part_len I.pl]
  have hrow : rowB S.s.q 8 = true := by rw [I.sq]; exact part_row P.o I.pl (by omega) (by omega)
  have hbeh : IntKind.u64.wrap (S.s.b + IntKind.u64.wrap (S.s.q.length : Int)) = S.s.b + S.s.q.length := by rw [I.sb, wu64 (x := (S.s.q.length : Int)) (by omega), wu64 (by omega)]
  have hends : (endsB S.s.q && !S.s.e) = false := by
    cases he : endsB S.s.q with
    | false => rfl
    | true =>
      have e1 : endsB ((part all B S.put).take (S.put - B)) = true := by rw [List.take_of_length_le (by rw [part_len I.pl]; omega), ← I.sq]; exact he
      have := part_ends P.o I.pl (by omega) (by omega) e1
      rw [I.se]
      have : S.put = all.length := by omega
      simp [this]
  unfold Snd.bad sndBad
  rw [hbeh, hrow, hends, I.sa, I.sb]
  have := I.sl
  simp
  omega
theorem Inv.rbad (P : Par0 sess room all) (I : Inv sess room all B h t S) : S.r.bad = false := by
  have hp := P.s; have hl := P.l; have hpl := I.pl; have hh := I.hp; have ht := I.th; have hr := P.r; have hrm := I.rm
  have hlen : S.r.q.length = h - t := by rw [I.rq, part_len (by omega)]
  have hrow : rowB S.r.q S.r.r = true := by rw [I.rq, I.rr]; exact part_row P.o (by omega) ht hrm
  unfold Rcv.bad rcvBad
  rw [hrow, I.ra, I.rb, I.rr, hlen, wu64 (x := ((h - t : Nat) : Int)) (by omega)]
  simp
  omega
end
end Go.Proofs.Ytilakloilkkfmaa
