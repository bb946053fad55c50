/-
  net: the check; which parcel.
-/
import Derived.Test.YtilakloilkkfmaaNetA
namespace Go.Proofs.Ytilakloilkkfmaa
open Go Go.Sx
set_option maxRecDepth 10000
-- @uses Clones NetA
def NetV (sent : Int) (ad : Option Addr) (n cap : Nat) : Value := .agg #[.int .u64 sent, .slice ad n cap]
def lastN (ps : List Par) (k : Nat) : Int := if k = 0 then 0 else (ps.getD (k - 1) default).c.n
theorem getd {α : Type} [Inhabited α] {l : List α} {k : Nat} (h : k < l.length) : l[k]? = some (l.getD k default) := by rw [List.getD_eq_getElem?_getD, List.getElem?_eq_getElem h]; rfl
theorem NetOk.at {sent : Int} {ps : List Par} (h : NetOk sent (ps.map Par.c)) {k : Nat} (hk : k < ps.length) :
    lastN ps k < (ps.getD k default).c.n ∧ (0 < (ps.getD k default).c.n ∧ (ps.getD k default).c.n ≤ sent) ∧ (1 ≤ (ps.getD k default).c.f ∧ (ps.getD k default).c.f ≤ 7) ∧ (1 ≤ (ps.getD k default).c.t ∧ (ps.getD k default).c.t ≤ 7) ∧ (ps.getD k default).c.f ≠ (ps.getD k default).c.t ∧ (ps.getD k default).c.b.length ≤ 30000 := by
  have h1 := getd hk
  have hm : (ps.getD k default).c ∈ ps.map Par.c := List.mem_map.2 ⟨_, List.mem_of_getElem? h1, rfl⟩
  have h2 := h.each _ hm
  refine ⟨?_, h2⟩
  unfold lastN
  split
  · exact h2.1.1
  · have ho := h.ord
    rw [List.pairwise_map] at ho
    have h3 := getd (l := ps) (k := k - 1) (by omega)
    obtain ⟨q1, e1⟩ := List.getElem?_eq_some_iff.1 h1
    obtain ⟨q3, e3⟩ := List.getElem?_eq_some_iff.1 h3
    rw [← e1, ← e3]
    exact List.pairwise_iff_getElem.1 ho (k - 1) k q3 q1 (by omega)
theorem check_c {E : List Nat} {w0 : World} {ad : Option Addr} {cap : Nat} {ps : List Par} {sent : Int} (hs : NetS E w0 ad cap ps) (hok : NetOk sent (ps.map Par.c)) :
    CallsTo Try.prog 101 [.agg #[.int .u64 sent, .slice ad ps.length cap]] w0 [] fun v _ => v = .int .i64 0 := by
  have hl : ps.length ≤ 60 := by have := hok.len; simpa using this
  have hs1 := hok.s1
  refine enter (m := 65) Try.func101 rfl rfl rfl ?_; intro a F
  have H := Hp.start w0 []
  refine rg ?_
  refine s_box 1 F H rfl rfl rfl ?_; intro g1; (try clear F H a); try clear w
  intro a w F H
  refine st F H rfl rfl rfl (y_as rfl) ?_; (try clear F a); intro a F
  refine wpList_nil ?_
  refine rg ?_
  refine st F H rfl rfl rfl (y_fa Try.underlying35 rfl Try.sizeOf28 rfl) ?_; (try clear F a); intro a F
  refine st F H rfl rfl rfl (y_ld1 (key := 1) rfl rfl Try.isAgg28 rfl) ?_; (try clear F a); intro a F
  refine st F H rfl rfl rfl (y_le rfl rfl) ?_; (try clear F a); intro a F
  refine st F H rfl rfl rfl (y_mv rfl) ?_; (try clear F a); intro a F
  refine gand 4 F H rfl .no rfl rfl rfl rfl (fun hb1_3 K1 hK1 => by
      refine gt F rfl rfl rfl rfl hb1_3 ?_
      refine st F H rfl rfl rfl (y_fa Try.underlying35 rfl Try.sizeOf33 rfl) ?_; (try clear F a); intro a F
      refine gt F rfl rfl rfl rfl hb1_3 ?_
      refine st F H rfl rfl rfl (y_ld1 (key := 1) rfl rfl Try.isAgg33 rfl) ?_; (try clear F a); intro a F
      refine gt F rfl rfl rfl rfl hb1_3 ?_
      refine st F H rfl rfl rfl (y_len Try.underlying33 rfl) ?_; (try clear F a); intro a F
      refine gt F rfl rfl rfl rfl hb1_3 ?_
      refine st F H rfl rfl rfl (y_le rfl rfl) ?_; (try clear F a); intro a F
      exact nl (hK1 _ _ _ F rfl H)) ?_
  (try clear F H a); try clear w
  intro a w F H
  refine st F H rfl rfl rfl (y_as rfl) ?_; (try clear F a); intro a F
  refine wpList_nil ?_
  refine rg ?_
  refine st F H rfl rfl rfl (y_as rfl) ?_; (try clear F a); intro a F
  refine wpList_nil ?_
  refine wp_seq ?_
  refine rg ?_
  refine st F H rfl rfl rfl (y_fa Try.underlying35 rfl Try.sizeOf33 rfl) ?_; (try clear F a); intro a F
  refine st F H rfl rfl rfl (y_ld1 (key := 1) rfl rfl Try.isAgg33 rfl) ?_; (try clear F a); intro a F
  refine st F H rfl rfl rfl (y_len Try.underlying33 rfl) ?_; (try clear F a); intro a F
  refine st F H rfl rfl rfl (y_mv rfl) ?_; (try clear F a); intro a F
  refine wpList_nil ?_
  refine wp_block ?_
  refine lp (fun (k : Nat) a w => k ≤ ps.length ∧ Fr 65 [] [(1, .pointer (some ⟨g1, 0, none⟩)), (3, .bool true), (4, .int .u64 (lastN ps k)), (17, .slice ad ps.length cap), (18, .int .i64 ps.length), (19, .int .i64 k)] a ∧ Hp [⟨1, some g1, 35, [.int .u64 sent, .slice ad ps.length cap]⟩] [⟨[], w0⟩] w) (fun k => ps.length - k) 0
    ⟨Nat.zero_le _, F.cut ⟨rfl, by show some (Value.bool _) = some (Value.bool true); simp [hs1]; omega, rfl, rfl, rfl, rfl, trivial⟩, H⟩ (fun k a w hI => ?_)
  clear F H
  obtain ⟨hk, F, H⟩ := hI
  refine rg ?_
  refine st F H rfl rfl rfl (y_lt rfl rfl) ?_; (try clear F a); intro a F
  refine wpList_nil ?_
  refine wp_seq ?_
  refine cn F rfl (fun h4 => ?_) (fun h4 => ?_)
  · have hlt : k < ps.length := by simpa using h4
    obtain ⟨p1, ⟨p2, p3⟩, ⟨p4, p5⟩, ⟨p6, p7⟩, p8, p9⟩ := hok.at hlt
    obtain ⟨g, o, had, hg⟩ := hs.s.addr (by omega)
    subst had
    refine wp_skip ?_
    refine th_n ?_
    refine wp_seq ?_
    refine wp_block ?_
    refine rg ?_
    refine st F H rfl rfl rfl (y_ix Try.underlying33 Try.sizeOf131 rfl rfl rfl k rfl hlt) ?_; (try clear F a); intro a F
    refine st F H rfl rfl rfl (y_lda (vs := (ps.getD k default).cs) rfl Try.isAgg131 Try.sizeOf131 (fun w H => (hs.s.old H.b0.nil).at (getd hlt)) rfl) ?_; (try clear F a); intro a F
    refine s_alloc 6 F H rfl Try.zeroValue131 rfl ?_; intro g6; (try clear F H a); try clear w
    intro a w F H
    refine s_st (key := 6) F H rfl rfl rfl rfl Try.sizeOf131 rfl rfl rfl ?_; (try clear F H a); try clear w
    intro a w F H
    refine wpList_nil ?_
    refine rg ?_
    refine st F H rfl rfl rfl (y_mv rfl) ?_; (try clear F a); intro a F
    refine st F H rfl rfl rfl (y_mv rfl) ?_; (try clear F a); intro a F
    refine gand 4 F H rfl .no rfl rfl rfl rfl (fun hb6_1 K2 hK2 => by
        refine gt F rfl rfl rfl rfl hb6_1 ?_
        refine st F H rfl rfl rfl (y_fa Try.underlying131 rfl Try.sizeOf28 rfl) ?_; (try clear F a); intro a F
        refine gt F rfl rfl rfl rfl hb6_1 ?_
        refine st F H rfl rfl rfl (y_ld1 (key := 6) rfl rfl Try.isAgg28 rfl) ?_; (try clear F a); intro a F
        refine gt F rfl rfl rfl rfl hb6_1 ?_
        refine st F H rfl rfl rfl (y_mv rfl) ?_; (try clear F a); intro a F
        refine gt F rfl rfl rfl rfl hb6_1 ?_
        refine st F H rfl rfl rfl (y_gt rfl rfl) ?_; (try clear F a); intro a F
        exact nl (hK2 _ _ _ F rfl H)) ?_
    (try clear F H a); try clear w
    intro a w F H
    refine st F H rfl rfl rfl (y_mv rfl) ?_; (try clear F a); intro a F
    refine gand 5 F H rfl .no rfl rfl rfl rfl (fun hb6_7 K3 hK3 => by
        refine gt F rfl rfl rfl rfl hb6_7 ?_
        refine st F H rfl rfl rfl (y_fa Try.underlying131 rfl Try.sizeOf28 rfl) ?_; (try clear F a); intro a F
        refine gt F rfl rfl rfl rfl hb6_7 ?_
        refine st F H rfl rfl rfl (y_ld1 (key := 6) rfl rfl Try.isAgg28 rfl) ?_; (try clear F a); intro a F
        refine gt F rfl rfl rfl rfl hb6_7 ?_
        refine st F H rfl rfl rfl (y_fa Try.underlying35 rfl Try.sizeOf28 rfl) ?_; (try clear F a); intro a F
        refine gt F rfl rfl rfl rfl hb6_7 ?_
        refine st F H rfl rfl rfl (y_ld1 (key := 1) rfl rfl Try.isAgg28 rfl) ?_; (try clear F a); intro a F
        refine gt F rfl rfl rfl rfl hb6_7 ?_
        refine st F H rfl rfl rfl (y_le rfl rfl) ?_; (try clear F a); intro a F
        exact nl (hK3 _ _ _ F rfl H)) ?_
    (try clear F H a); try clear w
    intro a w F H
    refine st F H rfl rfl rfl (y_mv rfl) ?_; (try clear F a); intro a F
    refine gand 3 F H rfl .no rfl rfl rfl rfl (fun hb6_14 K4 hK4 => by
        refine gt F rfl rfl rfl rfl hb6_14 ?_
        refine st F H rfl rfl rfl (y_fa Try.underlying131 rfl Try.sizeOf3 rfl) ?_; (try clear F a); intro a F
        refine gt F rfl rfl rfl rfl hb6_14 ?_
        refine st F H rfl rfl rfl (y_ld1 (key := 6) rfl rfl Try.isAgg3 rfl) ?_; (try clear F a); intro a F
        refine gt F rfl rfl rfl rfl hb6_14 ?_
        refine s_callV F H rfl rfl (.cons rfl .nil) Try.call177 (node_c _ _) ?_; (try clear F H a); try clear w
        intro a w F H
        exact nl (hK4 _ _ _ F rfl H)) ?_
    (try clear F H a); try clear w
    intro a w F H
    refine st F H rfl rfl rfl (y_mv rfl) ?_; (try clear F a); intro a F
    refine gand 3 F H rfl .no rfl rfl rfl rfl (fun hb6_19 K5 hK5 => by
        refine gt F rfl rfl rfl rfl hb6_19 ?_
        refine st F H rfl rfl rfl (y_fa Try.underlying131 rfl Try.sizeOf3 rfl) ?_; (try clear F a); intro a F
        refine gt F rfl rfl rfl rfl hb6_19 ?_
        refine st F H rfl rfl rfl (y_ld1 (key := 6) rfl rfl Try.isAgg3 rfl) ?_; (try clear F a); intro a F
        refine gt F rfl rfl rfl rfl hb6_19 ?_
        refine s_callV F H rfl rfl (.cons rfl .nil) Try.call177 (node_c _ _) ?_; (try clear F H a); try clear w
        intro a w F H
        exact nl (hK5 _ _ _ F rfl H)) ?_
    (try clear F H a); try clear w
    intro a w F H
    refine st F H rfl rfl rfl (y_mv rfl) ?_; (try clear F a); intro a F
    refine gand 5 F H rfl .no rfl rfl rfl rfl (fun hb6_24 K6 hK6 => by
        refine gt F rfl rfl rfl rfl hb6_24 ?_
        refine st F H rfl rfl rfl (y_fa Try.underlying131 rfl Try.sizeOf3 rfl) ?_; (try clear F a); intro a F
        refine gt F rfl rfl rfl rfl hb6_24 ?_
        refine st F H rfl rfl rfl (y_ld1 (key := 6) rfl rfl Try.isAgg3 rfl) ?_; (try clear F a); intro a F
        refine gt F rfl rfl rfl rfl hb6_24 ?_
        refine st F H rfl rfl rfl (y_fa Try.underlying131 rfl Try.sizeOf3 rfl) ?_; (try clear F a); intro a F
        refine gt F rfl rfl rfl rfl hb6_24 ?_
        refine st F H rfl rfl rfl (y_ld1 (key := 6) rfl rfl Try.isAgg3 rfl) ?_; (try clear F a); intro a F
        refine gt F rfl rfl rfl rfl hb6_24 ?_
        refine st F H rfl rfl rfl (y_ne rfl rfl) ?_; (try clear F a); intro a F
        exact nl (hK6 _ _ _ F rfl H)) ?_
    (try clear F H a); try clear w
    intro a w F H
    refine st F H rfl rfl rfl (y_mv rfl) ?_; (try clear F a); intro a F
    refine gand 4 F H rfl .no rfl rfl rfl rfl (fun hb6_31 K7 hK7 => by
        refine gt F rfl rfl rfl rfl hb6_31 ?_
        refine st F H rfl rfl rfl (y_fa Try.underlying131 rfl Try.sizeOf129 rfl) ?_; (try clear F a); intro a F
        refine gt F rfl rfl rfl rfl hb6_31 ?_
        refine st F H rfl rfl rfl (y_ld1 (key := 6) rfl rfl Try.isAgg129 rfl) ?_; (try clear F a); intro a F
        refine gt F rfl rfl rfl rfl hb6_31 ?_
        refine st F H rfl rfl rfl (y_len Try.underlying129 rfl) ?_; (try clear F a); intro a F
        refine gt F rfl rfl rfl rfl hb6_31 ?_
        refine st F H rfl rfl rfl (y_le rfl rfl) ?_; (try clear F a); intro a F
        exact nl (hK7 _ _ _ F rfl H)) ?_
    (try clear F H a); try clear w
    intro a w F H
    refine st F H rfl rfl rfl (y_as rfl) ?_; (try clear F a); intro a F
    refine wpList_nil ?_
    refine rg1 ?_
    refine st F H rfl rfl rfl (y_fa Try.underlying131 rfl Try.sizeOf28 rfl) ?_; (try clear F a); intro a F
    refine st F H rfl rfl rfl (y_ld1 (key := 6) rfl rfl Try.isAgg28 rfl) ?_; (try clear F a); intro a F
    refine st F H rfl rfl rfl (y_as rfl) ?_; (try clear F a); intro a F
    refine wpList_nil ?_
    refine ib_n ?_
    refine th_n ?_
    refine rg1 ?_
    refine st F H rfl rfl rfl (y_add rfl rfl) ?_; (try clear F a); intro a F
    refine st F H rfl rfl rfl (y_mv rfl) ?_; (try clear F a); intro a F
    refine wpList_nil ?_
    refine th_n ?_
    rw [wk (by omega)] at F
    exact ⟨k + 1, ⟨by omega, F.cut ⟨rfl, by show some (Value.bool _) = some (Value.bool true); simp [-List.getD_eq_getElem?_getD, p1, p3, p4, p5, p6, p7, p8]; omega, rfl, rfl, rfl, rfl, trivial⟩, H.keep [false, true]⟩, by omega⟩
  · refine wp_exit (th_x (th_x (ib_x ?_)))
    refine th_n ?_
    refine wp_seq ?_
    refine rg ?_
    refine st F H rfl rfl rfl (y_mv rfl) ?_; (try clear F a); intro a F
    refine st F H rfl rfl rfl (y_not rfl) ?_; (try clear F a); intro a F
    refine wpList_nil ?_
    refine cn F rfl (fun h9 => ?_) (fun h9 => ?_)
    · refine rg ?_
      refine st F H rfl rfl rfl (y_as rfl) ?_; (try clear F a); intro a F
      refine wpList_nil ?_
      refine wp_ret (th_r (ret1 F H rfl (rv rfl) ⟨_, rfl, H.b0, ?_⟩))
      (try clear F H a)
      cases h9
    · refine wp_skip ?_
      refine th_n ?_
      refine rg ?_
      refine st F H rfl rfl rfl (y_as rfl) ?_; (try clear F a); intro a F
      refine wpList_nil ?_
      refine wp_ret (ret1 F H rfl (rv rfl) ⟨_, rfl, H.b0, ?_⟩)
      (try clear F H a)
      rfl
theorem pickIx (k : Int) (n : Nat) : (if k < 0 then 0 else k).tmod n = ((k.toNat % n : Nat) : Int) := by
  have : (if k < 0 then 0 else k) = (k.toNat : Int) := by split <;> omega
  rw [this, ← Int.ofNat_tmod]
theorem pick_c {E : List Nat} {w0 : World} {ad : Option Addr} {cap : Nat} {ps : List Par} {sent : Int} (k : Int) (hs : NetS E w0 ad cap ps) (hok : NetOk sent (ps.map Par.c)) :
    CallsTo Try.prog 38 [.agg #[.int .u64 sent, .slice ad ps.length cap], .int .i64 k] w0 [] fun v _ =>
      v = (if ps.length = 0 then .tuple #[.int .u64 0, .bool false] else .tuple #[.int .u64 (ps.getD (k.toNat % ps.length) default).c.n, .bool true]) := by
  have hl : ps.length ≤ 60 := by have := hok.len; simpa using this
  refine enter (m := 26) Try.func38 rfl rfl rfl ?_; intro a F
  have H := Hp.start w0 []
  refine rg ?_
  refine s_box 2 F H rfl rfl rfl ?_; intro g2; (try clear F H a); try clear w
  intro a w F H
  refine st F H rfl rfl rfl (y_as rfl) ?_; (try clear F a); intro a F
  refine st F H rfl rfl rfl (y_as rfl) ?_; (try clear F a); intro a F
  refine wpList_nil ?_
  refine wp_seq ?_
  refine rg ?_
  refine st F H rfl rfl rfl (y_ld (key := 2) rfl rfl Try.isAgg35 Try.sizeOf35 rfl) ?_; (try clear F a); intro a F
  refine s_callV F H rfl rfl (.cons rfl .nil) Try.call101 (check_c (hs.old H.b0.nil) hok) ?_; (try clear F H a); try clear w
  intro a w F H
  refine st F H rfl rfl rfl (y_ne rfl rfl) ?_; (try clear F a); intro a F
  refine st F H rfl rfl rfl (y_mv rfl) ?_; (try clear F a); intro a F
  refine gor 4 F H rfl .no rfl rfl rfl rfl (fun hb1_3 K1 hK1 => by
      refine gt F rfl rfl rfl rfl hb1_3 ?_
      refine st F H rfl rfl rfl (y_fa Try.underlying35 rfl Try.sizeOf33 rfl) ?_; (try clear F a); intro a F
      refine gt F rfl rfl rfl rfl hb1_3 ?_
      refine st F H rfl rfl rfl (y_ld1 (key := 2) rfl rfl Try.isAgg33 rfl) ?_; (try clear F a); intro a F
      refine gt F rfl rfl rfl rfl hb1_3 ?_
      refine st F H rfl rfl rfl (y_len Try.underlying33 rfl) ?_; (try clear F a); intro a F
      refine gt F rfl rfl rfl rfl hb1_3 ?_
      refine st F H rfl rfl rfl (y_eq rfl rfl) ?_; (try clear F a); intro a F
      exact nl (hK1 _ _ _ F rfl H)) ?_
  (try clear F H a); try clear w
  intro a w F H
  refine wpList_nil ?_
  refine cn F rfl (fun h1 => ?_) (fun h1 => ?_)
  · have h0 : ps.length = 0 := by simpa using h1
    refine rg ?_
    refine st F H rfl rfl rfl (y_as rfl) ?_; (try clear F a); intro a F
    refine st F H rfl rfl rfl (y_as rfl) ?_; (try clear F a); intro a F
    refine wpList_nil ?_
    refine wp_ret (th_r (ret2 F H rfl (rv rfl) (rv rfl) ⟨_, rfl, H.b0, ?_⟩))
    (try clear F H a)
    rw [if_pos h0]
  · have h0 : ¬ (ps.length = 0) := by simpa using h1
    have hlt : k.toNat % ps.length < ps.length := Nat.mod_lt _ (by omega)
    obtain ⟨g, o, had, hg⟩ := hs.s.addr (by omega)
    subst had
    refine wp_skip ?_
    refine th_n ?_
    refine rgq H mixed (by kernel_rfl) ?_
    refine stq F rfl rfl rfl (y_fa Try.underlying35 rfl Try.sizeOf33 rfl) ?_; (try clear F a); intro a F
    refine stq F rfl rfl rfl (y_ld1 (key := 2) rfl rfl Try.isAgg33 rfl) ?_; (try clear F a); intro a F
    refine stq F rfl rfl rfl (y_mv rfl) ?_; (try clear F a); intro a F
    refine stq F rfl rfl rfl (y_max rfl rfl) ?_; (try clear F a); intro a F
    refine stq F rfl rfl rfl (y_fa Try.underlying35 rfl Try.sizeOf33 rfl) ?_; (try clear F a); intro a F
    refine stq F rfl rfl rfl (y_ld1 (key := 2) rfl rfl Try.isAgg33 rfl) ?_; (try clear F a); intro a F
    refine stq F rfl rfl rfl (y_len Try.underlying33 rfl) ?_; (try clear F a); intro a F
    refine stq F rfl rfl rfl (y_rem rfl rfl (by omega)) ?_; (try clear F a); intro a F
    refine stq F rfl rfl rfl (y_ix Try.underlying33 Try.sizeOf131 rfl rfl rfl (k.toNat % ps.length) (pickIx k ps.length) hlt) ?_; (try clear F a); intro a F
    refine stq F rfl rfl rfl (y_fa Try.underlying131 rfl Try.sizeOf28 rfl) ?_; (try clear F a); intro a F
    refine stq F rfl rfl rfl (y_ld1a rfl Try.isAgg28 (fun w H => (hs.s.old H.b0.nil).at (getd hlt) 0 _ rfl)) ?_; (try clear F a); intro a F
    refine stq F rfl rfl rfl (y_as rfl) ?_; (try clear F a); intro a F
    refine stq F rfl rfl rfl (y_as rfl) ?_; (try clear F a); intro a F
    refine nlq (fun w H => ?_)
    refine wp_ret (ret2 F H rfl (rv rfl) (rv rfl) ⟨_, rfl, H.b0, ?_⟩)
    (try clear F H a)
    rw [if_neg h0]
end Go.Proofs.Ytilakloilkkfmaa
