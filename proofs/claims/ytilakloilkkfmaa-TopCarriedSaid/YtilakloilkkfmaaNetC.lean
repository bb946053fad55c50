/-
  net: sending, coming.
-/
import Derived.Test.YtilakloilkkfmaaNetB
namespace Go.Proofs.Ytilakloilkkfmaa
open Go Go.Sx
set_option maxRecDepth 10000
-- @uses Clones NetA NetB
theorem fresh_rangeN {w0 : World} {g : Nat} (h : w0.heap.size ≤ g) : g ∉ List.range w0.heap.size := by simp; omega
theorem nsend_c {E E2 : List Nat} {w0 : World} {ad bad : Option Addr} {cap bcap : Nat} {ps : List Par} {sent : Int} (fr to : Int) (b : List Int) (hs : NetS E w0 ad cap ps) (hok : NetOk sent (ps.map Par.c)) (hb0 : Sl E2 w0 1 bc bad b.length bcap b)
    (hft : (1 ≤ fr ∧ fr ≤ 7) ∧ (1 ≤ to ∧ to ≤ 7) ∧ fr ≠ to) (hbl0 : b.length ≤ 30000) (hse : sent < 4611686018427387904) :
    CallsTo Try.prog 100 [NetV sent ad ps.length cap, .int .i64 fr, .int .i64 to, .slice bad b.length bcap] w0 [] fun v w' =>
      if 60 ≤ ps.length then v = .tuple #[NetV 0 none 0 0, .int .u64 0, .int .i64 6] else
      ∃ ad' cap' ps', v = .tuple #[NetV (sent + 1) ad' ps'.length cap', .int .u64 (sent + 1), .int .i64 0] ∧ NetS (List.range w0.heap.size) w' ad' cap' ps' ∧ ps'.map Par.c = ps.map Par.c ++ [⟨sent + 1, fr, to, b⟩] := by
  have hl : ps.length ≤ 60 := by have := hok.len; simpa using this
  have hs0 := hok.s0
  simp only [NetV] at *
  refine enter (m := 23) Try.func100 rfl rfl rfl ?_; intro a F
  have H := Hp.start w0 []
  refine rg ?_
  refine s_box 4 F H rfl rfl rfl ?_; intro g4; (try clear F H a); try clear w
  intro a w F H
  refine s_box 5 F H rfl rfl rfl ?_; intro g5; (try clear F H a); try clear w
  intro a w F H
  refine s_box 6 F H rfl rfl rfl ?_; intro g6; (try clear F H a); try clear w
  intro a w F H
  refine s_box 7 F H rfl rfl rfl ?_; intro g7; (try clear F H a); try clear w
  intro a w F H
  refine s_alloc 8 F H rfl Try.zeroValue35 rfl ?_; intro g8; (try clear F H a); try clear w
  intro a w F H
  refine st F H rfl rfl rfl (y_as rfl) ?_; (try clear F a); intro a F
  refine st F H rfl rfl rfl (y_as rfl) ?_; (try clear F a); intro a F
  refine wpList_nil ?_
  refine rg ?_
  refine st F H rfl rfl rfl (y_ld (key := 4) rfl rfl Try.isAgg35 Try.sizeOf35 rfl) ?_; (try clear F a); intro a F
  refine st F H rfl rfl rfl (y_fn (.cons rfl (.cons rfl (.cons rfl .nil)))) ?_; (try clear F a); intro a F
  refine s_in F rfl (.cons rfl (.cons rfl .nil)) Try.call104 rfl ?_
  refine enter (m := 45) Try.func104 rfl rfl rfl ?_; intro a F
  refine rg ?_
  refine s_box 1002 F H rfl rfl rfl ?_; intro g1002; (try clear F H a); try clear w
  intro a w F H
  refine s_alloc 1004 F H rfl Try.zeroValue35 rfl ?_; intro g1004; (try clear F H a); try clear w
  intro a w F H
  refine st F H rfl rfl rfl (y_as rfl) ?_; (try clear F a); intro a F
  refine wpList_nil ?_
  refine wp_seq ?_
  refine rg ?_
  refine st F H rfl rfl rfl (y_ld (key := 1002) rfl rfl Try.isAgg35 Try.sizeOf35 rfl) ?_; (try clear F a); intro a F
  refine s_callV F H rfl rfl (.cons rfl .nil) Try.call101 (check_c (hs.old H.b0.nil) hok) ?_; (try clear F H a); try clear w
  intro a w F H
  refine st F H rfl rfl rfl (y_as rfl) ?_; (try clear F a); intro a F
  refine wpList_nil ?_
  refine rg ?_
  refine st F H rfl rfl rfl (y_mv rfl) ?_; (try clear F a); intro a F
  refine st F H rfl rfl rfl (y_ne rfl rfl) ?_; (try clear F a); intro a F
  refine wpList_nil ?_
  refine cnF F rfl ?_
  refine wp_skip ?_
  refine th_n ?_
  refine rg ?_
  refine st F H rfl rfl rfl (y_fa Try.underlying35 rfl Try.sizeOf33 rfl) ?_; (try clear F a); intro a F
  refine st F H rfl rfl rfl (y_ld1 (key := 1002) rfl rfl Try.isAgg33 rfl) ?_; (try clear F a); intro a F
  refine s_callN 1017 F H rfl rfl (.cons rfl .nil) Try.call178 (clone178_c Par.wid Par.one (hs.s.old H.b0.nil) (by omega)) ?_
  rintro _ og1017 row1017 a w ⟨cap1, rfl, hr0, hn1⟩ hO F H
  refine st F H rfl rfl rfl (y_fa Try.underlying35 rfl Try.sizeOf33 rfl) ?_; (try clear F a); intro a F
  refine s_st (key := 1002) F H rfl rfl rfl rfl Try.sizeOf33 rfl rfl rfl ?_; (try clear F H a); try clear w
  intro a w F H
  refine wpList_nil ?_
  refine wp_seq ?_
  refine rg ?_
  refine st F H rfl rfl rfl (y_fa Try.underlying35 rfl Try.sizeOf33 rfl) ?_; (try clear F a); intro a F
  refine st F H rfl rfl rfl (y_ld1 (key := 1002) rfl rfl Try.isAgg33 rfl) ?_; (try clear F a); intro a F
  refine st F H rfl rfl rfl (y_len Try.underlying33 rfl) ?_; (try clear F a); intro a F
  refine st F H rfl rfl rfl (y_mv rfl) ?_; (try clear F a); intro a F
  refine wpList_nil ?_
  refine wp_block ?_
  refine lp (fun (k : Nat × List Par × List Value) a w => (k.1 ≤ ps.length ∧ k.2.1.map Par.c = ps.map Par.c ∧ RowOf og1017 4 Par.cs k.2.1 cap1 k.2.2 ∧
      ∀ j p, k.2.1[j]? = some p → (j < k.1 → Sl (blks [⟨1017, og1017, 131, k.2.2⟩, ⟨1004, some g1004, 35, [.int .u64 0, .slice none 0 0]⟩, ⟨1002, some g1002, 35, [.int .u64 sent, .slice (adr og1017) ps.length cap1]⟩, ⟨8, some g8, 35, [.int .u64 0, .slice none 0 0]⟩, ⟨7, some g7, 129, [.slice bad b.length bcap]⟩, ⟨6, some g6, 3, [.int .i64 to]⟩, ⟨5, some g5, 3, [.int .i64 fr]⟩, ⟨4, some g4, 35, [.int .u64 sent, .slice ad ps.length cap]⟩] ++ List.range w0.heap.size) w 1 bc p.ad p.c.b.length p.cap p.c.b) ∧ (k.1 ≤ j → ps[j]? = some p)) ∧
      Fr 45 [] [(1, .func (.func 176) #[] #[.pointer (some ⟨g5, 0, none⟩), .pointer (some ⟨g6, 0, none⟩), .pointer (some ⟨g7, 0, none⟩)]), (2, .pointer (some ⟨g1002, 0, none⟩)), (4, .pointer (some ⟨g1004, 0, none⟩)), (5, .int .i64 0), (21, .int .i64 ps.length), (22, .int .i64 k.1)] a ∧
      Hp [⟨1017, og1017, 131, k.2.2⟩, ⟨1004, some g1004, 35, [.int .u64 0, .slice none 0 0]⟩, ⟨1002, some g1002, 35, [.int .u64 sent, .slice (adr og1017) ps.length cap1]⟩, ⟨8, some g8, 35, [.int .u64 0, .slice none 0 0]⟩, ⟨7, some g7, 129, [.slice bad b.length bcap]⟩, ⟨6, some g6, 3, [.int .i64 to]⟩, ⟨5, some g5, 3, [.int .i64 fr]⟩, ⟨4, some g4, 35, [.int .u64 sent, .slice ad ps.length cap]⟩] [⟨[], w0⟩] w) (fun k => ps.length - k.1) (0, ps, row1017)
    ⟨⟨Nat.zero_le _, rfl, hr0, fun j p hp => ⟨fun h => absurd h (Nat.not_lt_zero _), fun _ => hp⟩⟩, F.cut ⟨rfl, rfl, rfl, rfl, rfl, rfl, trivial⟩, H⟩ (fun k a wl hI => ?_)
  clear F H
  obtain ⟨k, ps1, row1⟩ := k
  obtain ⟨⟨hk, hc1, hr, hbf⟩, F, H⟩ := hI
  simp only at hk hc1 hr hbf F H
  have hl1 : ps1.length = ps.length := by have := congrArg List.length hc1; simpa using this
  have H := H.atW
  refine rg ?_
  refine st F H rfl rfl rfl (y_lt rfl rfl) ?_; (try clear F a); intro a F
  refine wpList_nil ?_
  refine wp_seq ?_
  refine cn F rfl (fun h6_1 => ?_) (fun h6_1 => ?_)
  · have hlt : k < ps.length := by simpa using h6_1
    have hx := getd (l := ps1) (k := k) (by omega)
    obtain ⟨p1, hp1⟩ : ∃ p1, p1 = ps1.getD k default := ⟨_, rfl⟩
    rw [← hp1] at hx
    have hxo := (hbf k p1 hx).2 (Nat.le_refl _)
    have hpm : p1 ∈ ps := List.mem_of_getElem? hxo
    have hpb : p1.c.b.length ≤ 30000 := (hok.each p1.c (List.mem_map.2 ⟨_, hpm, rfl⟩)).2.2.2.2
    obtain ⟨gr, rfl⟩ := hr.isSome (by omega)
    refine wp_skip ?_
    refine th_n ?_
    refine wp_seq ?_
    refine wp_block ?_
    refine rg ?_
    refine st F H rfl rfl rfl (y_mv rfl) ?_; (try clear F a); intro a F
    refine st F H rfl rfl rfl (y_as rfl) ?_; (try clear F a); intro a F
    refine wpList_nil ?_
    refine rgd1H [0, 1, 2, 3, 4, 5, 6, 7, 8, 9] [] [] [] H mixed ?_
    have H := H.old (Old.drew _)
    have HS := (H.rms [])
    refine tk 0 F HS (by kernel_rfl) rfl rfl rfl .no (y_fa Try.underlying35 rfl Try.sizeOf33 rfl) ?_; (try clear F a); intro a F
    refine tk 1 F HS (by kernel_rfl) rfl rfl rfl .no (y_ld1 (key := 1002) rfl rfl Try.isAgg33 rfl) ?_; (try clear F a); intro a F
    refine tk 2 F HS (by kernel_rfl) rfl rfl rfl .no (y_mv rfl) ?_; (try clear F a); intro a F
    refine tk 3 F HS (by kernel_rfl) rfl rfl rfl .no (y_fa Try.underlying35 rfl Try.sizeOf33 rfl) ?_; (try clear F a); intro a F
    refine tk 4 F HS (by kernel_rfl) rfl rfl rfl .no (y_ld1 (key := 1002) rfl rfl Try.isAgg33 rfl) ?_; (try clear F a); intro a F
    refine one' 5 (by kernel_rfl) rfl ?_
    refine st F H rfl rfl rfl (y_mv rfl) ?_; (try clear F a); intro a F
    have HS := (H.rms [])
    refine wpList_nil ⟨⟨fun _ _ => HS, fun h => absurd h (by decide)⟩, ?_⟩
    refine one' 6 (by kernel_rfl) rfl ?_
    refine st F H rfl rfl rfl (y_ix Try.underlying33 Try.sizeOf131 rfl rfl rfl k rfl hlt) ?_; (try clear F a); intro a F
    have HS := (H.rms [])
    refine wpList_nil ⟨⟨fun _ _ => HS, fun h => absurd h (by decide)⟩, ?_⟩
    refine one' 7 (by kernel_rfl) rfl ?_
    refine st F H rfl rfl rfl (y_fa Try.underlying131 rfl Try.sizeOf129 rfl) ?_; (try clear F a); intro a F
    have HS := (H.rms [])
    refine wpList_nil ⟨⟨fun _ _ => HS, fun h => absurd h (by decide)⟩, ?_⟩
    refine one' 8 (by kernel_rfl) rfl ?_
    refine st F H rfl rfl rfl (y_ld1a rfl Try.isAgg129 (fun w H => (hr.sl (E := []) Par.wid (fun g hg => H.cell (k := 1017) rfl hg) (by simp)).at hx 3 _ rfl)) ?_; (try clear F a); intro a F
    have HS := (H.rms [])
    refine wpList_nil ⟨⟨fun _ _ => HS, fun h => absurd h (by decide)⟩, ?_⟩
    refine one' 9 (by kernel_rfl) rfl ?_
    refine s_callN 1034 F H rfl rfl (.cons rfl .nil) Try.call107 (clone107_c bc.wid bc.one ((hs.b p1 hpm).old H.b0.nil) (by omega)) ?_
    rintro _ og1034 row1034 a w ⟨cap2, rfl, hb, hbn⟩ hO F H
    have HS := (H.rms [1034])
    refine wpList_nil ⟨⟨fun _ _ => HS, fun h => absurd h (by decide)⟩, ?_⟩
    refine one' 10 (by kernel_rfl) rfl ?_
    refine st F H rfl rfl rfl (y_ix Try.underlying33 Try.sizeOf131 rfl rfl rfl k rfl hlt) ?_; (try clear F a); intro a F
    have HS := (H.rms [1034])
    refine wpList_nil ⟨⟨fun h => absurd h (by decide), fun h => absurd h (by decide)⟩, ?_⟩
    refine one' 11 (by kernel_rfl) rfl ?_
    refine st F H rfl rfl rfl (y_fa Try.underlying131 rfl Try.sizeOf129 rfl) ?_; (try clear F a); intro a F
    have HS := (H.rms [1034])
    refine wpList_nil ⟨⟨fun h => absurd h (by decide), fun h => absurd h (by decide)⟩, ?_⟩
    refine one' 12 (by kernel_rfl) rfl ?_
    refine s_st (key := 1017) (vs := [.slice (adr og1034) p1.c.b.length cap2]) F H rfl rfl rfl rfl Try.sizeOf129 rfl (by rw [Nat.ble_eq]; show 0 + k * 4 + 3 + 1 ≤ row1.length; rw [hr.r.len]; have := hr.r.nc; omega) rfl ?_; (try clear F H a); try clear w
    intro a w F H
    have HS := (H.rms [1034])
    refine wpList_nil ⟨⟨fun h => absurd h (by decide), fun h => absurd h (by decide)⟩, ?_⟩
    refine dn (by kernel_rfl) ?_ _
    refine ib_n ?_
    refine th_n ?_
    refine rg1 ?_
    refine st F H rfl rfl rfl (y_add rfl rfl) ?_; (try clear F a); intro a F
    refine st F H rfl rfl rfl (y_mv rfl) ?_; (try clear F a); intro a F
    refine wpList_nil ?_
    refine th_n ?_
    rw [wk (by omega)] at F
    have hO : Old (blks [⟨1017, (some gr), 131, row1⟩, ⟨1004, some g1004, 35, [.int .u64 0, .slice none 0 0]⟩, ⟨1002, some g1002, 35, [.int .u64 sent, .slice (adr (some gr)) ps.length cap1]⟩, ⟨8, some g8, 35, [.int .u64 0, .slice none 0 0]⟩, ⟨7, some g7, 129, [.slice bad b.length bcap]⟩, ⟨6, some g6, 3, [.int .i64 to]⟩, ⟨5, some g5, 3, [.int .i64 fr]⟩, ⟨4, some g4, 35, [.int .u64 sent, .slice ad ps.length cap]⟩]) wl w := (H.bo ⟨blks [⟨1017, (some gr), 131, row1⟩, ⟨1004, some g1004, 35, [.int .u64 0, .slice none 0 0]⟩, ⟨1002, some g1002, 35, [.int .u64 sent, .slice (adr (some gr)) ps.length cap1]⟩, ⟨8, some g8, 35, [.int .u64 0, .slice none 0 0]⟩, ⟨7, some g7, 129, [.slice bad b.length bcap]⟩, ⟨6, some g6, 3, [.int .i64 to]⟩, ⟨5, some g5, 3, [.int .i64 fr]⟩, ⟨4, some g4, 35, [.int .u64 sent, .slice ad ps.length cap]⟩], wl⟩ (by simp)).1
    refine ⟨(k + 1, ps1.set k ⟨p1.c, adr og1034, cap2⟩, _), ⟨⟨hlt, ?_, hr.put Par.wid (off := 3) (v := .slice (adr og1034) p1.c.b.length cap2) ⟨p1.c, adr og1034, cap2⟩ hx (by cases p1; rfl) (by decide), ?_⟩, F.cut ⟨rfl, rfl, rfl, rfl, rfl, rfl, trivial⟩, (H.rms [1034]).initB⟩, by simp only; omega⟩
    · rw [List.map_set, hc1]
      have e2 : (ps.map Par.c)[k]? = some p1.c := by rw [List.getElem?_map, hxo]; rfl
      obtain ⟨h1, h2⟩ := List.getElem?_eq_some_iff.1 e2
      simp only
      rw [← h2]; exact List.set_getElem_self _
    · intro j p hp
      simp only at hp ⊢
      rw [List.getElem?_set] at hp
      split at hp
      · rename_i hkj
        subst hkj
        rw [if_pos (by omega)] at hp
        cases hp
        refine ⟨fun _ => hb.sl bc.wid (fun g hg => H.cell (k := 1034) rfl hg) (fun g hg hm => ?_), fun h => by omega⟩
        rcases List.mem_append.1 hm with hm | hm
        · obtain ⟨c, hc, hcg⟩ := mem_blks.1 hm
          exact H.ne (c := ⟨1034, og1034, 5, row1034⟩) hg hc hcg
        · exact fresh_rangeN (H.fresh (k := 1034) rfl hg) hm
      · rename_i hkj
        refine ⟨fun hj => ?_, fun hj => (hbf j p hp).2 (by omega)⟩
        exact ((hbf j p hp).1 (by omega)).old (hO.more (fun x hx => List.mem_append_left _ hx))
  · have hlt : ¬ ((k : Int) < ps.length) := by simpa using h6_1
    obtain rfl : k = ps.length := by omega
    have hbl : ∀ j (p : Par), ps1[j]? = some p → Sl (blks [⟨1017, og1017, 131, row1⟩, ⟨1004, some g1004, 35, [.int .u64 0, .slice none 0 0]⟩, ⟨1002, some g1002, 35, [.int .u64 sent, .slice (adr og1017) ps.length cap1]⟩, ⟨8, some g8, 35, [.int .u64 0, .slice none 0 0]⟩, ⟨7, some g7, 129, [.slice bad b.length bcap]⟩, ⟨6, some g6, 3, [.int .i64 to]⟩, ⟨5, some g5, 3, [.int .i64 fr]⟩, ⟨4, some g4, 35, [.int .u64 sent, .slice ad ps.length cap]⟩] ++ List.range w0.heap.size) wl 1 bc p.ad p.c.b.length p.cap p.c.b := fun j p hp => (hbf j p hp).1 (by have := (List.getElem?_eq_some_iff.1 hp).1; omega)
    have hbOf : ∀ {w'}, Old (blks [⟨1017, og1017, 131, row1⟩, ⟨1004, some g1004, 35, [.int .u64 0, .slice none 0 0]⟩, ⟨1002, some g1002, 35, [.int .u64 sent, .slice (adr og1017) ps.length cap1]⟩, ⟨8, some g8, 35, [.int .u64 0, .slice none 0 0]⟩, ⟨7, some g7, 129, [.slice bad b.length bcap]⟩, ⟨6, some g6, 3, [.int .i64 to]⟩, ⟨5, some g5, 3, [.int .i64 fr]⟩, ⟨4, some g4, 35, [.int .u64 sent, .slice ad ps.length cap]⟩]) wl w' → ∀ p ∈ ps1, Sl (List.range w0.heap.size) w' 1 bc p.ad p.c.b.length p.cap p.c.b := by
      intro w' ho p hp
      obtain ⟨j, hj⟩ := List.mem_iff_getElem?.1 hp
      exact ((hbl j p hj).old (ho.more (fun x hx => List.mem_append_left _ hx))).less (fun x hx => List.mem_append_right _ hx)
    refine wp_exit (th_x (th_x (ib_x ?_)))
    refine th_n ?_
    refine wp_seq ?_
    refine rg ?_
    refine st F H rfl rfl rfl (y_mv rfl) ?_; (try clear F a); intro a F
    refine s_in F rfl (.cons rfl .nil) Try.call176 rfl ?_
    refine enter (m := 63) Try.func176 rfl rfl rfl ?_; intro a F
    refine rg ?_
    refine st F H rfl rfl rfl (y_as rfl) ?_; (try clear F a); intro a F
    refine wpList_nil ?_
    refine wp_seq ?_
    refine wp_block ?_
    refine rg ?_
    refine st F H rfl rfl rfl (y_ld1 (key := 5) rfl rfl Try.isAgg3 rfl) ?_; (try clear F a); intro a F
    refine s_callV F H rfl rfl (.cons rfl .nil) Try.call177 (node_c _ _) ?_; (try clear F H a); try clear w
    intro a w F H
    refine st F H rfl rfl rfl (y_not rfl) ?_; (try clear F a); intro a F
    refine st F H rfl rfl rfl (y_mv rfl) ?_; (try clear F a); intro a F
    refine gor 3 F H rfl .no rfl rfl rfl rfl (fun hb1_3_2 K1 hK1 => by
        refine gt F rfl rfl rfl rfl hb1_3_2 ?_
        refine st F H rfl rfl rfl (y_ld1 (key := 6) rfl rfl Try.isAgg3 rfl) ?_; (try clear F a); intro a F
        refine gt F rfl rfl rfl rfl hb1_3_2 ?_
        refine s_callV F H rfl rfl (.cons rfl .nil) Try.call177 (node_c _ _) ?_; (try clear F H a); try clear w
        intro a w F H
        refine gt F rfl rfl rfl rfl hb1_3_2 ?_
        refine st F H rfl rfl rfl (y_not rfl) ?_; (try clear F a); intro a F
        exact nl (hK1 _ _ _ F rfl H)) ?_
    (try clear F H a); try clear w
    intro a w F H
    refine st F H rfl rfl rfl (y_mv rfl) ?_; (try clear F a); intro a F
    refine gor 3 F H rfl .no rfl rfl rfl rfl (fun hb1_8_2 K2 hK2 => by
        refine gt F rfl rfl rfl rfl hb1_8_2 ?_
        refine st F H rfl rfl rfl (y_ld1 (key := 5) rfl rfl Try.isAgg3 rfl) ?_; (try clear F a); intro a F
        refine gt F rfl rfl rfl rfl hb1_8_2 ?_
        refine st F H rfl rfl rfl (y_ld1 (key := 6) rfl rfl Try.isAgg3 rfl) ?_; (try clear F a); intro a F
        refine gt F rfl rfl rfl rfl hb1_8_2 ?_
        refine st F H rfl rfl rfl (y_eq rfl rfl) ?_; (try clear F a); intro a F
        exact nl (hK2 _ _ _ F rfl H)) ?_
    (try clear F H a); try clear w
    intro a w F H
    refine st F H rfl rfl rfl (y_as rfl) ?_; (try clear F a); intro a F
    refine wpList_nil ?_
    refine cn F rfl (fun h1_2 => ?_) (fun h1_2 => ?_)
    · have hh := h1_2
      simp [hft.1.1, hft.1.2, hft.2.1.1, hft.2.1.2, hft.2.2] at hh
    · refine rg ?_
      refine st F H rfl rfl rfl (y_ld1 (key := 7) rfl rfl Try.isAgg129 rfl) ?_; (try clear F a); intro a F
      refine st F H rfl rfl rfl (y_len Try.underlying129 rfl) ?_; (try clear F a); intro a F
      refine st F H rfl rfl rfl (y_gt rfl rfl) ?_; (try clear F a); intro a F
      refine st F H rfl rfl rfl (y_as rfl) ?_; (try clear F a); intro a F
      refine wpList_nil ?_
      refine cn F rfl (fun h3_2 => ?_) (fun h3_2 => ?_)
      · have hh := h3_2
        simp at hh
        omega
      · refine rg ?_
        refine st F H rfl rfl rfl (y_mv rfl) ?_; (try clear F a); intro a F
        refine st F H rfl rfl rfl (y_nil rfl) ?_; (try clear F a); intro a F
        refine st F H rfl rfl rfl (y_fa Try.underlying35 rfl Try.sizeOf33 rfl) ?_; (try clear F a); intro a F
        refine st F H rfl rfl rfl (y_ld1 (key := 1002) rfl rfl Try.isAgg33 rfl) ?_; (try clear F a); intro a F
        refine st F H rfl rfl rfl (y_len Try.underlying33 rfl) ?_; (try clear F a); intro a F
        refine st F H rfl rfl rfl (y_ge rfl rfl) ?_; (try clear F a); intro a F
        refine st F H rfl rfl rfl (y_mv rfl) ?_; (try clear F a); intro a F
        refine gor 5 F H rfl .no rfl rfl rfl rfl (fun hb5_6_2 K3 hK3 => by
            refine gt F rfl rfl rfl rfl hb5_6_2 ?_
            refine st F H rfl rfl rfl (y_mv rfl) ?_; (try clear F a); intro a F
            refine gt F rfl rfl rfl rfl hb5_6_2 ?_
            refine st F H rfl rfl rfl (y_nil rfl) ?_; (try clear F a); intro a F
            refine gt F rfl rfl rfl rfl hb5_6_2 ?_
            refine st F H rfl rfl rfl (y_fa Try.underlying35 rfl Try.sizeOf28 rfl) ?_; (try clear F a); intro a F
            refine gt F rfl rfl rfl rfl hb5_6_2 ?_
            refine st F H rfl rfl rfl (y_ld1 (key := 1002) rfl rfl Try.isAgg28 rfl) ?_; (try clear F a); intro a F
            refine gt F rfl rfl rfl rfl hb5_6_2 ?_
            refine st F H rfl rfl rfl (y_eq rfl rfl) ?_; (try clear F a); intro a F
            exact nl (hK3 _ _ _ F rfl H)) ?_
        (try clear F H a); try clear w
        intro a w F H
        refine st F H rfl rfl rfl (y_as rfl) ?_; (try clear F a); intro a F
        refine wpList_nil ?_
        refine cn F rfl (fun h5_2 => ?_) (fun h5_2 => ?_)
        · have hfull : 60 ≤ ps.length := by have := h5_2; simp at this; omega
          refine rg ?_
          refine st F H rfl rfl rfl (y_as rfl) ?_; (try clear F a); intro a F
          refine wpList_nil ?_
          refine wp_ret (ib_r (th_r (ret1 F H rfl (rv rfl) ⟨_, rfl, fun a F => ?_⟩)))
          refine st F H rfl rfl rfl (y_as rfl) ?_; (try clear F a); intro a F
          refine wpList_nil ?_
          refine rg ?_
          refine st F H rfl rfl rfl (y_mv rfl) ?_; (try clear F a); intro a F
          refine st F H rfl rfl rfl (y_ne rfl rfl) ?_; (try clear F a); intro a F
          refine wpList_nil ?_
          refine cnT F rfl ?_
          refine rg ?_
          refine st F H rfl rfl rfl (y_build Try.zeroValue35 Try.underlying35 pl35 rfl .nil rfl) ?_; (try clear F a); intro a F
          refine st F H rfl rfl rfl (y_mv rfl) ?_; (try clear F a); intro a F
          refine s_st (key := 1004) F H rfl rfl rfl rfl Try.sizeOf35 rfl rfl rfl ?_; (try clear F H a); try clear w
          intro a w F H
          refine st F H rfl rfl rfl (y_as rfl) ?_; (try clear F a); intro a F
          refine wpList_nil ?_
          refine wp_ret (th_r (ret2 F H rfl (rva (key := 1004) rfl rfl Try.isAgg35 Try.sizeOf35 rfl) (rv rfl) ⟨_, rfl, fun a F => ?_⟩))
          refine st F H rfl rfl rfl (y_mv rfl) ?_; (try clear F a); intro a F
          refine st F H rfl rfl rfl (y_ext rfl rfl) ?_; (try clear F a); intro a F
          refine st F H rfl rfl rfl (y_ext rfl rfl) ?_; (try clear F a); intro a F
          refine s_alloc 11 F H rfl Try.zeroValue35 rfl ?_; intro g11; (try clear F H a); try clear w
          intro a w F H
          refine s_st (key := 11) F H rfl rfl rfl rfl Try.sizeOf35 rfl rfl rfl ?_; (try clear F H a); try clear w
          intro a w F H
          refine st F H rfl rfl rfl (y_as rfl) ?_; (try clear F a); intro a F
          refine wpList_nil ?_
          refine rgdH [0, 1, 2, 3] [0, 1, 2, 3, 4, 5] [] [8] H mixed ?_
          have H := H.old (Old.drew _)
          have HS := (H.rms [])
          have HT := (H.rms [8])
          refine tk 0 F HS (by kernel_rfl) rfl rfl rfl .no (y_ld (key := 11) rfl rfl Try.isAgg35 Try.sizeOf35 rfl) ?_; (try clear F a); intro a F
          refine tk2 1 F HT (by kernel_rfl) rfl rfl rfl .no (y_fa Try.underlying35 rfl Try.sizeOf28 rfl) ?_; (try clear F a); intro a F
          refine tk2 2 F HT (by kernel_rfl) rfl rfl rfl .no (y_ld1 (key := 11) rfl rfl Try.isAgg28 rfl) ?_; (try clear F a); intro a F
          refine tk2 3 F HT (by kernel_rfl) rfl rfl rfl .no (y_mv rfl) ?_; (try clear F a); intro a F
          refine one' 4 (by kernel_rfl) rfl ?_
          refine s_st (key := 8) F H rfl rfl rfl rfl Try.sizeOf35 rfl rfl rfl ?_; (try clear F H a); try clear w
          intro a w F H
          have HS := (H.rms [])
          have HT := (H.rms [8])
          refine wpList_nil ⟨⟨fun h => absurd h (by decide), fun _ _ => HT⟩, ?_⟩
          refine one' 5 (by kernel_rfl) rfl ?_
          refine st F H rfl rfl rfl (y_as rfl) ?_; (try clear F a); intro a F
          have HS := (H.rms [])
          have HT := (H.rms [8])
          refine wpList_nil ⟨⟨fun h => absurd h (by decide), fun _ _ => HT⟩, ?_⟩
          refine one' 6 (by kernel_rfl) rfl ?_
          refine st F H rfl rfl rfl (y_as rfl) ?_; (try clear F a); intro a F
          have HS := (H.rms [])
          have HT := (H.rms [8])
          refine wpList_nil ⟨⟨fun h => absurd h (by decide), fun h => absurd h (by decide)⟩, ?_⟩
          refine dn (by kernel_rfl) ?_ _
          refine wp_ret (ret3 F H rfl (rva (key := 8) rfl rfl Try.isAgg35 Try.sizeOf35 rfl) (rv rfl) (rv rfl) ⟨_, rfl, H.b0, ?_⟩)
          (try clear F H a)
          show if 60 ≤ ps.length then _ else _
          rw [if_pos hfull]
          rfl
        · have hfull : ¬ 60 ≤ ps.length := by have := h5_2; simp at this; omega
          have hinc : IntKind.u64.wrap (sent + 1) = sent + 1 := wu64 (by omega)
          refine wp_skip ?_
          refine ib_n ?_
          refine th_n ?_
          refine rg ?_
          refine st F H rfl rfl rfl (y_mv rfl) ?_; (try clear F a); intro a F
          refine st F H rfl rfl rfl (y_nil rfl) ?_; (try clear F a); intro a F
          refine st F H rfl rfl rfl (y_fa Try.underlying35 rfl Try.sizeOf28 rfl) ?_; (try clear F a); intro a F
          refine st F H rfl rfl rfl (y_ld1 (key := 1002) rfl rfl Try.isAgg28 rfl) ?_; (try clear F a); intro a F
          refine st F H rfl rfl rfl (y_add rfl rfl) ?_; (try clear F a); intro a F
          refine st F H rfl rfl rfl (y_nil rfl) ?_; (try clear F a); intro a F
          refine st F H rfl rfl rfl (y_fa Try.underlying35 rfl Try.sizeOf28 rfl) ?_; (try clear F a); intro a F
          rw [hinc] at F
          refine s_st (key := 1002) F H rfl rfl rfl rfl Try.sizeOf28 rfl rfl rfl ?_; (try clear F H a); try clear w
          intro a w F H
          refine wpList_nil ?_
          refine rgdH [0, 1, 2, 3, 4, 5, 6, 7, 8, 9, 10, 11, 12, 13, 14, 15] [] [1017] [1017] H mixed ?_
          have H := H.old (Old.drew _)
          have HS := (H.rms [1017])
          refine tk 0 F HS (by kernel_rfl) rfl rfl rfl .no (y_mv rfl) ?_; (try clear F a); intro a F
          refine tk 1 F HS (by kernel_rfl) rfl rfl rfl .no (y_mv rfl) ?_; (try clear F a); intro a F
          refine tk 2 F HS (by kernel_rfl) rfl rfl rfl .no (y_nil rfl) ?_; (try clear F a); intro a F
          refine tk 3 F HS (by kernel_rfl) rfl rfl rfl .no (y_fa Try.underlying35 rfl Try.sizeOf33 rfl) ?_; (try clear F a); intro a F
          refine tk 4 F HS (by kernel_rfl) rfl rfl rfl .no (y_ld1 (key := 1002) rfl rfl Try.isAgg33 rfl) ?_; (try clear F a); intro a F
          refine tk 5 F HS (by kernel_rfl) rfl rfl rfl .no (y_mv rfl) ?_; (try clear F a); intro a F
          refine tk 6 F HS (by kernel_rfl) rfl rfl rfl .no (y_nil rfl) ?_; (try clear F a); intro a F
          refine tk 7 F HS (by kernel_rfl) rfl rfl rfl .no (y_fa Try.underlying35 rfl Try.sizeOf28 rfl) ?_; (try clear F a); intro a F
          refine tk 8 F HS (by kernel_rfl) rfl rfl rfl .no (y_ld1 (key := 1002) rfl rfl Try.isAgg28 rfl) ?_; (try clear F a); intro a F
          refine tk 9 F HS (by kernel_rfl) rfl rfl rfl .no (y_ld1 (key := 5) rfl rfl Try.isAgg3 rfl) ?_; (try clear F a); intro a F
          refine tk 10 F HS (by kernel_rfl) rfl rfl rfl .no (y_ld1 (key := 6) rfl rfl Try.isAgg3 rfl) ?_; (try clear F a); intro a F
          refine one' 11 (by kernel_rfl) rfl ?_
          refine st F H rfl rfl rfl (y_ld1 (key := 7) rfl rfl Try.isAgg129 rfl) ?_; (try clear F a); intro a F
          have HS := (H.rms [1017])
          refine wpList_nil ⟨⟨fun _ _ => HS, fun h => absurd h (by decide)⟩, ?_⟩
          refine one' 12 (by kernel_rfl) rfl ?_
          refine s_callN 2057 F H rfl rfl (.cons rfl .nil) Try.call107 (clone107_c bc.wid bc.one (hb0.old H.b0.nil) (by omega)) ?_
          rintro _ og2057 row2057 a w ⟨cap3, rfl, hb3, hbn3⟩ hO F H
          have HS := (H.rms [2057, 1017])
          refine wpList_nil ⟨⟨fun _ _ => HS, fun h => absurd h (by decide)⟩, ?_⟩
          refine one' 13 (by kernel_rfl) rfl ?_
          refine st F H rfl rfl rfl (y_build Try.zeroValue131 Try.underlying131 pl131 rfl (.cons rfl (.cons rfl (.cons rfl (.cons rfl .nil)))) rfl) ?_; (try clear F a); intro a F
          have HS := (H.rms [2057, 1017])
          refine wpList_nil ⟨⟨fun _ _ => HS, fun h => absurd h (by decide)⟩, ?_⟩
          refine one' 14 (by kernel_rfl) rfl ?_
          refine s_bs1 99 F H rfl Try.underlying33 Try.sizeOf131 Try.zeroValue131 rfl rfl rfl rfl rfl rfl ?_
          intro g99 a w F H
          have HS := (H.rms [2057, 99, 1017])
          refine wpList_nil ⟨⟨fun _ _ => HS, fun h => absurd h (by decide)⟩, ?_⟩
          refine one' 15 (by kernel_rfl) rfl ?_
          have hrow : Row og1017 4 ps.length cap1 row1 := by have := hr.r; rw [hl1] at this; exact this
          refine s_append 1017 F H rfl Try.underlying33 ti131 rfl rfl rfl rfl rfl hrow (At.slc (H.cell (k := 99) rfl rfl) (m := 4) rfl) rfl (fun u hu => one1_mem (Par.one ⟨⟨sent + 1, fr, to, b⟩, adr og2057, cap3⟩) u hu) (by omega) (by omega) ?_
          intro og' cap' row' a w hr' ht' hn' hO F H
          have HS := (H.rms [2057, 99, 1017])
          refine wpList_nil ⟨⟨fun _ _ => HS, fun h => absurd h (by decide)⟩, ?_⟩
          refine one' 16 (by kernel_rfl) rfl ?_
          refine st F H rfl rfl rfl (y_nil rfl) ?_; (try clear F a); intro a F
          have HS := (H.rms [2057, 99, 1017])
          refine wpList_nil ⟨⟨fun h => absurd h (by decide), fun h => absurd h (by decide)⟩, ?_⟩
          refine one' 17 (by kernel_rfl) rfl ?_
          refine st F H rfl rfl rfl (y_fa Try.underlying35 rfl Try.sizeOf33 rfl) ?_; (try clear F a); intro a F
          have HS := (H.rms [2057, 99, 1017])
          refine wpList_nil ⟨⟨fun h => absurd h (by decide), fun h => absurd h (by decide)⟩, ?_⟩
          refine one' 18 (by kernel_rfl) rfl ?_
          refine s_st (key := 1002) F H rfl rfl rfl rfl Try.sizeOf33 rfl rfl rfl ?_; (try clear F H a); try clear w
          intro a w F H
          have HS := (H.rms [2057, 99, 1017])
          refine wpList_nil ⟨⟨fun h => absurd h (by decide), fun h => absurd h (by decide)⟩, ?_⟩
          refine dn (by kernel_rfl) ?_ _
          refine rg ?_
          refine st F H rfl rfl rfl (y_as rfl) ?_; (try clear F a); intro a F
          refine wpList_nil ?_
          refine wp_ret (ret1 F H rfl (rv rfl) ⟨_, rfl, fun a F => ?_⟩)
          refine st F H rfl rfl rfl (y_as rfl) ?_; (try clear F a); intro a F
          refine wpList_nil ?_
          refine rg ?_
          refine st F H rfl rfl rfl (y_mv rfl) ?_; (try clear F a); intro a F
          refine st F H rfl rfl rfl (y_ne rfl rfl) ?_; (try clear F a); intro a F
          refine wpList_nil ?_
          refine cnF F rfl ?_
          refine wp_skip ?_
          refine th_n ?_
          refine rg ?_
          refine st F H rfl rfl rfl (y_ld (key := 1002) rfl rfl Try.isAgg35 Try.sizeOf35 rfl) ?_; (try clear F a); intro a F
          refine s_st (key := 1004) F H rfl rfl rfl rfl Try.sizeOf35 rfl rfl rfl ?_; (try clear F H a); try clear w
          intro a w F H
          refine st F H rfl rfl rfl (y_as rfl) ?_; (try clear F a); intro a F
          refine wpList_nil ?_
          refine wp_ret (ret2 F H rfl (rva (key := 1004) rfl rfl Try.isAgg35 Try.sizeOf35 rfl) (rv rfl) ⟨_, rfl, fun a F => ?_⟩)
          refine st F H rfl rfl rfl (y_mv rfl) ?_; (try clear F a); intro a F
          refine st F H rfl rfl rfl (y_ext rfl rfl) ?_; (try clear F a); intro a F
          refine st F H rfl rfl rfl (y_ext rfl rfl) ?_; (try clear F a); intro a F
          refine s_alloc 11 F H rfl Try.zeroValue35 rfl ?_; intro g11; (try clear F H a); try clear w
          intro a w F H
          refine s_st (key := 11) F H rfl rfl rfl rfl Try.sizeOf35 rfl rfl rfl ?_; (try clear F H a); try clear w
          intro a w F H
          refine st F H rfl rfl rfl (y_as rfl) ?_; (try clear F a); intro a F
          refine wpList_nil ?_
          refine rgdH [0, 1, 2, 3] [0, 1, 2, 3, 4, 5] [] [8] H mixed ?_
          have H := H.old (Old.drew _)
          have HS := (H.rms [])
          have HT := (H.rms [8])
          refine tk 0 F HS (by kernel_rfl) rfl rfl rfl .no (y_ld (key := 11) rfl rfl Try.isAgg35 Try.sizeOf35 rfl) ?_; (try clear F a); intro a F
          refine tk2 1 F HT (by kernel_rfl) rfl rfl rfl .no (y_fa Try.underlying35 rfl Try.sizeOf28 rfl) ?_; (try clear F a); intro a F
          refine tk2 2 F HT (by kernel_rfl) rfl rfl rfl .no (y_ld1 (key := 11) rfl rfl Try.isAgg28 rfl) ?_; (try clear F a); intro a F
          refine tk2 3 F HT (by kernel_rfl) rfl rfl rfl .no (y_mv rfl) ?_; (try clear F a); intro a F
          refine one' 4 (by kernel_rfl) rfl ?_
          refine s_st (key := 8) F H rfl rfl rfl rfl Try.sizeOf35 rfl rfl rfl ?_; (try clear F H a); try clear w
          intro a w F H
          have HS := (H.rms [])
          have HT := (H.rms [8])
          refine wpList_nil ⟨⟨fun h => absurd h (by decide), fun _ _ => HT⟩, ?_⟩
          refine one' 5 (by kernel_rfl) rfl ?_
          refine st F H rfl rfl rfl (y_as rfl) ?_; (try clear F a); intro a F
          have HS := (H.rms [])
          have HT := (H.rms [8])
          refine wpList_nil ⟨⟨fun h => absurd h (by decide), fun _ _ => HT⟩, ?_⟩
          refine one' 6 (by kernel_rfl) rfl ?_
          refine st F H rfl rfl rfl (y_as rfl) ?_; (try clear F a); intro a F
          have HS := (H.rms [])
          have HT := (H.rms [8])
          refine wpList_nil ⟨⟨fun h => absurd h (by decide), fun h => absurd h (by decide)⟩, ?_⟩
          refine dn (by kernel_rfl) ?_ _
          refine wp_ret (ret3 F H rfl (rva (key := 8) rfl rfl Try.isAgg35 Try.sizeOf35 rfl) (rv rfl) (rv rfl) ⟨_, rfl, H.b0, ?_⟩)
          show if 60 ≤ ps.length then _ else _
          rw [if_neg hfull]
          have hOf := (H.bo _ (List.mem_cons_of_mem _ (List.mem_cons_self ..))).1
          have hR : RowOf og' 4 Par.cs (ps1 ++ [⟨⟨sent + 1, fr, to, b⟩, adr og2057, cap3⟩]) cap' row' := hr.push (by rw [hl1]; exact hr') (by rw [hl1]; exact ht')
          refine ⟨adr og', cap', ps1 ++ [⟨⟨sent + 1, fr, to, b⟩, adr og2057, cap3⟩], ?_, ⟨hR.sl Par.wid (fun g hg => H.cell (k := 1017) rfl hg) (fun g hg => fresh_rangeN (H.fresh (k := 1017) rfl hg)), fun p hp => ?_⟩, ?_⟩
          · rw [show (ps1 ++ [(⟨⟨sent + 1, fr, to, b⟩, adr og2057, cap3⟩ : Par)]).length = ps.length + 1 by simp [hl1]]; rfl
          · rcases List.mem_append.1 hp with h | h
            · exact hbOf hOf p h
            · simp only [List.mem_singleton] at h
              subst h
              exact hb3.sl bc.wid (fun g hg => H.cell (k := 2057) rfl hg) (fun g hg => fresh_rangeN (H.fresh (k := 2057) rfl hg))
          · rw [List.map_append, hc1]; rfl
theorem come_c {E : List Nat} {w0 : World} {ad : Option Addr} {cap : Nat} {ps : List Par} {sent : Int} (J : Nat) (p0 : Par) (stays : Bool) (hs : NetS E w0 ad cap ps) (hok : NetOk sent (ps.map Par.c)) (hp0 : ps[J]? = some p0) :
    CallsTo Try.prog 41 [NetV sent ad ps.length cap, .int .u64 p0.c.n, .bool stays] w0 [] fun v w' =>
      ∃ ad' cap' ps' q, v = .tuple #[NetV sent ad' (List.length ps') cap', .agg (Par.cs q).toArray, .int .i64 0] ∧ NetS (List.range w0.heap.size) w' ad' cap' ps' ∧ Par.c q = p0.c ∧ Sl (List.range w0.heap.size) w' 1 bc q.ad q.c.b.length q.cap q.c.b ∧
        ps'.map Par.c = if stays = true then ps.map Par.c else (ps.map Par.c).take J ++ (ps.map Par.c).drop (J + 1) := by
  have hl : ps.length ≤ 60 := by have := hok.len; simpa using this
  have hs0 := hok.s0
  have hJ : J < ps.length := (List.getElem?_eq_some_iff.1 hp0).1
  simp only [NetV] at *
  refine enter (m := 21) Try.func41 rfl rfl rfl ?_; intro a F
  have H := Hp.start w0 []
  refine rg ?_
  refine s_box 3 F H rfl rfl rfl ?_; intro g3; (try clear F H a); try clear w
  intro a w F H
  refine s_box 4 F H rfl rfl rfl ?_; intro g4; (try clear F H a); try clear w
  intro a w F H
  refine s_box 5 F H rfl rfl rfl ?_; intro g5; (try clear F H a); try clear w
  intro a w F H
  refine s_alloc 6 F H rfl Try.zeroValue35 rfl ?_; intro g6; (try clear F H a); try clear w
  intro a w F H
  refine s_alloc 7 F H rfl Try.zeroValue131 rfl ?_; intro g7; (try clear F H a); try clear w
  intro a w F H
  refine st F H rfl rfl rfl (y_as rfl) ?_; (try clear F a); intro a F
  refine wpList_nil ?_
  refine rg ?_
  refine s_alloc 9 F H rfl Try.zeroValue131 rfl ?_; intro g9; (try clear F H a); try clear w
  intro a w F H
  refine wpList_nil ?_
  refine rg ?_
  refine st F H rfl rfl rfl (y_ld (key := 3) rfl rfl Try.isAgg35 Try.sizeOf35 rfl) ?_; (try clear F a); intro a F
  refine st F H rfl rfl rfl (y_fn (.cons rfl (.cons rfl (.cons rfl .nil)))) ?_; (try clear F a); intro a F
  refine s_in F rfl (.cons rfl (.cons rfl .nil)) Try.call104 rfl ?_
  refine enter (m := 45) Try.func104 rfl rfl rfl ?_; intro a F
  refine rg ?_
  refine s_box 1002 F H rfl rfl rfl ?_; intro g1002; (try clear F H a); try clear w
  intro a w F H
  refine s_alloc 1004 F H rfl Try.zeroValue35 rfl ?_; intro g1004; (try clear F H a); try clear w
  intro a w F H
  refine st F H rfl rfl rfl (y_as rfl) ?_; (try clear F a); intro a F
  refine wpList_nil ?_
  refine wp_seq ?_
  refine rg ?_
  refine st F H rfl rfl rfl (y_ld (key := 1002) rfl rfl Try.isAgg35 Try.sizeOf35 rfl) ?_; (try clear F a); intro a F
  refine s_callV F H rfl rfl (.cons rfl .nil) Try.call101 (check_c (hs.old H.b0.nil) hok) ?_; (try clear F H a); try clear w
  intro a w F H
  refine st F H rfl rfl rfl (y_as rfl) ?_; (try clear F a); intro a F
  refine wpList_nil ?_
  refine rg ?_
  refine st F H rfl rfl rfl (y_mv rfl) ?_; (try clear F a); intro a F
  refine st F H rfl rfl rfl (y_ne rfl rfl) ?_; (try clear F a); intro a F
  refine wpList_nil ?_
  refine cnF F rfl ?_
  refine wp_skip ?_
  refine th_n ?_
  refine rg ?_
  refine st F H rfl rfl rfl (y_fa Try.underlying35 rfl Try.sizeOf33 rfl) ?_; (try clear F a); intro a F
  refine st F H rfl rfl rfl (y_ld1 (key := 1002) rfl rfl Try.isAgg33 rfl) ?_; (try clear F a); intro a F
  refine s_callN 1017 F H rfl rfl (.cons rfl .nil) Try.call178 (clone178_c Par.wid Par.one (hs.s.old H.b0.nil) (by omega)) ?_
  rintro _ og1017 row1017 a w ⟨cap1, rfl, hr0, hn1⟩ hO F H
  refine st F H rfl rfl rfl (y_fa Try.underlying35 rfl Try.sizeOf33 rfl) ?_; (try clear F a); intro a F
  refine s_st (key := 1002) F H rfl rfl rfl rfl Try.sizeOf33 rfl rfl rfl ?_; (try clear F H a); try clear w
  intro a w F H
  refine wpList_nil ?_
  refine wp_seq ?_
  refine rg ?_
  refine st F H rfl rfl rfl (y_fa Try.underlying35 rfl Try.sizeOf33 rfl) ?_; (try clear F a); intro a F
  refine st F H rfl rfl rfl (y_ld1 (key := 1002) rfl rfl Try.isAgg33 rfl) ?_; (try clear F a); intro a F
  refine st F H rfl rfl rfl (y_len Try.underlying33 rfl) ?_; (try clear F a); intro a F
  refine st F H rfl rfl rfl (y_mv rfl) ?_; (try clear F a); intro a F
  refine wpList_nil ?_
  refine wp_block ?_
  refine lp (fun (k : Nat × List Par × List Value) a w => (k.1 ≤ ps.length ∧ k.2.1.map Par.c = ps.map Par.c ∧ RowOf og1017 4 Par.cs k.2.1 cap1 k.2.2 ∧
      ∀ j p, k.2.1[j]? = some p → (j < k.1 → Sl (blks [⟨1017, og1017, 131, k.2.2⟩, ⟨1004, some g1004, 35, [.int .u64 0, .slice none 0 0]⟩, ⟨1002, some g1002, 35, [.int .u64 sent, .slice (adr og1017) ps.length cap1]⟩, ⟨9, some g9, 131, [.int .u64 0, .int .i64 0, .int .i64 0, .slice none 0 0]⟩, ⟨7, some g7, 131, [.int .u64 0, .int .i64 0, .int .i64 0, .slice none 0 0]⟩, ⟨6, some g6, 35, [.int .u64 0, .slice none 0 0]⟩, ⟨5, some g5, 4, [.bool stays]⟩, ⟨4, some g4, 28, [.int .u64 p0.c.n]⟩, ⟨3, some g3, 35, [.int .u64 sent, .slice ad ps.length cap]⟩] ++ List.range w0.heap.size) w 1 bc p.ad p.c.b.length p.cap p.c.b) ∧ (k.1 ≤ j → ps[j]? = some p)) ∧
      Fr 45 [] [(1, .func (.func 105) #[] #[.pointer (some ⟨g4, 0, none⟩), .pointer (some ⟨g9, 0, none⟩), .pointer (some ⟨g5, 0, none⟩)]), (2, .pointer (some ⟨g1002, 0, none⟩)), (4, .pointer (some ⟨g1004, 0, none⟩)), (5, .int .i64 0), (21, .int .i64 ps.length), (22, .int .i64 k.1)] a ∧
      Hp [⟨1017, og1017, 131, k.2.2⟩, ⟨1004, some g1004, 35, [.int .u64 0, .slice none 0 0]⟩, ⟨1002, some g1002, 35, [.int .u64 sent, .slice (adr og1017) ps.length cap1]⟩, ⟨9, some g9, 131, [.int .u64 0, .int .i64 0, .int .i64 0, .slice none 0 0]⟩, ⟨7, some g7, 131, [.int .u64 0, .int .i64 0, .int .i64 0, .slice none 0 0]⟩, ⟨6, some g6, 35, [.int .u64 0, .slice none 0 0]⟩, ⟨5, some g5, 4, [.bool stays]⟩, ⟨4, some g4, 28, [.int .u64 p0.c.n]⟩, ⟨3, some g3, 35, [.int .u64 sent, .slice ad ps.length cap]⟩] [⟨[], w0⟩] w) (fun k => ps.length - k.1) (0, ps, row1017)
    ⟨⟨Nat.zero_le _, rfl, hr0, fun j p hp => ⟨fun h => absurd h (Nat.not_lt_zero _), fun _ => hp⟩⟩, F.cut ⟨rfl, rfl, rfl, rfl, rfl, rfl, trivial⟩, H⟩ (fun k a wl hI => ?_)
  clear F H
  obtain ⟨k, ps1, row1⟩ := k
  obtain ⟨⟨hk, hc1, hr, hbf⟩, F, H⟩ := hI
  simp only at hk hc1 hr hbf F H
  have hl1 : ps1.length = ps.length := by have := congrArg List.length hc1; simpa using this
  have H := H.atW
  refine rg ?_
  refine st F H rfl rfl rfl (y_lt rfl rfl) ?_; (try clear F a); intro a F
  refine wpList_nil ?_
  refine wp_seq ?_
  refine cn F rfl (fun h6_1 => ?_) (fun h6_1 => ?_)
  · have hlt : k < ps.length := by simpa using h6_1
    have hx := getd (l := ps1) (k := k) (by omega)
    obtain ⟨p1, hp1⟩ : ∃ p1, p1 = ps1.getD k default := ⟨_, rfl⟩
    rw [← hp1] at hx
    have hxo := (hbf k p1 hx).2 (Nat.le_refl _)
    have hpm : p1 ∈ ps := List.mem_of_getElem? hxo
    have hpb : p1.c.b.length ≤ 30000 := (hok.each p1.c (List.mem_map.2 ⟨_, hpm, rfl⟩)).2.2.2.2
    obtain ⟨gr, rfl⟩ := hr.isSome (by omega)
    refine wp_skip ?_
    refine th_n ?_
    refine wp_seq ?_
    refine wp_block ?_
    refine rg ?_
    refine st F H rfl rfl rfl (y_mv rfl) ?_; (try clear F a); intro a F
    refine st F H rfl rfl rfl (y_as rfl) ?_; (try clear F a); intro a F
    refine wpList_nil ?_
    refine rgd1H [0, 1, 2, 3, 4, 5, 6, 7, 8, 9] [] [] [] H mixed ?_
    have H := H.old (Old.drew _)
    have HS := (H.rms [])
    refine tk 0 F HS (by kernel_rfl) rfl rfl rfl .no (y_fa Try.underlying35 rfl Try.sizeOf33 rfl) ?_; (try clear F a); intro a F
    refine tk 1 F HS (by kernel_rfl) rfl rfl rfl .no (y_ld1 (key := 1002) rfl rfl Try.isAgg33 rfl) ?_; (try clear F a); intro a F
    refine tk 2 F HS (by kernel_rfl) rfl rfl rfl .no (y_mv rfl) ?_; (try clear F a); intro a F
    refine tk 3 F HS (by kernel_rfl) rfl rfl rfl .no (y_fa Try.underlying35 rfl Try.sizeOf33 rfl) ?_; (try clear F a); intro a F
    refine tk 4 F HS (by kernel_rfl) rfl rfl rfl .no (y_ld1 (key := 1002) rfl rfl Try.isAgg33 rfl) ?_; (try clear F a); intro a F
    refine one' 5 (by kernel_rfl) rfl ?_
    refine st F H rfl rfl rfl (y_mv rfl) ?_; (try clear F a); intro a F
    have HS := (H.rms [])
    refine wpList_nil ⟨⟨fun _ _ => HS, fun h => absurd h (by decide)⟩, ?_⟩
    refine one' 6 (by kernel_rfl) rfl ?_
    refine st F H rfl rfl rfl (y_ix Try.underlying33 Try.sizeOf131 rfl rfl rfl k rfl hlt) ?_; (try clear F a); intro a F
    have HS := (H.rms [])
    refine wpList_nil ⟨⟨fun _ _ => HS, fun h => absurd h (by decide)⟩, ?_⟩
    refine one' 7 (by kernel_rfl) rfl ?_
    refine st F H rfl rfl rfl (y_fa Try.underlying131 rfl Try.sizeOf129 rfl) ?_; (try clear F a); intro a F
    have HS := (H.rms [])
    refine wpList_nil ⟨⟨fun _ _ => HS, fun h => absurd h (by decide)⟩, ?_⟩
    refine one' 8 (by kernel_rfl) rfl ?_
    refine st F H rfl rfl rfl (y_ld1a rfl Try.isAgg129 (fun w H => (hr.sl (E := []) Par.wid (fun g hg => H.cell (k := 1017) rfl hg) (by simp)).at hx 3 _ rfl)) ?_; (try clear F a); intro a F
    have HS := (H.rms [])
    refine wpList_nil ⟨⟨fun _ _ => HS, fun h => absurd h (by decide)⟩, ?_⟩
    refine one' 9 (by kernel_rfl) rfl ?_
    refine s_callN 1034 F H rfl rfl (.cons rfl .nil) Try.call107 (clone107_c bc.wid bc.one ((hs.b p1 hpm).old H.b0.nil) (by omega)) ?_
    rintro _ og1034 row1034 a w ⟨cap2, rfl, hb, hbn⟩ hO F H
    have HS := (H.rms [1034])
    refine wpList_nil ⟨⟨fun _ _ => HS, fun h => absurd h (by decide)⟩, ?_⟩
    refine one' 10 (by kernel_rfl) rfl ?_
    refine st F H rfl rfl rfl (y_ix Try.underlying33 Try.sizeOf131 rfl rfl rfl k rfl hlt) ?_; (try clear F a); intro a F
    have HS := (H.rms [1034])
    refine wpList_nil ⟨⟨fun h => absurd h (by decide), fun h => absurd h (by decide)⟩, ?_⟩
    refine one' 11 (by kernel_rfl) rfl ?_
    refine st F H rfl rfl rfl (y_fa Try.underlying131 rfl Try.sizeOf129 rfl) ?_; (try clear F a); intro a F
    have HS := (H.rms [1034])
    refine wpList_nil ⟨⟨fun h => absurd h (by decide), fun h => absurd h (by decide)⟩, ?_⟩
    refine one' 12 (by kernel_rfl) rfl ?_
    refine s_st (key := 1017) (vs := [.slice (adr og1034) p1.c.b.length cap2]) F H rfl rfl rfl rfl Try.sizeOf129 rfl (by rw [Nat.ble_eq]; show 0 + k * 4 + 3 + 1 ≤ row1.length; rw [hr.r.len]; have := hr.r.nc; omega) rfl ?_; (try clear F H a); try clear w
    intro a w F H
    have HS := (H.rms [1034])
    refine wpList_nil ⟨⟨fun h => absurd h (by decide), fun h => absurd h (by decide)⟩, ?_⟩
    refine dn (by kernel_rfl) ?_ _
    refine ib_n ?_
    refine th_n ?_
    refine rg1 ?_
    refine st F H rfl rfl rfl (y_add rfl rfl) ?_; (try clear F a); intro a F
    refine st F H rfl rfl rfl (y_mv rfl) ?_; (try clear F a); intro a F
    refine wpList_nil ?_
    refine th_n ?_
    rw [wk (by omega)] at F
    have hO : Old (blks [⟨1017, (some gr), 131, row1⟩, ⟨1004, some g1004, 35, [.int .u64 0, .slice none 0 0]⟩, ⟨1002, some g1002, 35, [.int .u64 sent, .slice (adr (some gr)) ps.length cap1]⟩, ⟨9, some g9, 131, [.int .u64 0, .int .i64 0, .int .i64 0, .slice none 0 0]⟩, ⟨7, some g7, 131, [.int .u64 0, .int .i64 0, .int .i64 0, .slice none 0 0]⟩, ⟨6, some g6, 35, [.int .u64 0, .slice none 0 0]⟩, ⟨5, some g5, 4, [.bool stays]⟩, ⟨4, some g4, 28, [.int .u64 p0.c.n]⟩, ⟨3, some g3, 35, [.int .u64 sent, .slice ad ps.length cap]⟩]) wl w := (H.bo ⟨blks [⟨1017, (some gr), 131, row1⟩, ⟨1004, some g1004, 35, [.int .u64 0, .slice none 0 0]⟩, ⟨1002, some g1002, 35, [.int .u64 sent, .slice (adr (some gr)) ps.length cap1]⟩, ⟨9, some g9, 131, [.int .u64 0, .int .i64 0, .int .i64 0, .slice none 0 0]⟩, ⟨7, some g7, 131, [.int .u64 0, .int .i64 0, .int .i64 0, .slice none 0 0]⟩, ⟨6, some g6, 35, [.int .u64 0, .slice none 0 0]⟩, ⟨5, some g5, 4, [.bool stays]⟩, ⟨4, some g4, 28, [.int .u64 p0.c.n]⟩, ⟨3, some g3, 35, [.int .u64 sent, .slice ad ps.length cap]⟩], wl⟩ (by simp)).1
    refine ⟨(k + 1, ps1.set k ⟨p1.c, adr og1034, cap2⟩, _), ⟨⟨hlt, ?_, hr.put Par.wid (off := 3) (v := .slice (adr og1034) p1.c.b.length cap2) ⟨p1.c, adr og1034, cap2⟩ hx (by cases p1; rfl) (by decide), ?_⟩, F.cut ⟨rfl, rfl, rfl, rfl, rfl, rfl, trivial⟩, (H.rms [1034]).initB⟩, by simp only; omega⟩
    · rw [List.map_set, hc1]
      have e2 : (ps.map Par.c)[k]? = some p1.c := by rw [List.getElem?_map, hxo]; rfl
      obtain ⟨h1, h2⟩ := List.getElem?_eq_some_iff.1 e2
      simp only
      rw [← h2]; exact List.set_getElem_self _
    · intro j p hp
      simp only at hp ⊢
      rw [List.getElem?_set] at hp
      split at hp
      · rename_i hkj
        subst hkj
        rw [if_pos (by omega)] at hp
        cases hp
        refine ⟨fun _ => hb.sl bc.wid (fun g hg => H.cell (k := 1034) rfl hg) (fun g hg hm => ?_), fun h => by omega⟩
        rcases List.mem_append.1 hm with hm | hm
        · obtain ⟨c, hc, hcg⟩ := mem_blks.1 hm
          exact H.ne (c := ⟨1034, og1034, 5, row1034⟩) hg hc hcg
        · exact fresh_rangeN (H.fresh (k := 1034) rfl hg) hm
      · rename_i hkj
        refine ⟨fun hj => ?_, fun hj => (hbf j p hp).2 (by omega)⟩
        exact ((hbf j p hp).1 (by omega)).old (hO.more (fun x hx => List.mem_append_left _ hx))
  · have hlt : ¬ ((k : Int) < ps.length) := by simpa using h6_1
    obtain rfl : k = ps.length := by omega
    have hbl : ∀ j (p : Par), ps1[j]? = some p → Sl (blks [⟨1017, og1017, 131, row1⟩, ⟨1004, some g1004, 35, [.int .u64 0, .slice none 0 0]⟩, ⟨1002, some g1002, 35, [.int .u64 sent, .slice (adr og1017) ps.length cap1]⟩, ⟨9, some g9, 131, [.int .u64 0, .int .i64 0, .int .i64 0, .slice none 0 0]⟩, ⟨7, some g7, 131, [.int .u64 0, .int .i64 0, .int .i64 0, .slice none 0 0]⟩, ⟨6, some g6, 35, [.int .u64 0, .slice none 0 0]⟩, ⟨5, some g5, 4, [.bool stays]⟩, ⟨4, some g4, 28, [.int .u64 p0.c.n]⟩, ⟨3, some g3, 35, [.int .u64 sent, .slice ad ps.length cap]⟩] ++ List.range w0.heap.size) wl 1 bc p.ad p.c.b.length p.cap p.c.b := fun j p hp => (hbf j p hp).1 (by have := (List.getElem?_eq_some_iff.1 hp).1; omega)
    have hbOf : ∀ {w'}, Old (blks [⟨1017, og1017, 131, row1⟩, ⟨1004, some g1004, 35, [.int .u64 0, .slice none 0 0]⟩, ⟨1002, some g1002, 35, [.int .u64 sent, .slice (adr og1017) ps.length cap1]⟩, ⟨9, some g9, 131, [.int .u64 0, .int .i64 0, .int .i64 0, .slice none 0 0]⟩, ⟨7, some g7, 131, [.int .u64 0, .int .i64 0, .int .i64 0, .slice none 0 0]⟩, ⟨6, some g6, 35, [.int .u64 0, .slice none 0 0]⟩, ⟨5, some g5, 4, [.bool stays]⟩, ⟨4, some g4, 28, [.int .u64 p0.c.n]⟩, ⟨3, some g3, 35, [.int .u64 sent, .slice ad ps.length cap]⟩]) wl w' → ∀ p ∈ ps1, Sl (List.range w0.heap.size) w' 1 bc p.ad p.c.b.length p.cap p.c.b := by
      intro w' ho p hp
      obtain ⟨j, hj⟩ := List.mem_iff_getElem?.1 hp
      exact ((hbl j p hj).old (ho.more (fun x hx => List.mem_append_left _ hx))).less (fun x hx => List.mem_append_right _ hx)
    obtain ⟨pJ, hpJ, hpc⟩ : ∃ pJ, ps1[J]? = some pJ ∧ pJ.c = p0.c := by
      have e := congrArg (fun l => l[J]?) hc1
      simp only [List.getElem?_map, hp0, Option.map_some] at e
      obtain ⟨q, hq, he⟩ := Option.map_eq_some_iff.1 e
      exact ⟨q, hq, he⟩
    have hpb : pJ.c.b.length ≤ 30000 := by rw [hpc]; exact (hok.each p0.c (List.mem_map.2 ⟨_, List.mem_of_getElem? hp0, rfl⟩)).2.2.2.2
    obtain ⟨gr, rfl⟩ := hr.isSome (by omega)
    refine wp_exit (th_x (th_x (ib_x ?_)))
    refine th_n ?_
    refine wp_seq ?_
    refine rg ?_
    refine st F H rfl rfl rfl (y_mv rfl) ?_; (try clear F a); intro a F
    refine s_in F rfl (.cons rfl .nil) Try.call105 rfl ?_
    refine enter (m := 39) Try.func105 rfl rfl rfl ?_; intro a F
    refine rg ?_
    refine st F H rfl rfl rfl (y_as rfl) ?_; (try clear F a); intro a F
    refine wpList_nil ?_
    refine rg ?_
    refine st F H rfl rfl rfl (y_mv rfl) ?_; (try clear F a); intro a F
    refine st F H rfl rfl rfl (y_ld1 (key := 4) rfl rfl Try.isAgg28 rfl) ?_; (try clear F a); intro a F
    refine s_in F rfl (.cons rfl (.cons rfl .nil)) Try.call106 rfl ?_
    refine enter (m := 14) Try.func106 rfl rfl rfl ?_; intro a F
    refine rg ?_
    refine st F H rfl rfl rfl (y_as rfl) ?_; (try clear F a); intro a F
    refine st F H rfl rfl rfl (y_as rfl) ?_; (try clear F a); intro a F
    refine wpList_nil ?_
    refine rg ?_
    refine st F H rfl rfl rfl (y_mv rfl) ?_; (try clear F a); intro a F
    refine st F H rfl rfl rfl (y_nil rfl) ?_; (try clear F a); intro a F
    refine st F H rfl rfl rfl (y_fa Try.underlying35 rfl Try.sizeOf33 rfl) ?_; (try clear F a); intro a F
    refine st F H rfl rfl rfl (y_ld1 (key := 1002) rfl rfl Try.isAgg33 rfl) ?_; (try clear F a); intro a F
    refine st F H rfl rfl rfl (y_mv rfl) ?_; (try clear F a); intro a F
    refine s_callV F H rfl rfl (.cons rfl (.cons rfl (.cons rfl .nil))) Try.call179 (bs_c (by have h := hr.sl (E := []) Par.wid (fun g hg => H.cell (k := 1017) rfl hg) (by simp); rw [hl1] at h; exact h) (by rw [hc1]; exact hok.ord) J pJ hpJ (by omega) p0.c.n (by rw [hpc])) ?_; (try clear F H a); try clear w
    intro a w F H
    refine st F H rfl rfl rfl (y_ext rfl rfl) ?_; (try clear F a); intro a F
    refine st F H rfl rfl rfl (y_ext rfl rfl) ?_; (try clear F a); intro a F
    refine st F H rfl rfl rfl (y_as rfl) ?_; (try clear F a); intro a F
    refine st F H rfl rfl rfl (y_as rfl) ?_; (try clear F a); intro a F
    refine wpList_nil ?_
    refine wp_ret (ret2 F H rfl (rv rfl) (rv rfl) ⟨_, rfl, fun a F => ?_⟩)
    refine st F H rfl rfl rfl (y_mv rfl) ?_; (try clear F a); intro a F
    refine st F H rfl rfl rfl (y_ext rfl rfl) ?_; (try clear F a); intro a F
    refine st F H rfl rfl rfl (y_ext rfl rfl) ?_; (try clear F a); intro a F
    refine st F H rfl rfl rfl (y_as rfl) ?_; (try clear F a); intro a F
    refine st F H rfl rfl rfl (y_as rfl) ?_; (try clear F a); intro a F
    refine wpList_nil ?_
    refine wp_seq ?_
    refine rg ?_
    refine st F H rfl rfl rfl (y_mv rfl) ?_; (try clear F a); intro a F
    refine st F H rfl rfl rfl (y_not rfl) ?_; (try clear F a); intro a F
    refine wpList_nil ?_
    refine cn F rfl (fun h2_2 => ?_) (fun h2_2 => ?_)
    · cases h2_2
    · refine wp_skip ?_
      refine th_n ?_
      refine rg ?_
      refine st F H rfl rfl rfl (y_mv rfl) ?_; (try clear F a); intro a F
      refine st F H rfl rfl rfl (y_nil rfl) ?_; (try clear F a); intro a F
      refine st F H rfl rfl rfl (y_fa Try.underlying35 rfl Try.sizeOf33 rfl) ?_; (try clear F a); intro a F
      refine st F H rfl rfl rfl (y_ld1 (key := 1002) rfl rfl Try.isAgg33 rfl) ?_; (try clear F a); intro a F
      refine st F H rfl rfl rfl (y_mv rfl) ?_; (try clear F a); intro a F
      refine st F H rfl rfl rfl (y_ix Try.underlying33 Try.sizeOf131 rfl rfl rfl J rfl hJ) ?_; (try clear F a); intro a F
      refine st F H rfl rfl rfl (y_lda (vs := pJ.cs) rfl Try.isAgg131 Try.sizeOf131 (fun w H => (hr.sl (E := []) Par.wid (fun g hg => H.cell (k := 1017) rfl hg) (by simp)).at hpJ) rfl) ?_; (try clear F a); intro a F
      refine s_st (key := 9) F H rfl rfl rfl rfl Try.sizeOf131 rfl rfl rfl ?_; (try clear F H a); try clear w
      intro a w F H
      refine wpList_nil ?_
      refine wp_seq ?_
      refine rg ?_
      refine st F H rfl rfl rfl (y_ld1 (key := 5) rfl rfl Try.isAgg4 rfl) ?_; (try clear F a); intro a F
      refine wpList_nil ?_
      refine cn F rfl (fun h5_2 => ?_) (fun h5_2 => ?_)
      · have hst : stays = true := h5_2
        refine rg1 ?_
        refine st F H rfl rfl rfl (y_fa Try.underlying131 rfl Try.sizeOf129 rfl) ?_; (try clear F a); intro a F
        refine st F H rfl rfl rfl (y_ld1 (key := 9) rfl rfl Try.isAgg129 rfl) ?_; (try clear F a); intro a F
        refine s_callN 2026 F H rfl rfl (.cons rfl .nil) Try.call107 (clone107_c bc.wid bc.one ((hbl J pJ hpJ).old ((H.bo _ (List.mem_cons_of_mem _ (List.mem_cons_self ..))).1.more (fun x hx => List.mem_append_left _ hx))) (by omega)) ?_
        rintro _ og2026 row2026 a w ⟨cap3, rfl, hb3, hbn3⟩ hO F H
        refine st F H rfl rfl rfl (y_fa Try.underlying131 rfl Try.sizeOf129 rfl) ?_; (try clear F a); intro a F
        refine s_st (key := 9) F H rfl rfl rfl rfl Try.sizeOf129 rfl rfl rfl ?_; (try clear F H a); try clear w
        intro a w F H
        refine wpList_nil ?_
        refine th_n ?_
        refine rg ?_
        refine st F H rfl rfl rfl (y_as rfl) ?_; (try clear F a); intro a F
        refine wpList_nil ?_
        refine wp_ret (ret1 F H rfl (rv rfl) ⟨_, rfl, fun a F => ?_⟩)
        refine st F H rfl rfl rfl (y_as rfl) ?_; (try clear F a); intro a F
        refine wpList_nil ?_
        refine rg ?_
        refine st F H rfl rfl rfl (y_mv rfl) ?_; (try clear F a); intro a F
        refine st F H rfl rfl rfl (y_ne rfl rfl) ?_; (try clear F a); intro a F
        refine wpList_nil ?_
        refine cnF F rfl ?_
        refine wp_skip ?_
        refine th_n ?_
        refine rg ?_
        refine st F H rfl rfl rfl (y_ld (key := 1002) rfl rfl Try.isAgg35 Try.sizeOf35 rfl) ?_; (try clear F a); intro a F
        refine s_st (key := 1004) F H rfl rfl rfl rfl Try.sizeOf35 rfl rfl rfl ?_; (try clear F H a); try clear w
        intro a w F H
        refine st F H rfl rfl rfl (y_as rfl) ?_; (try clear F a); intro a F
        refine wpList_nil ?_
        refine wp_ret (ret2 F H rfl (rva (key := 1004) rfl rfl Try.isAgg35 Try.sizeOf35 rfl) (rv rfl) ⟨_, rfl, fun a F => ?_⟩)
        refine st F H rfl rfl rfl (y_mv rfl) ?_; (try clear F a); intro a F
        refine st F H rfl rfl rfl (y_ext rfl rfl) ?_; (try clear F a); intro a F
        refine st F H rfl rfl rfl (y_ext rfl rfl) ?_; (try clear F a); intro a F
        refine s_alloc 10 F H rfl Try.zeroValue35 rfl ?_; intro g10; (try clear F H a); try clear w
        intro a w F H
        refine s_st (key := 10) F H rfl rfl rfl rfl Try.sizeOf35 rfl rfl rfl ?_; (try clear F H a); try clear w
        intro a w F H
        refine st F H rfl rfl rfl (y_as rfl) ?_; (try clear F a); intro a F
        refine wpList_nil ?_
        refine rgdH [0, 1, 2] [0, 1, 2, 3, 4] [] [6, 7] H mixed ?_
        have H := H.old (Old.drew _)
        have HS := (H.rms [])
        have HT := (H.rms [6, 7])
        refine tk 0 F HS (by kernel_rfl) rfl rfl rfl .no (y_ld (key := 10) rfl rfl Try.isAgg35 Try.sizeOf35 rfl) ?_; (try clear F a); intro a F
        refine tk2 1 F HT (by kernel_rfl) rfl rfl rfl .no (y_ld (key := 9) rfl rfl Try.isAgg131 Try.sizeOf131 rfl) ?_; (try clear F a); intro a F
        refine tk2 2 F HT (by kernel_rfl) rfl rfl rfl .no (y_mv rfl) ?_; (try clear F a); intro a F
        refine one' 3 (by kernel_rfl) rfl ?_
        refine s_st (key := 6) F H rfl rfl rfl rfl Try.sizeOf35 rfl rfl rfl ?_; (try clear F H a); try clear w
        intro a w F H
        have HS := (H.rms [])
        have HT := (H.rms [6, 7])
        refine wpList_nil ⟨⟨fun h => absurd h (by decide), fun _ _ => HT⟩, ?_⟩
        refine one' 4 (by kernel_rfl) rfl ?_
        refine s_st (key := 7) F H rfl rfl rfl rfl Try.sizeOf131 rfl rfl rfl ?_; (try clear F H a); try clear w
        intro a w F H
        have HS := (H.rms [])
        have HT := (H.rms [6, 7])
        refine wpList_nil ⟨⟨fun h => absurd h (by decide), fun _ _ => HT⟩, ?_⟩
        refine one' 5 (by kernel_rfl) rfl ?_
        refine st F H rfl rfl rfl (y_as rfl) ?_; (try clear F a); intro a F
        have HS := (H.rms [])
        have HT := (H.rms [6, 7])
        refine wpList_nil ⟨⟨fun h => absurd h (by decide), fun h => absurd h (by decide)⟩, ?_⟩
        refine dn (by kernel_rfl) ?_ _
        refine wp_ret (ret3 F H rfl (rva (key := 6) rfl rfl Try.isAgg35 Try.sizeOf35 rfl) (rva (key := 7) rfl rfl Try.isAgg131 Try.sizeOf131 rfl) (rv rfl) ⟨_, rfl, H.b0, ?_⟩)
        have hOf := (H.bo _ (List.mem_cons_of_mem _ (List.mem_cons_self ..))).1
        refine ⟨adr (some gr), cap1, ps1, ⟨pJ.c, adr og2026, cap3⟩, ?_, ⟨hr.sl Par.wid (fun g hg => H.cell (k := 1017) rfl hg) (fun g hg => fresh_rangeN (H.fresh (k := 1017) rfl hg)), hbOf hOf⟩, hpc, hb3.sl bc.wid (fun g hg => H.cell (k := 2026) rfl hg) (fun g hg => fresh_rangeN (H.fresh (k := 2026) rfl hg)), ?_⟩
        · rw [hl1]; rfl
        · rw [if_pos hst, hc1]
      · have hst : stays = false := h5_2
        refine rg1 ?_
        refine st F H rfl rfl rfl (y_mv rfl) ?_; (try clear F a); intro a F
        refine st F H rfl rfl rfl (y_mv rfl) ?_; (try clear F a); intro a F
        refine st F H rfl rfl rfl (y_nil rfl) ?_; (try clear F a); intro a F
        refine st F H rfl rfl rfl (y_fa Try.underlying35 rfl Try.sizeOf33 rfl) ?_; (try clear F a); intro a F
        refine st F H rfl rfl rfl (y_ld1 (key := 1002) rfl rfl Try.isAgg33 rfl) ?_; (try clear F a); intro a F
        refine st F H rfl rfl rfl (y_mv rfl) ?_; (try clear F a); intro a F
        refine st F H rfl rfl rfl (y_mv rfl) ?_; (try clear F a); intro a F
        refine st F H rfl rfl rfl (y_add rfl rfl) ?_; (try clear F a); intro a F
        rw [wk (by omega), ← hl1] at F
        refine s_callM 1017 F H rfl rfl (.cons rfl (.cons rfl (.cons rfl .nil))) Try.call108 rfl (fun hg => delete108_c (i := J) (j := J + 1) Par.wid Par.one hr (by omega) (by omega) hg) ?_
        rintro _ row' a w ⟨rfl, hd⟩ hO F H
        refine st F H rfl rfl rfl (y_nil rfl) ?_; (try clear F a); intro a F
        refine st F H rfl rfl rfl (y_fa Try.underlying35 rfl Try.sizeOf33 rfl) ?_; (try clear F a); intro a F
        refine s_st (key := 1002) F H rfl rfl rfl rfl Try.sizeOf33 rfl rfl rfl ?_; (try clear F H a); try clear w
        intro a w F H
        refine wpList_nil ?_
        refine th_n ?_
        refine rg ?_
        refine st F H rfl rfl rfl (y_as rfl) ?_; (try clear F a); intro a F
        refine wpList_nil ?_
        refine wp_ret (ret1 F H rfl (rv rfl) ⟨_, rfl, fun a F => ?_⟩)
        refine st F H rfl rfl rfl (y_as rfl) ?_; (try clear F a); intro a F
        refine wpList_nil ?_
        refine rg ?_
        refine st F H rfl rfl rfl (y_mv rfl) ?_; (try clear F a); intro a F
        refine st F H rfl rfl rfl (y_ne rfl rfl) ?_; (try clear F a); intro a F
        refine wpList_nil ?_
        refine cnF F rfl ?_
        refine wp_skip ?_
        refine th_n ?_
        refine rg ?_
        refine st F H rfl rfl rfl (y_ld (key := 1002) rfl rfl Try.isAgg35 Try.sizeOf35 rfl) ?_; (try clear F a); intro a F
        refine s_st (key := 1004) F H rfl rfl rfl rfl Try.sizeOf35 rfl rfl rfl ?_; (try clear F H a); try clear w
        intro a w F H
        refine st F H rfl rfl rfl (y_as rfl) ?_; (try clear F a); intro a F
        refine wpList_nil ?_
        refine wp_ret (ret2 F H rfl (rva (key := 1004) rfl rfl Try.isAgg35 Try.sizeOf35 rfl) (rv rfl) ⟨_, rfl, fun a F => ?_⟩)
        refine st F H rfl rfl rfl (y_mv rfl) ?_; (try clear F a); intro a F
        refine st F H rfl rfl rfl (y_ext rfl rfl) ?_; (try clear F a); intro a F
        refine st F H rfl rfl rfl (y_ext rfl rfl) ?_; (try clear F a); intro a F
        refine s_alloc 10 F H rfl Try.zeroValue35 rfl ?_; intro g10; (try clear F H a); try clear w
        intro a w F H
        refine s_st (key := 10) F H rfl rfl rfl rfl Try.sizeOf35 rfl rfl rfl ?_; (try clear F H a); try clear w
        intro a w F H
        refine st F H rfl rfl rfl (y_as rfl) ?_; (try clear F a); intro a F
        refine wpList_nil ?_
        refine rgdH [0, 1, 2] [0, 1, 2, 3, 4] [] [6, 7] H mixed ?_
        have H := H.old (Old.drew _)
        have HS := (H.rms [])
        have HT := (H.rms [6, 7])
        refine tk 0 F HS (by kernel_rfl) rfl rfl rfl .no (y_ld (key := 10) rfl rfl Try.isAgg35 Try.sizeOf35 rfl) ?_; (try clear F a); intro a F
        refine tk2 1 F HT (by kernel_rfl) rfl rfl rfl .no (y_ld (key := 9) rfl rfl Try.isAgg131 Try.sizeOf131 rfl) ?_; (try clear F a); intro a F
        refine tk2 2 F HT (by kernel_rfl) rfl rfl rfl .no (y_mv rfl) ?_; (try clear F a); intro a F
        refine one' 3 (by kernel_rfl) rfl ?_
        refine s_st (key := 6) F H rfl rfl rfl rfl Try.sizeOf35 rfl rfl rfl ?_; (try clear F H a); try clear w
        intro a w F H
        have HS := (H.rms [])
        have HT := (H.rms [6, 7])
        refine wpList_nil ⟨⟨fun h => absurd h (by decide), fun _ _ => HT⟩, ?_⟩
        refine one' 4 (by kernel_rfl) rfl ?_
        refine s_st (key := 7) F H rfl rfl rfl rfl Try.sizeOf131 rfl rfl rfl ?_; (try clear F H a); try clear w
        intro a w F H
        have HS := (H.rms [])
        have HT := (H.rms [6, 7])
        refine wpList_nil ⟨⟨fun h => absurd h (by decide), fun _ _ => HT⟩, ?_⟩
        refine one' 5 (by kernel_rfl) rfl ?_
        refine st F H rfl rfl rfl (y_as rfl) ?_; (try clear F a); intro a F
        have HS := (H.rms [])
        have HT := (H.rms [6, 7])
        refine wpList_nil ⟨⟨fun h => absurd h (by decide), fun h => absurd h (by decide)⟩, ?_⟩
        refine dn (by kernel_rfl) ?_ _
        refine wp_ret (ret3 F H rfl (rva (key := 6) rfl rfl Try.isAgg35 Try.sizeOf35 rfl) (rva (key := 7) rfl rfl Try.isAgg131 Try.sizeOf131 rfl) (rv rfl) ⟨_, rfl, H.b0, ?_⟩)
        have hOf := (H.bo _ (List.mem_cons_of_mem _ (List.mem_cons_self ..))).1
        refine ⟨adr (some gr), cap1, ps1.take J ++ ps1.drop (J + 1), pJ, rfl, ⟨hd.sl Par.wid (fun g hg => H.cell (k := 1017) rfl hg) (fun g hg => fresh_rangeN (H.fresh (k := 1017) rfl hg)), fun p hp => hbOf hOf p ?_⟩, hpc, hbOf hOf pJ (List.mem_of_getElem? hpJ), ?_⟩
        · rcases List.mem_append.1 hp with h | h
          · exact List.mem_of_mem_take h
          · exact List.mem_of_mem_drop h
        · rw [if_neg (by rw [hst]; decide), List.map_append, List.map_take, List.map_drop, hc1]
theorem nsendFull_c {E E2 : List Nat} {w0 : World} {ad bad : Option Addr} {cap bcap : Nat} {ps : List Par} {sent : Int} (fr to : Int) (b : List Int) (hs : NetS E w0 ad cap ps) (hok : NetOk sent (ps.map Par.c)) (hb0 : Sl E2 w0 1 bc bad b.length bcap b)
    (hft : (1 ≤ fr ∧ fr ≤ 7) ∧ (1 ≤ to ∧ to ≤ 7) ∧ fr ≠ to) (hbl0 : b.length ≤ 30000) (hse : sent < 4611686018427387904) (hf : 60 ≤ ps.length) :
    CallsTo Try.prog 100 [NetV sent ad ps.length cap, .int .i64 fr, .int .i64 to, .slice bad b.length bcap] w0 [] fun v _ => v = .tuple #[NetV 0 none 0 0, .int .u64 0, .int .i64 6] :=
  (nsend_c fr to b hs hok hb0 hft hbl0 hse).mono fun v w' _ h => by rw [if_pos hf] at h; exact h
theorem nsendOk_c {E E2 : List Nat} {w0 : World} {ad bad : Option Addr} {cap bcap : Nat} {ps : List Par} {sent : Int} (fr to : Int) (b : List Int) (hs : NetS E w0 ad cap ps) (hok : NetOk sent (ps.map Par.c)) (hb0 : Sl E2 w0 1 bc bad b.length bcap b)
    (hft : (1 ≤ fr ∧ fr ≤ 7) ∧ (1 ≤ to ∧ to ≤ 7) ∧ fr ≠ to) (hbl0 : b.length ≤ 30000) (hse : sent < 4611686018427387904) (hf : ¬ 60 ≤ ps.length) :
    CallsTo Try.prog 100 [NetV sent ad ps.length cap, .int .i64 fr, .int .i64 to, .slice bad b.length bcap] w0 [] fun v w' => ∃ ad' cap' ps', v = .tuple #[NetV (sent + 1) ad' (List.length ps') cap', .int .u64 (sent + 1), .int .i64 0] ∧ NetS (List.range w0.heap.size) w' ad' cap' ps' ∧ ps'.map Par.c = ps.map Par.c ++ [⟨sent + 1, fr, to, b⟩] :=
  (nsend_c fr to b hs hok hb0 hft hbl0 hse).mono fun v w' _ h => by rw [if_neg hf] at h; exact h
end Go.Proofs.Ytilakloilkkfmaa