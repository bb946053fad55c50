/-
  headracetop: a packet goes, where there is room.
-/
import Derived.Test.YtilakloilkkfmaaTopA
namespace Go.Proofs.Ytilakloilkkfmaa
open Go Go.Sx
set_option maxRecDepth 10000
-- @uses Rec LinkA Clones LinkB LinkC Send NetA NetB NetC TopA
def goesN (S : WS) (p : Pck) (fr to : Int) : WS := { S with cs := S.cs ++ [⟨S.sent + 1, fr, to, idxB S.went.length⟩], sent := S.sent + 1, went := S.went ++ [p] }
theorem goesOk_c (g : Nat) (S : WS) (M : WMem) (w0 : World) (p : Pck) (fr to : Int) (hH : Hp (M.cells g S) [] w0) (hM : M.Ok S (blks (M.cells g S)) w0) (hok : NetOk S.sent S.cs) (hse : S.sent < 4611686018427387904)
    (hft : (1 ≤ fr ∧ fr ≤ 7) ∧ (1 ≤ to ∧ to ≤ 7) ∧ fr ≠ to) (hf : ¬ 60 ≤ S.cs.length) (hw : S.went.length ≤ 65535) :
    CallsTo Try.prog 37 [.pointer (some ⟨g, 0, none⟩), .agg p.cs.toArray, .int .i64 fr, .int .i64 to] w0 (blks (M.cells g S)) fun v w' => v = .bool true ∧ RetW g (M.cells g S) w0 (goesN S p fr to) w' := by
  have hl : M.ps.length = S.cs.length := by rw [← hM.pc]; simp
  have hl6 := hok.len
  refine enter (m := 62) Try.func37 rfl rfl rfl ?_; intro a F
  have H : Hp (M.cells g S) [⟨blks (M.cells g S), w0⟩] w0 := hH.atW
  refine rg ?_
  refine s_box 5 F H rfl rfl rfl ?_; intro g5; (try clear F H a); try clear w
  intro a w F H
  refine st F H rfl rfl rfl (y_as rfl) ?_; (try clear F a); intro a F
  refine wpList_nil ?_
  refine wp_seq_k fun K1 hK1 => ?_
  have C1 : ∀ (g9 : Nat) (ad' : Option Addr) (cap' : Nat) (ps' : List Par) a w, Fr 62 [] [(0, .pointer (some ⟨g, 0, none⟩)), (5, .pointer (some ⟨g5, 0, none⟩)), (9, .pointer (some ⟨g9, 0, none⟩)), (11, .int .i64 0)] a → Hp (⟨9, some g9, 35, [.int .u64 (S.sent + 1), .slice ad' ps'.length cap']⟩ :: ⟨5, some g5, 114, p.cs⟩ :: M.cells g S) [⟨blks (M.cells g S), w0⟩] w → (NetS (blks (⟨9, some g9, 35, [.int .u64 (S.sent + 1), .slice ad' ps'.length cap']⟩ :: ⟨5, some g5, 114, p.cs⟩ :: M.cells g S)) w ad' cap' ps' ∧ ps'.map Par.c = M.ps.map Par.c ++ [⟨S.sent + 1, fr, to, idxB S.went.length⟩]) → K1 a w := ?_
  · refine rgd1H [0, 1, 2, 3, 4, 5, 6, 7, 8, 9, 10, 11, 12, 13, 14, 15, 16, 17, 18, 19, 20, 21, 22, 23, 24, 25] [0, 1, 2, 3, 4, 5, 6, 7, 8, 9, 10, 11, 12, 13, 14, 15, 16, 17, 18, 19, 20, 21, 22, 23, 24, 25, 26, 27] [] [9] H mixed ?_
    have H := H.old (Old.drew _)
    have HS := (H.rms [])
    have HT := (H.rms [9])
    refine tk 0 F HS (by kernel_rfl) rfl rfl rfl .no (y_mv rfl) ?_; (try clear F a); intro a F
    refine tk 1 F HS (by kernel_rfl) rfl rfl rfl .no (y_nil rfl) ?_; (try clear F a); intro a F
    refine tk 2 F HS (by kernel_rfl) rfl rfl rfl .no (y_fa Try.underlying38 rfl Try.sizeOf35 rfl) ?_; (try clear F a); intro a F
    refine tk 3 F HS (by kernel_rfl) rfl rfl rfl .no (y_ld (key := 9001) rfl rfl Try.isAgg35 Try.sizeOf35 rfl) ?_; (try clear F a); intro a F
    refine tk 4 F HS (by kernel_rfl) rfl rfl rfl .no (y_mv rfl) ?_; (try clear F a); intro a F
    refine tk 5 F HS (by kernel_rfl) rfl rfl rfl .no (y_mv rfl) ?_; (try clear F a); intro a F
    refine tk 6 F HS (by kernel_rfl) rfl rfl rfl .no (y_mv rfl) ?_; (try clear F a); intro a F
    refine tk 7 F HS (by kernel_rfl) rfl rfl rfl .no (y_nil rfl) ?_; (try clear F a); intro a F
    refine tk 8 F HS (by kernel_rfl) rfl rfl rfl .no (y_fa Try.underlying38 rfl Try.sizeOf36 rfl) ?_; (try clear F a); intro a F
    refine tk 9 F HS (by kernel_rfl) rfl rfl rfl .no (y_ld1 (key := 9001) rfl rfl Try.isAgg36 rfl) ?_; (try clear F a); intro a F
    refine tk 10 F HS (by kernel_rfl) rfl rfl rfl .no (y_len Try.underlying36 rfl) ?_; (try clear F a); intro a F
    refine tk 11 F HS (by kernel_rfl) rfl rfl rfl .no (y_shr 8 rfl rfl rfl) ?_; (try clear F a); intro a F
    refine tk 12 F HS (by kernel_rfl) rfl rfl rfl .no (y_cvi Try.underlying3 Try.underlying5 rfl) ?_; (try clear F a); intro a F
    refine tk 13 F HS (by kernel_rfl) rfl rfl rfl .no (y_mv rfl) ?_; (try clear F a); intro a F
    refine tk 14 F HS (by kernel_rfl) rfl rfl rfl .no (y_nil rfl) ?_; (try clear F a); intro a F
    refine tk 15 F HS (by kernel_rfl) rfl rfl rfl .no (y_fa Try.underlying38 rfl Try.sizeOf36 rfl) ?_; (try clear F a); intro a F
    refine tk 16 F HS (by kernel_rfl) rfl rfl rfl .no (y_ld1 (key := 9001) rfl rfl Try.isAgg36 rfl) ?_; (try clear F a); intro a F
    refine tk 17 F HS (by kernel_rfl) rfl rfl rfl .no (y_len Try.underlying36 rfl) ?_; (try clear F a); intro a F
    refine tk 18 F HS (by kernel_rfl) rfl rfl rfl .no (y_cvi Try.underlying3 Try.underlying5 rfl) ?_; (try clear F a); intro a F
    refine two 19 25 (by kernel_rfl) ?_ ?_
    · refine br1 rfl ?_
      refine s_bs 98 (pl := [(0, 1), (1, 1)]) F H rfl Try.underlying129 Try.sizeOf5 Try.zeroValue5 rfl (cs0 := [.int .u8 0, .int .u8 0]) (by apply Array.ext'; simp [List.range_succ, Value.cells]) (.cons rfl (.cons rfl .nil)) (by intro p hp; simp only [List.mem_cons, List.mem_nil_iff, or_false] at hp; rcases hp with rfl | rfl <;> rfl) rfl ?_
      clear F H a; try clear w
      intro g98 a w F H
      have HS := (H.rms [98])
      have HT := (H.rms [98, 9])
      refine wpList_nil ⟨⟨fun _ _ => HS, fun _ _ => HT⟩, ?_⟩
      refine two 20 25 (by kernel_rfl) ?_ ?_
      · refine br1 rfl ?_
        have hcl := H.blkR
        refine s_call F H rfl rfl (.cons rfl (.cons rfl (.cons rfl (.cons rfl .nil)))) Try.call100 (nsendOk_c fr to (idxB S.went.length) ((hM.carry H (List.mem_cons_self ..)).nn) (by rw [hM.pc]; exact hok) (Sl.ofRow (E := []) (xs := idxB S.went.length) bc.wid (by simp) (H.cell (k := 98) rfl rfl) (by simp [idxB]) (by decide) rfl) hft (by simp [idxB]) hse (by omega)) ?_
        rintro _ a w ⟨ad20, cap20, ps20, rfl, hn20, hc20⟩ hO F H
        have hn20 := hn20.less hcl
        have H := H.atW
        have HS := (H.rms [98]).initB
        have HT := (H.rms [98, 9]).initB
        refine wpList_nil ⟨⟨fun _ _ => HS, fun _ _ => HT⟩, ?_⟩
        refine tk 21 F HS (by kernel_rfl) rfl rfl rfl .no (y_mv rfl) ?_; (try clear F a); intro a F
        refine tk 22 F HS (by kernel_rfl) rfl rfl rfl .no (y_ext rfl rfl) ?_; (try clear F a); intro a F
        refine tk2 23 F HT (by kernel_rfl) rfl rfl rfl .no (y_ext rfl rfl) ?_; (try clear F a); intro a F
        refine tk2 24 F HT (by kernel_rfl) rfl rfl rfl .no (y_ext rfl rfl) ?_; (try clear F a); intro a F
        refine one' 25 (by kernel_rfl) rfl ?_
        refine s_alloc 9 F H rfl Try.zeroValue35 rfl ?_; intro g9; (try clear F H a); try clear w
        intro a w F H
        have HS := (H.rms [98, 9]).initB
        have HT := (H.rms [98, 9, 9]).initB
        refine wpList_nil ⟨⟨fun _ _ => HS, fun _ _ => HT⟩, ?_⟩
        refine one' 26 (by kernel_rfl) rfl ?_
        refine s_st (key := 9) F H rfl rfl rfl rfl Try.sizeOf35 rfl rfl rfl ?_; (try clear F H a); try clear w
        intro a w F H
        have HS := (H.rms [98, 9]).initB
        have HT := (H.rms [98, 9, 9]).initB
        refine wpList_nil ⟨⟨fun h => absurd h (by decide), fun _ _ => HT⟩, ?_⟩
        refine one' 27 (by kernel_rfl) rfl ?_
        refine st F H rfl rfl rfl (y_as rfl) ?_; (try clear F a); intro a F
        have HS := (H.rms [98, 9]).initB
        have HT := (H.rms [98, 9, 9]).initB
        refine wpList_nil ⟨⟨fun h => absurd h (by decide), fun _ _ => HT⟩, ?_⟩
        refine one' 28 (by kernel_rfl) rfl ?_
        refine st F H rfl rfl rfl (y_as rfl) ?_; (try clear F a); intro a F
        have HS := (H.rms [98, 9]).initB
        have HT := (H.rms [98, 9, 9]).initB
        refine wpList_nil ⟨⟨fun h => absurd h (by decide), fun h => absurd h (by decide)⟩, ?_⟩
        refine dn (by kernel_rfl) ?_ _
        refine th_n ?_
        exact C1 g9 _ _ _ _ _ (F.cut ⟨rfl, rfl, rfl, rfl, trivial⟩) ((H.sel [9, 5, 9001, 9002, 9003] (by decide)).initB) ⟨NetS.carry hn20 (H.sel [9, 5, 9001, 9002, 9003] (by decide)) (List.mem_cons_of_mem _ (List.mem_cons_self ..)), hc20⟩
      · refine br1 rfl ?_
        refine s_alloc 9 F H rfl Try.zeroValue35 rfl ?_; intro g9; (try clear F H a); try clear w
        intro a w F H
        have HS := (H.rms [98, 9])
        have HT := (H.rms [98, 9, 9])
        refine wpList_nil ⟨⟨fun _ _ => HS, fun _ _ => HT⟩, ?_⟩
        refine one' 20 (by kernel_rfl) rfl ?_
        have hcl := H.blkR
        refine s_call F H rfl rfl (.cons rfl (.cons rfl (.cons rfl (.cons rfl .nil)))) Try.call100 (nsendOk_c fr to (idxB S.went.length) ((hM.carry H (List.mem_cons_self ..)).nn) (by rw [hM.pc]; exact hok) (Sl.ofRow (E := []) (xs := idxB S.went.length) bc.wid (by simp) (H.cell (k := 98) rfl rfl) (by simp [idxB]) (by decide) rfl) hft (by simp [idxB]) hse (by omega)) ?_
        rintro _ a w ⟨ad20, cap20, ps20, rfl, hn20, hc20⟩ hO F H
        have hn20 := hn20.less hcl
        have H := H.atW
        have HS := (H.rms [98, 9]).initB
        have HT := (H.rms [98, 9, 9]).initB
        refine wpList_nil ⟨⟨fun _ _ => HS, fun _ _ => HT⟩, ?_⟩
        refine one' 21 (by kernel_rfl) rfl ?_
        refine st F H rfl rfl rfl (y_mv rfl) ?_; (try clear F a); intro a F
        have HS := (H.rms [98, 9]).initB
        have HT := (H.rms [98, 9, 9]).initB
        refine wpList_nil ⟨⟨fun _ _ => HS, fun _ _ => HT⟩, ?_⟩
        refine tk 22 F HS (by kernel_rfl) rfl rfl rfl .no (y_ext rfl rfl) ?_; (try clear F a); intro a F
        refine tk2 23 F HT (by kernel_rfl) rfl rfl rfl .no (y_ext rfl rfl) ?_; (try clear F a); intro a F
        refine tk2 24 F HT (by kernel_rfl) rfl rfl rfl .no (y_ext rfl rfl) ?_; (try clear F a); intro a F
        refine one' 26 (by kernel_rfl) rfl ?_
        refine s_st (key := 9) F H rfl rfl rfl rfl Try.sizeOf35 rfl rfl rfl ?_; (try clear F H a); try clear w
        intro a w F H
        have HS := (H.rms [98, 9]).initB
        have HT := (H.rms [98, 9, 9]).initB
        refine wpList_nil ⟨⟨fun h => absurd h (by decide), fun _ _ => HT⟩, ?_⟩
        refine one' 27 (by kernel_rfl) rfl ?_
        refine st F H rfl rfl rfl (y_as rfl) ?_; (try clear F a); intro a F
        have HS := (H.rms [98, 9]).initB
        have HT := (H.rms [98, 9, 9]).initB
        refine wpList_nil ⟨⟨fun h => absurd h (by decide), fun _ _ => HT⟩, ?_⟩
        refine one' 28 (by kernel_rfl) rfl ?_
        refine st F H rfl rfl rfl (y_as rfl) ?_; (try clear F a); intro a F
        have HS := (H.rms [98, 9]).initB
        have HT := (H.rms [98, 9, 9]).initB
        refine wpList_nil ⟨⟨fun h => absurd h (by decide), fun h => absurd h (by decide)⟩, ?_⟩
        refine dn (by kernel_rfl) ?_ _
        refine th_n ?_
        exact C1 g9 _ _ _ _ _ (F.cut ⟨rfl, rfl, rfl, rfl, trivial⟩) ((H.sel [9, 5, 9001, 9002, 9003] (by decide)).initB) ⟨NetS.carry hn20 (H.sel [9, 5, 9001, 9002, 9003] (by decide)) (List.mem_cons_of_mem _ (List.mem_cons_self ..)), hc20⟩
    · refine br1 rfl ?_
      refine s_alloc 9 F H rfl Try.zeroValue35 rfl ?_; intro g9; (try clear F H a); try clear w
      intro a w F H
      have HS := (H.rms [9])
      have HT := (H.rms [9, 9])
      refine wpList_nil ⟨⟨fun _ _ => HS, fun _ _ => HT⟩, ?_⟩
      refine one' 19 (by kernel_rfl) rfl ?_
      refine s_bs 98 (pl := [(0, 1), (1, 1)]) F H rfl Try.underlying129 Try.sizeOf5 Try.zeroValue5 rfl (cs0 := [.int .u8 0, .int .u8 0]) (by apply Array.ext'; simp [List.range_succ, Value.cells]) (.cons rfl (.cons rfl .nil)) (by intro p hp; simp only [List.mem_cons, List.mem_nil_iff, or_false] at hp; rcases hp with rfl | rfl <;> rfl) rfl ?_
      clear F H a; try clear w
      intro g98 a w F H
      have HS := (H.rms [9, 98])
      have HT := (H.rms [9, 98, 9])
      refine wpList_nil ⟨⟨fun _ _ => HS, fun _ _ => HT⟩, ?_⟩
      refine one' 20 (by kernel_rfl) rfl ?_
      have hcl := H.blkR
      refine s_call F H rfl rfl (.cons rfl (.cons rfl (.cons rfl (.cons rfl .nil)))) Try.call100 (nsendOk_c fr to (idxB S.went.length) ((hM.carry H (List.mem_cons_self ..)).nn) (by rw [hM.pc]; exact hok) (Sl.ofRow (E := []) (xs := idxB S.went.length) bc.wid (by simp) (H.cell (k := 98) rfl rfl) (by simp [idxB]) (by decide) rfl) hft (by simp [idxB]) hse (by omega)) ?_
      rintro _ a w ⟨ad20, cap20, ps20, rfl, hn20, hc20⟩ hO F H
      have hn20 := hn20.less hcl
      have H := H.atW
      have HS := (H.rms [9, 98]).initB
      have HT := (H.rms [9, 98, 9]).initB
      refine wpList_nil ⟨⟨fun _ _ => HS, fun _ _ => HT⟩, ?_⟩
      refine one' 21 (by kernel_rfl) rfl ?_
      refine st F H rfl rfl rfl (y_mv rfl) ?_; (try clear F a); intro a F
      have HS := (H.rms [9, 98]).initB
      have HT := (H.rms [9, 98, 9]).initB
      refine wpList_nil ⟨⟨fun _ _ => HS, fun _ _ => HT⟩, ?_⟩
      refine tk 22 F HS (by kernel_rfl) rfl rfl rfl .no (y_ext rfl rfl) ?_; (try clear F a); intro a F
      refine tk2 23 F HT (by kernel_rfl) rfl rfl rfl .no (y_ext rfl rfl) ?_; (try clear F a); intro a F
      refine tk2 24 F HT (by kernel_rfl) rfl rfl rfl .no (y_ext rfl rfl) ?_; (try clear F a); intro a F
      refine one' 26 (by kernel_rfl) rfl ?_
      refine s_st (key := 9) F H rfl rfl rfl rfl Try.sizeOf35 rfl rfl rfl ?_; (try clear F H a); try clear w
      intro a w F H
      have HS := (H.rms [9, 98]).initB
      have HT := (H.rms [9, 98, 9]).initB
      refine wpList_nil ⟨⟨fun h => absurd h (by decide), fun _ _ => HT⟩, ?_⟩
      refine one' 27 (by kernel_rfl) rfl ?_
      refine st F H rfl rfl rfl (y_as rfl) ?_; (try clear F a); intro a F
      have HS := (H.rms [9, 98]).initB
      have HT := (H.rms [9, 98, 9]).initB
      refine wpList_nil ⟨⟨fun h => absurd h (by decide), fun _ _ => HT⟩, ?_⟩
      refine one' 28 (by kernel_rfl) rfl ?_
      refine st F H rfl rfl rfl (y_as rfl) ?_; (try clear F a); intro a F
      have HS := (H.rms [9, 98]).initB
      have HT := (H.rms [9, 98, 9]).initB
      refine wpList_nil ⟨⟨fun h => absurd h (by decide), fun h => absurd h (by decide)⟩, ?_⟩
      refine dn (by kernel_rfl) ?_ _
      refine th_n ?_
      exact C1 g9 _ _ _ _ _ (F.cut ⟨rfl, rfl, rfl, rfl, trivial⟩) ((H.sel [9, 5, 9001, 9002, 9003] (by decide)).initB) ⟨NetS.carry hn20 (H.sel [9, 5, 9001, 9002, 9003] (by decide)) (List.mem_cons_of_mem _ (List.mem_cons_self ..)), hc20⟩
  rintro g9 ad' cap' ps' a w F H ⟨hn, hc⟩
  refine hK1 a w ?_
  refine wp_seq ?_
  refine rg ?_
  have H := H.atW
  refine st F H rfl rfl rfl (y_mv rfl) ?_; (try clear F a); intro a F
  refine st F H rfl rfl rfl (y_eq rfl rfl) ?_; (try clear F a); intro a F
  refine wpList_nil ?_
  refine cnF F rfl ?_
  refine wp_skip ?_
  refine th_n ?_
  refine rgdH [0, 1, 2, 3, 4, 5, 6, 7, 8, 9] [0, 1, 2, 3, 4, 5, 6, 7, 8, 9, 10, 11, 12] [9002] [9002, 9001] H mixed ?_
  have H := H.old (Old.drew _)
  have HS := (H.rms [9002])
  have HT := (H.rms [9002, 9001])
  refine tk 0 F HS (by kernel_rfl) rfl rfl rfl .no (y_mv rfl) ?_; (try clear F a); intro a F
  refine tk 2 F HS (by kernel_rfl) rfl rfl rfl .no (y_ld (key := 9) rfl rfl Try.isAgg35 Try.sizeOf35 rfl) ?_; (try clear F a); intro a F
  refine tk2 1 F HT (by kernel_rfl) rfl rfl rfl .no (y_mv rfl) ?_; (try clear F a); intro a F
  refine tk2 3 F HT (by kernel_rfl) rfl rfl rfl .no (y_mv rfl) ?_; (try clear F a); intro a F
  refine tk2 4 F HT (by kernel_rfl) rfl rfl rfl .no (y_nil rfl) ?_; (try clear F a); intro a F
  refine tk2 5 F HT (by kernel_rfl) rfl rfl rfl .no (y_fa Try.underlying38 rfl Try.sizeOf36 rfl) ?_; (try clear F a); intro a F
  refine tk 6 F HS (by kernel_rfl) rfl rfl rfl .no (y_ld1 (key := 9001) rfl rfl Try.isAgg36 rfl) ?_; (try clear F a); intro a F
  refine one' 7 (by kernel_rfl) rfl ?_
  refine st F H rfl rfl rfl (y_ld (key := 5) rfl rfl Try.isAgg114 Try.sizeOf114 rfl) ?_; (try clear F a); intro a F
  have HS := (H.rms [9002])
  have HT := (H.rms [9002, 9001])
  refine wpList_nil ⟨⟨fun _ _ => HS, fun _ _ => HT⟩, ?_⟩
  refine one' 8 (by kernel_rfl) rfl ?_
  refine s_bs1 99 F H rfl Try.underlying36 Try.sizeOf114 Try.zeroValue114 rfl rfl rfl rfl rfl rfl ?_
  clear F H a
  intro g99 a w F H
  have HS := (H.rms [99, 9002])
  have HT := (H.rms [99, 9002, 9001])
  refine wpList_nil ⟨⟨fun _ _ => HS, fun _ _ => HT⟩, ?_⟩
  refine one' 9 (by kernel_rfl) rfl ?_
  refine s_append 9002 F H rfl Try.underlying36 ti114 rfl rfl rfl rfl rfl hM.rw.r (At.slc (H.cell (k := 99) rfl rfl) (m := 9) rfl) rfl (fun u hu => one1_mem (Pck.one p) u hu) (by omega) (by omega) ?_
  clear F H a
  intro og' capw' row' a w hr' ht' hn' hO F H
  have HS := (H.rms [99, 9002])
  have HT := (H.rms [99, 9002, 9001])
  refine wpList_nil ⟨⟨fun _ _ => HS, fun _ _ => HT⟩, ?_⟩
  refine one' 10 (by kernel_rfl) rfl ?_
  refine st F H rfl rfl rfl (y_nil rfl) ?_; (try clear F a); intro a F
  have HS := (H.rms [99, 9002])
  have HT := (H.rms [99, 9002, 9001])
  refine wpList_nil ⟨⟨fun h => absurd h (by decide), fun _ _ => HT⟩, ?_⟩
  refine one' 11 (by kernel_rfl) rfl ?_
  refine st F H rfl rfl rfl (y_fa Try.underlying38 rfl Try.sizeOf35 rfl) ?_; (try clear F a); intro a F
  have HS := (H.rms [99, 9002])
  have HT := (H.rms [99, 9002, 9001])
  refine wpList_nil ⟨⟨fun h => absurd h (by decide), fun _ _ => HT⟩, ?_⟩
  refine one' 12 (by kernel_rfl) rfl ?_
  refine s_st (key := 9001) F H rfl rfl rfl rfl Try.sizeOf35 rfl rfl rfl ?_; (try clear F H a); try clear w
  intro a w F H
  have HS := (H.rms [99, 9002])
  have HT := (H.rms [99, 9002, 9001])
  refine wpList_nil ⟨⟨fun h => absurd h (by decide), fun _ _ => HT⟩, ?_⟩
  refine one' 13 (by kernel_rfl) rfl ?_
  refine st F H rfl rfl rfl (y_nil rfl) ?_; (try clear F a); intro a F
  have HS := (H.rms [99, 9002])
  have HT := (H.rms [99, 9002, 9001])
  refine wpList_nil ⟨⟨fun h => absurd h (by decide), fun h => absurd h (by decide)⟩, ?_⟩
  refine one' 14 (by kernel_rfl) rfl ?_
  refine st F H rfl rfl rfl (y_fa Try.underlying38 rfl Try.sizeOf36 rfl) ?_; (try clear F a); intro a F
  have HS := (H.rms [99, 9002])
  have HT := (H.rms [99, 9002, 9001])
  refine wpList_nil ⟨⟨fun h => absurd h (by decide), fun h => absurd h (by decide)⟩, ?_⟩
  refine one' 15 (by kernel_rfl) rfl ?_
  refine s_st (key := 9001) F H rfl rfl rfl rfl Try.sizeOf36 rfl rfl rfl ?_; (try clear F H a); try clear w
  intro a w F H
  have HS := (H.rms [99, 9002])
  have HT := (H.rms [99, 9002, 9001])
  refine wpList_nil ⟨⟨fun h => absurd h (by decide), fun h => absurd h (by decide)⟩, ?_⟩
  refine dn (by kernel_rfl) ?_ _
  refine rg ?_
  refine st F H rfl rfl rfl (y_mv rfl) ?_; (try clear F a); intro a F
  refine st F H rfl rfl rfl (y_eq rfl rfl) ?_; (try clear F a); intro a F
  refine st F H rfl rfl rfl (y_as rfl) ?_; (try clear F a); intro a F
  refine wpList_nil ?_
  refine wp_ret (ret1 F H rfl (rv rfl) ⟨_, rfl, H.b0, ?_⟩)
  have hR : RowOf og' 9 Pck.cs (S.went ++ [p]) capw' row' := hM.rw.push hr' ht'
  have H3 := H.sel [9001, 9002, 9003] (by decide)
  have e : (S.went ++ [p]).length = S.went.length + 1 := by simp
  have H4 := H3.to (c' := WMem.cells g (goesN S p fr to) { M with ogw := og', capw := capw', roww := row', na := ad', nc := cap', ps := ps' }) (by
    unfold WMem.cells goesN
    simp only [e]
    rfl)
  have hc2 := hM.carry H4 (List.mem_cons_self ..)
  have hn2 := hn.carry H4 (List.mem_cons_of_mem _ (List.mem_cons_self ..))
  exact ⟨rfl, _, H4.initB, ⟨hR, hM.rt, hc2.ss, hc2.rr, hn2, by rw [hc, hM.pc]; rfl⟩⟩
end Go.Proofs.Ytilakloilkkfmaa
