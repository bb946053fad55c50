/-
  headracetop: the steps of the wires.
-/
import Derived.Test.YtilakloilkkfmaaTopC
namespace Go.Proofs.Ytilakloilkkfmaa
open Go Go.Sx
set_option maxRecDepth 10000
-- @uses Rec LinkA Clones LinkB LinkC Send NetA NetB NetC TopA TopB TopC
theorem goes_c (g : Nat) (S : WS) (M : WMem) (w0 : World) (p : Pck) (fr to : Int) (hH : Hp (M.cells g S) [] w0) (hM : M.Ok S (blks (M.cells g S)) w0) (hok : NetOk S.sent S.cs) (hse : S.sent < 4611686018427387904)
    (hft : (1 ≤ fr ∧ fr ≤ 7) ∧ (1 ≤ to ∧ to ≤ 7) ∧ fr ≠ to) (hw : S.went.length ≤ 65535) :
    CallsTo Try.prog 37 [.pointer (some ⟨g, 0, none⟩), .agg p.cs.toArray, .int .i64 fr, .int .i64 to] w0 (blks (M.cells g S)) fun v w' => v = .bool true ∧ RetW g (M.cells g S) w0 (goesS S p fr to) w' := by
  by_cases hf : 60 ≤ S.cs.length
  · rw [show goesS S p fr to = S from if_pos hf]; exact goesFull_c g S M w0 p fr to hH hM hok hse hft hf
  · rw [show goesS S p fr to = goesN S p fr to from if_neg hf]; exact goesOk_c g S M w0 p fr to hH hM hok hse hft hf hw
abbrev wireV (d k : Int) : Value := .agg #[.int .u8 d, .int .u8 k]
/-! 0: an element is put -/
def putStep (all : List El) (S : WS) : WS × Bool :=
  if S.put = all.length then (S, true) else if (putS S.s (all.getD S.put default)).2 = 6 then (S, (S.s.q.length : Int) == 8)
  else ({ S with s := (putS S.s (all.getD S.put default)).1, put := S.put + 1 }, (putS S.s (all.getD S.put default)).2 == 0)
theorem stepPut_c (g : Nat) (S : WS) (M : WMem) (w0 : World) (d k : Int) (hd : d.tmod 7 = 0) {aad : Option Addr} {acap : Nat} {all : List El} (hH : Hp (M.cells g S) [] w0) (hM : M.Ok S (blks (M.cells g S)) w0) (hall : SlE (blks (M.cells g S)) w0 aad all.length acap all)
    (hp : S.put ≤ all.length) :
    CallsTo Try.prog 11 [.pointer (some ⟨g, 0, none⟩), wireV d k, .slice aad all.length acap] w0 (blks (M.cells g S)) fun v w' => v = .bool (putStep all S).2 ∧ RetW g (M.cells g S) w0 (putStep all S).1 w' := by
  have hcm := hall.cm
  have hnc := hall.nc
  simp only [maxLen] at hcm
  obtain ⟨x, hxe⟩ : ∃ x, x = all.getD S.put default := ⟨_, rfl⟩
  refine enter (m := 189) Try.func11 rfl rfl rfl ?_; intro a F
  have H : Hp (M.cells g S) [⟨blks (M.cells g S), w0⟩] w0 := hH.atW
  refine rg ?_
  refine s_box 4 F H rfl rfl rfl ?_; intro g4; (try clear F H a); try clear w
  intro a w F H
  refine st F H rfl rfl rfl (y_as rfl) ?_; (try clear F a); intro a F
  refine wpList_nil ?_
  refine wp_seq ?_
  refine rg ?_
  refine st F H rfl rfl rfl (y_fa Try.underlying49 rfl Try.sizeOf5 rfl) ?_; (try clear F a); intro a F
  refine st F H rfl rfl rfl (y_ld1 (key := 4) rfl rfl Try.isAgg5 rfl) ?_; (try clear F a); intro a F
  refine st F H rfl rfl rfl (y_rem rfl rfl (by decide)) ?_; (try clear F a); intro a F
  refine wpList_nil ?_
  refine wp_block ?_
  refine rg ?_
  rw [hd] at F
  refine st F H rfl rfl rfl (y_eq rfl rfl) ?_; (try clear F a); intro a F
  refine st F H rfl rfl rfl (y_as rfl) ?_; (try clear F a); intro a F
  refine wpList_nil ?_
  refine cnT F rfl ?_
  refine wp_seq ?_
  refine rg ?_
  refine st F H rfl rfl rfl (y_mv rfl) ?_; (try clear F a); intro a F
  refine st F H rfl rfl rfl (y_nil rfl) ?_; (try clear F a); intro a F
  refine st F H rfl rfl rfl (y_fa Try.underlying38 rfl Try.sizeOf3 rfl) ?_; (try clear F a); intro a F
  refine st F H rfl rfl rfl (y_ld1 (key := 9001) rfl rfl Try.isAgg3 rfl) ?_; (try clear F a); intro a F
  refine st F H rfl rfl rfl (y_mv rfl) ?_; (try clear F a); intro a F
  refine st F H rfl rfl rfl (y_len Try.underlying24 rfl) ?_; (try clear F a); intro a F
  refine st F H rfl rfl rfl (y_eq rfl rfl) ?_; (try clear F a); intro a F
  refine wpList_nil ?_
  refine cn F rfl (fun h3 => ?_) (fun h3 => ?_)
  · have he : S.put = all.length := by have h := h3; simp at h; omega
    refine rg ?_
    refine st F H rfl rfl rfl (y_as rfl) ?_; (try clear F a); intro a F
    refine wpList_nil ?_
    refine wp_ret (th_r (ib_r (th_r (ret1 F H rfl (rv rfl) ⟨_, rfl, H.b0, ?_⟩))))
    rw [show putStep all S = (S, true) from if_pos he]
    exact ⟨rfl, M, H.sel [9001, 9002, 9003] (by decide), hM.carry (H.sel [9001, 9002, 9003] (by decide)) (List.mem_cons_self ..)⟩
  · have he : ¬ S.put = all.length := by have h := h3; simp at h; omega
    have hlt : S.put < all.length := by omega
    have hx : all[S.put]? = some x := by rw [hxe]; exact getd hlt
    obtain ⟨ga, oa, haa, hga⟩ := hall.addr (by omega)
    subst haa
    refine wp_skip ?_
    refine th_n ?_
    refine wp_seq_k fun K1 hK1 => ?_
    have C1 : ∀ (g7 : Nat) (ad' : Option Addr) (cap' : Nat) a w, Fr 189 [] [(0, .pointer (some ⟨g, 0, none⟩)), (7, .pointer (some ⟨g7, 0, none⟩)), (8, .int .i64 (putS S.s x).2)] a → Hp (⟨7, some g7, 30, [.int .u32 (putS S.s x).1.a, .int .u64 (putS S.s x).1.b, .slice ad' (putS S.s x).1.q.length cap', .int .u64 (putS S.s x).1.l, .bool (putS S.s x).1.e]⟩ :: M.cells g S) [⟨blks (M.cells g S), w0⟩] w → SlE (blks (⟨7, some g7, 30, [.int .u32 (putS S.s x).1.a, .int .u64 (putS S.s x).1.b, .slice ad' (putS S.s x).1.q.length cap', .int .u64 (putS S.s x).1.l, .bool (putS S.s x).1.e]⟩ :: M.cells g S)) w ad' (putS S.s x).1.q.length cap' (putS S.s x).1.q → K1 a w := ?_
    · refine rgd1H [0, 1, 2, 3, 4, 5, 6, 7, 8, 9, 10, 11, 12, 13, 14, 15] [0, 1, 2, 3, 4, 5, 6, 7, 8, 9, 10, 11, 12, 13, 14, 15, 16] [] [7] H mixed ?_
      have H := H.old (Old.drew _)
      have HS := (H.rms [])
      have HT := (H.rms [7])
      refine tk 0 F HS (by kernel_rfl) rfl rfl rfl .no (y_mv rfl) ?_; (try clear F a); intro a F
      refine tk 1 F HS (by kernel_rfl) rfl rfl rfl .no (y_nil rfl) ?_; (try clear F a); intro a F
      refine tk 2 F HS (by kernel_rfl) rfl rfl rfl .no (y_fa Try.underlying38 rfl Try.sizeOf30 rfl) ?_; (try clear F a); intro a F
      refine tk 3 F HS (by kernel_rfl) rfl rfl rfl .no (y_ld (key := 9001) rfl rfl Try.isAgg30 Try.sizeOf30 rfl) ?_; (try clear F a); intro a F
      refine tk 4 F HS (by kernel_rfl) rfl rfl rfl .no (y_mv rfl) ?_; (try clear F a); intro a F
      refine tk 5 F HS (by kernel_rfl) rfl rfl rfl .no (y_mv rfl) ?_; (try clear F a); intro a F
      refine tk 6 F HS (by kernel_rfl) rfl rfl rfl .no (y_nil rfl) ?_; (try clear F a); intro a F
      refine tk 7 F HS (by kernel_rfl) rfl rfl rfl .no (y_fa Try.underlying38 rfl Try.sizeOf3 rfl) ?_; (try clear F a); intro a F
      refine tk 8 F HS (by kernel_rfl) rfl rfl rfl .no (y_ld1 (key := 9001) rfl rfl Try.isAgg3 rfl) ?_; (try clear F a); intro a F
      refine tk 9 F HS (by kernel_rfl) rfl rfl rfl .no (y_ix Try.underlying24 Try.sizeOf47 rfl rfl rfl S.put rfl hlt) ?_; (try clear F a); intro a F
      refine tk 10 F HS (by kernel_rfl) rfl rfl rfl .no (y_lda (vs := x.cs) rfl Try.isAgg47 Try.sizeOf47 (fun w H => (hall.carry El.wid (by decide) H (List.mem_cons_self ..)).at hx) rfl) ?_; (try clear F a); intro a F
      refine two 11 15 (by kernel_rfl) ?_ ?_
      · refine br1 rfl ?_
        have hcl := H.blkR
        refine s_call F H rfl rfl (.cons rfl (.cons rfl .nil)) Try.call31 (put_c S.s x ((hM.carry H (List.mem_cons_self ..)).ss)) ?_
        rintro _ a w ⟨ad11, cap11, rfl, hs11⟩ hO F H
        have hs11 := hs11.less hcl
        have H := H.atW
        have HS := (H.rms []).initB
        have HT := (H.rms [7]).initB
        refine wpList_nil ⟨⟨fun _ _ => HS, fun _ _ => HT⟩, ?_⟩
        refine tk 12 F HS (by kernel_rfl) rfl rfl rfl .no (y_mv rfl) ?_; (try clear F a); intro a F
        refine tk 13 F HS (by kernel_rfl) rfl rfl rfl .no (y_ext rfl rfl) ?_; (try clear F a); intro a F
        refine tk2 14 F HT (by kernel_rfl) rfl rfl rfl .no (y_ext rfl rfl) ?_; (try clear F a); intro a F
        refine one' 15 (by kernel_rfl) rfl ?_
        refine s_alloc 7 F H rfl Try.zeroValue30 rfl ?_; intro g7; (try clear F H a); try clear w
        intro a w F H
        have HS := (H.rms [7]).initB
        have HT := (H.rms [7, 7]).initB
        refine wpList_nil ⟨⟨fun _ _ => HS, fun _ _ => HT⟩, ?_⟩
        refine one' 16 (by kernel_rfl) rfl ?_
        refine s_st (key := 7) F H rfl rfl rfl rfl Try.sizeOf30 rfl rfl rfl ?_; (try clear F H a); try clear w
        intro a w F H
        have HS := (H.rms [7]).initB
        have HT := (H.rms [7, 7]).initB
        refine wpList_nil ⟨⟨fun h => absurd h (by decide), fun _ _ => HT⟩, ?_⟩
        refine one' 17 (by kernel_rfl) rfl ?_
        refine st F H rfl rfl rfl (y_as rfl) ?_; (try clear F a); intro a F
        have HS := (H.rms [7]).initB
        have HT := (H.rms [7, 7]).initB
        refine wpList_nil ⟨⟨fun h => absurd h (by decide), fun h => absurd h (by decide)⟩, ?_⟩
        refine dn (by kernel_rfl) ?_ _
        refine th_n ?_
        exact C1 g7 _ _ _ _ (F.cut ⟨rfl, rfl, rfl, trivial⟩) ((H.sel [7, 9001, 9002, 9003] (by decide)).initB) (hs11.carry El.wid (by decide) (H.sel [7, 9001, 9002, 9003] (by decide)) (List.mem_cons_of_mem _ (List.mem_cons_self ..)))
      · refine br1 rfl ?_
        refine s_alloc 7 F H rfl Try.zeroValue30 rfl ?_; intro g7; (try clear F H a); try clear w
        intro a w F H
        have HS := (H.rms [7])
        have HT := (H.rms [7, 7])
        refine wpList_nil ⟨⟨fun _ _ => HS, fun _ _ => HT⟩, ?_⟩
        refine one' 11 (by kernel_rfl) rfl ?_
        have hcl := H.blkR
        refine s_call F H rfl rfl (.cons rfl (.cons rfl .nil)) Try.call31 (put_c S.s x ((hM.carry H (List.mem_cons_self ..)).ss)) ?_
        rintro _ a w ⟨ad11, cap11, rfl, hs11⟩ hO F H
        have hs11 := hs11.less hcl
        have H := H.atW
        have HS := (H.rms [7]).initB
        have HT := (H.rms [7, 7]).initB
        refine wpList_nil ⟨⟨fun _ _ => HS, fun _ _ => HT⟩, ?_⟩
        refine one' 12 (by kernel_rfl) rfl ?_
        refine st F H rfl rfl rfl (y_mv rfl) ?_; (try clear F a); intro a F
        have HS := (H.rms [7]).initB
        have HT := (H.rms [7, 7]).initB
        refine wpList_nil ⟨⟨fun _ _ => HS, fun _ _ => HT⟩, ?_⟩
        refine tk 13 F HS (by kernel_rfl) rfl rfl rfl .no (y_ext rfl rfl) ?_; (try clear F a); intro a F
        refine tk2 14 F HT (by kernel_rfl) rfl rfl rfl .no (y_ext rfl rfl) ?_; (try clear F a); intro a F
        refine one' 16 (by kernel_rfl) rfl ?_
        refine s_st (key := 7) F H rfl rfl rfl rfl Try.sizeOf30 rfl rfl rfl ?_; (try clear F H a); try clear w
        intro a w F H
        have HS := (H.rms [7]).initB
        have HT := (H.rms [7, 7]).initB
        refine wpList_nil ⟨⟨fun h => absurd h (by decide), fun _ _ => HT⟩, ?_⟩
        refine one' 17 (by kernel_rfl) rfl ?_
        refine st F H rfl rfl rfl (y_as rfl) ?_; (try clear F a); intro a F
        have HS := (H.rms [7]).initB
        have HT := (H.rms [7, 7]).initB
        refine wpList_nil ⟨⟨fun h => absurd h (by decide), fun h => absurd h (by decide)⟩, ?_⟩
        refine dn (by kernel_rfl) ?_ _
        refine th_n ?_
        exact C1 g7 _ _ _ _ (F.cut ⟨rfl, rfl, rfl, trivial⟩) ((H.sel [7, 9001, 9002, 9003] (by decide)).initB) (hs11.carry El.wid (by decide) (H.sel [7, 9001, 9002, 9003] (by decide)) (List.mem_cons_of_mem _ (List.mem_cons_self ..)))
    rintro g7 ad' cap' a w F H hs'
    refine hK1 a w ?_
    refine wp_seq ?_
    refine rg ?_
    refine st F H rfl rfl rfl (y_mv rfl) ?_; (try clear F a); intro a F
    refine st F H rfl rfl rfl (y_eq rfl rfl) ?_; (try clear F a); intro a F
    refine wpList_nil ?_
    refine cn F rfl (fun h6 => ?_) (fun h6 => ?_)
    · have h6' : (putS S.s x).2 = 6 := by simpa using h6
      rw [show putStep all S = (S, (S.s.q.length : Int) == 8) by unfold putStep; rw [if_neg he, ← hxe, if_pos h6']]
      refine rg ?_
      refine st F H rfl rfl rfl (y_mv rfl) ?_; (try clear F a); intro a F
      refine st F H rfl rfl rfl (y_nil rfl) ?_; (try clear F a); intro a F
      refine st F H rfl rfl rfl (y_fa Try.underlying38 rfl Try.sizeOf30 rfl) ?_; (try clear F a); intro a F
      refine st F H rfl rfl rfl (y_fa Try.underlying30 rfl Try.sizeOf24 rfl) ?_; (try clear F a); intro a F
      refine st F H rfl rfl rfl (y_ld1 (key := 9001) rfl rfl Try.isAgg24 rfl) ?_; (try clear F a); intro a F
      refine st F H rfl rfl rfl (y_len Try.underlying24 rfl) ?_; (try clear F a); intro a F
      refine st F H rfl rfl rfl (y_eq rfl rfl) ?_; (try clear F a); intro a F
      refine st F H rfl rfl rfl (y_as rfl) ?_; (try clear F a); intro a F
      refine wpList_nil ?_
      refine wp_ret (th_r (ib_r (th_r (ret1 F H rfl (rv rfl) ⟨_, rfl, H.b0, ?_⟩))))
      exact ⟨rfl, M, H.sel [9001, 9002, 9003] (by decide), hM.carry (H.sel [9001, 9002, 9003] (by decide)) (List.mem_cons_self ..)⟩
    · have h6' : ¬ (putS S.s x).2 = 6 := by simpa using h6
      rw [show putStep all S = ({ S with s := (putS S.s x).1, put := S.put + 1 }, (putS S.s x).2 == 0) by unfold putStep; rw [if_neg he, ← hxe, if_neg h6']]
      have H := H.atW
      refine wp_skip ?_
      refine th_n ?_
      refine rgdH [0, 1, 2, 3, 4, 5, 6, 7] [0, 1, 2, 3, 4, 5, 6, 7, 8, 9, 10] [] [9001] H mixed ?_
      have H := H.old (Old.drew _)
      have HS := (H.rms [])
      have HT := (H.rms [9001])
      refine tk 0 F HS (by kernel_rfl) rfl rfl rfl .no (y_mv rfl) ?_; (try clear F a); intro a F
      refine tk 2 F HS (by kernel_rfl) rfl rfl rfl .no (y_ld (key := 7) rfl rfl Try.isAgg30 Try.sizeOf30 rfl) ?_; (try clear F a); intro a F
      refine tk2 1 F HT (by kernel_rfl) rfl rfl rfl .no (y_mv rfl) ?_; (try clear F a); intro a F
      refine one' 3 (by kernel_rfl) rfl ?_
      refine st F H rfl rfl rfl (y_mv rfl) ?_; (try clear F a); intro a F
      have HS := (H.rms [])
      have HT := (H.rms [9001])
      refine wpList_nil ⟨⟨fun _ _ => HS, fun _ _ => HT⟩, ?_⟩
      refine one' 4 (by kernel_rfl) rfl ?_
      refine st F H rfl rfl rfl (y_nil rfl) ?_; (try clear F a); intro a F
      have HS := (H.rms [])
      have HT := (H.rms [9001])
      refine wpList_nil ⟨⟨fun _ _ => HS, fun _ _ => HT⟩, ?_⟩
      refine one' 5 (by kernel_rfl) rfl ?_
      refine st F H rfl rfl rfl (y_fa Try.underlying38 rfl Try.sizeOf3 rfl) ?_; (try clear F a); intro a F
      have HS := (H.rms [])
      have HT := (H.rms [9001])
      refine wpList_nil ⟨⟨fun _ _ => HS, fun _ _ => HT⟩, ?_⟩
      refine one' 6 (by kernel_rfl) rfl ?_
      refine st F H rfl rfl rfl (y_ld1 (key := 9001) rfl rfl Try.isAgg3 rfl) ?_; (try clear F a); intro a F
      have HS := (H.rms [])
      have HT := (H.rms [9001])
      refine wpList_nil ⟨⟨fun _ _ => HS, fun _ _ => HT⟩, ?_⟩
      refine tk2 7 F HT (by kernel_rfl) rfl rfl rfl .no (y_add rfl rfl) ?_; (try clear F a); intro a F
      refine one' 8 (by kernel_rfl) rfl ?_
      refine st F H rfl rfl rfl (y_nil rfl) ?_; (try clear F a); intro a F
      have HS := (H.rms [])
      have HT := (H.rms [9001])
      refine wpList_nil ⟨⟨fun h => absurd h (by decide), fun _ _ => HT⟩, ?_⟩
      refine one' 9 (by kernel_rfl) rfl ?_
      refine st F H rfl rfl rfl (y_fa Try.underlying38 rfl Try.sizeOf30 rfl) ?_; (try clear F a); intro a F
      have HS := (H.rms [])
      have HT := (H.rms [9001])
      refine wpList_nil ⟨⟨fun h => absurd h (by decide), fun _ _ => HT⟩, ?_⟩
      refine one' 10 (by kernel_rfl) rfl ?_
      refine s_st (key := 9001) F H rfl rfl rfl rfl Try.sizeOf30 rfl rfl rfl ?_; (try clear F H a); try clear w
      intro a w F H
      have HS := (H.rms [])
      have HT := (H.rms [9001])
      refine wpList_nil ⟨⟨fun h => absurd h (by decide), fun _ _ => HT⟩, ?_⟩
      refine one' 11 (by kernel_rfl) rfl ?_
      refine st F H rfl rfl rfl (y_nil rfl) ?_; (try clear F a); intro a F
      have HS := (H.rms [])
      have HT := (H.rms [9001])
      refine wpList_nil ⟨⟨fun h => absurd h (by decide), fun h => absurd h (by decide)⟩, ?_⟩
      refine one' 12 (by kernel_rfl) rfl ?_
      refine st F H rfl rfl rfl (y_fa Try.underlying38 rfl Try.sizeOf3 rfl) ?_; (try clear F a); intro a F
      have HS := (H.rms [])
      have HT := (H.rms [9001])
      refine wpList_nil ⟨⟨fun h => absurd h (by decide), fun h => absurd h (by decide)⟩, ?_⟩
      refine one' 13 (by kernel_rfl) rfl ?_
      rw [wk (by omega)] at F
      refine s_st (key := 9001) F H rfl rfl rfl rfl Try.sizeOf3 rfl rfl rfl ?_; (try clear F H a); try clear w
      intro a w F H
      have HS := (H.rms [])
      have HT := (H.rms [9001])
      refine wpList_nil ⟨⟨fun h => absurd h (by decide), fun h => absurd h (by decide)⟩, ?_⟩
      refine dn (by kernel_rfl) ?_ _
      refine rg ?_
      refine st F H rfl rfl rfl (y_mv rfl) ?_; (try clear F a); intro a F
      refine st F H rfl rfl rfl (y_eq rfl rfl) ?_; (try clear F a); intro a F
      refine st F H rfl rfl rfl (y_as rfl) ?_; (try clear F a); intro a F
      refine wpList_nil ?_
      refine wp_ret (ib_r (th_r (ret1 F H rfl (rv rfl) ⟨_, rfl, H.b0, ?_⟩)))
      have H3 := H.sel [9001, 9002, 9003] (by decide)
      have H4 := H3.to (c' := WMem.cells g { S with s := (putS S.s x).1, put := S.put + 1 } { M with sa := ad', sc := cap' }) rfl
      have hc2 := hM.carry H4 (List.mem_cons_self ..)
      have hs2 := hs'.carry El.wid (by decide) H4 (List.mem_cons_of_mem _ (List.mem_cons_self ..))
      exact ⟨rfl, _, H4.initB, ⟨hM.rw, hM.rt, hs2, hc2.rr, hc2.nn, hM.pc⟩⟩
/-! 2: an acknowledgement goes -/
theorem stepAck_c (g : Nat) (S : WS) (M : WMem) (w0 : World) (d k : Int) (hd : d.tmod 7 = 2) (aad : Option Addr) (an acap : Nat) (hH : Hp (M.cells g S) [] w0) (hM : M.Ok S (blks (M.cells g S)) w0)
    (hok : NetOk S.sent S.cs) (hse : S.sent < 4611686018427387904) (hw : S.went.length ≤ 65535) (pk : Pck) (he : ackV S.r = (pk, 0)) :
    CallsTo Try.prog 11 [.pointer (some ⟨g, 0, none⟩), wireV d k, .slice aad an acap] w0 (blks (M.cells g S)) fun v w' => v = .bool true ∧ RetW g (M.cells g S) w0 (goesS S pk 5 4) w' := by
  refine enter (m := 189) Try.func11 rfl rfl rfl ?_; intro a F
  have H : Hp (M.cells g S) [⟨blks (M.cells g S), w0⟩] w0 := hH.atW
  refine rg ?_
  refine s_box 4 F H rfl rfl rfl ?_; intro g4; (try clear F H a); try clear w
  intro a w F H
  refine st F H rfl rfl rfl (y_as rfl) ?_; (try clear F a); intro a F
  refine wpList_nil ?_
  refine wp_seq ?_
  refine rg ?_
  refine st F H rfl rfl rfl (y_fa Try.underlying49 rfl Try.sizeOf5 rfl) ?_; (try clear F a); intro a F
  refine st F H rfl rfl rfl (y_ld1 (key := 4) rfl rfl Try.isAgg5 rfl) ?_; (try clear F a); intro a F
  refine st F H rfl rfl rfl (y_rem rfl rfl (by decide)) ?_; (try clear F a); intro a F
  refine wpList_nil ?_
  refine wp_block ?_
  refine rg ?_
  rw [hd] at F
  refine st F H rfl rfl rfl (y_eq rfl rfl) ?_; (try clear F a); intro a F
  refine st F H rfl rfl rfl (y_as rfl) ?_; (try clear F a); intro a F
  refine wpList_nil ?_
  refine cnF F rfl ?_
  refine rg ?_
  refine st F H rfl rfl rfl (y_eq rfl rfl) ?_; (try clear F a); intro a F
  refine st F H rfl rfl rfl (y_as rfl) ?_; (try clear F a); intro a F
  refine wpList_nil ?_
  refine cnF F rfl ?_
  refine rg ?_
  refine st F H rfl rfl rfl (y_eq rfl rfl) ?_; (try clear F a); intro a F
  refine st F H rfl rfl rfl (y_as rfl) ?_; (try clear F a); intro a F
  refine wpList_nil ?_
  refine cnT F rfl ?_
  refine rg ?_
  refine st F H rfl rfl rfl (y_mv rfl) ?_; (try clear F a); intro a F
  refine st F H rfl rfl rfl (y_nil rfl) ?_; (try clear F a); intro a F
  refine st F H rfl rfl rfl (y_fa Try.underlying38 rfl Try.sizeOf32 rfl) ?_; (try clear F a); intro a F
  refine st F H rfl rfl rfl (y_ld (key := 9001) rfl rfl Try.isAgg32 Try.sizeOf32 rfl) ?_; (try clear F a); intro a F
  refine s_callV F H rfl rfl (.cons rfl .nil) Try.call32 (ack_c S.r ((hM.carry H (List.mem_cons_self ..)).rr)) ?_; (try clear F H a); try clear w
  intro a w F H
  rw [he] at F
  refine st F H rfl rfl rfl (y_mv rfl) ?_; (try clear F a); intro a F
  refine st F H rfl rfl rfl (y_ext rfl rfl) ?_; (try clear F a); intro a F
  refine st F H rfl rfl rfl (y_ext rfl rfl) ?_; (try clear F a); intro a F
  refine s_alloc 13 F H rfl Try.zeroValue114 rfl ?_; intro g13; (try clear F H a); try clear w
  intro a w F H
  refine s_st (key := 13) F H rfl rfl rfl rfl Try.sizeOf114 rfl rfl rfl ?_; (try clear F H a); try clear w
  intro a w F H
  refine st F H rfl rfl rfl (y_as rfl) ?_; (try clear F a); intro a F
  refine wpList_nil ?_
  refine rg ?_
  refine st F H rfl rfl rfl (y_mv rfl) ?_; (try clear F a); intro a F
  refine st F H rfl rfl rfl (y_eq rfl rfl) ?_; (try clear F a); intro a F
  refine st F H rfl rfl rfl (y_mv rfl) ?_; (try clear F a); intro a F
  refine gt F rfl rfl rfl rfl rfl ?_
  refine st F H rfl rfl rfl (y_mv rfl) ?_; (try clear F a); intro a F
  refine gt F rfl rfl rfl rfl rfl ?_
  refine st F H rfl rfl rfl (y_ld (key := 13) rfl rfl Try.isAgg114 Try.sizeOf114 rfl) ?_; (try clear F a); intro a F
  refine gt F rfl rfl rfl rfl rfl ?_
  refine s_wires F H rfl rfl (.cons rfl (.cons rfl (.cons rfl (.cons rfl .nil)))) Try.call37 rfl (fun hH3 => goes_c g S M _ pk 5 4 hH3 (hM.carry (H.sel [9001, 9002, 9003] (by decide)) (List.mem_cons_self ..)) hok hse (by decide) hw) ?_
  rintro _ M1 a w rfl hM1 F H
  refine st F H rfl rfl rfl (y_pick rfl rfl rfl) ?_; (try clear F a); intro a F
  refine st F H rfl rfl rfl (y_as rfl) ?_; (try clear F a); intro a F
  refine wpList_nil ?_
  refine wp_ret (ib_r (th_r (ret1 F H rfl (rv rfl) ⟨_, rfl, H.b0, ?_⟩)))
  exact ⟨rfl, M1, H, hM1⟩
/-! 3, 4: a parcel comes -/
def idxOf : List Int → Nat
  | [b0, b1] => (b0 * 256 + b1).toNat
  | _ => 0
def comesS (S : WS) (k : Int) (stays : Bool) : WS := match S.cs[k.toNat % S.cs.length]? with
  | none => S
  | some c => comesN S (k.toNat % S.cs.length) stays c.t (S.went.getD (idxOf c.b) default)
def comesB (S : WS) (k : Int) : Bool := match S.cs[k.toNat % S.cs.length]? with
  | none => true
  | some c => comesE S c.t (S.went.getD (idxOf c.b) default) == 0
/-- what the parcels bear are numbers of packets -/
def CsOk (S : WS) : Prop := ∀ c ∈ S.cs, ∃ b0 b1, c.b = [b0, b1] ∧ (0 ≤ b0 ∧ b0 ≤ 255) ∧ (0 ≤ b1 ∧ b1 ≤ 255) ∧ (b0 * 256 + b1).toNat < S.went.length
theorem comesAll_c (g : Nat) (S : WS) (M : WMem) (w0 : World) (k : Int) (stays : Bool) (hH : Hp (M.cells g S) [] w0) (hM : M.Ok S (blks (M.cells g S)) w0) (hok : NetOk S.sent S.cs) (hcs : CsOk S) :
    CallsTo Try.prog 12 [.pointer (some ⟨g, 0, none⟩), .int .i64 k, .bool stays] w0 (blks (M.cells g S)) fun v w' => v = .bool (comesB S k) ∧ RetW g (M.cells g S) w0 (comesS S k stays) w' := by
  by_cases h0 : S.cs.length = 0
  · have hn : S.cs[k.toNat % S.cs.length]? = none := by rw [List.getElem?_eq_none_iff]; omega
    rw [show comesB S k = true by unfold comesB; rw [hn], show comesS S k stays = S by unfold comesS; rw [hn]]
    exact comesE_c g S M w0 k stays hH hM hok h0
  · have hlt : k.toNat % S.cs.length < S.cs.length := Nat.mod_lt _ (by omega)
    have hc := List.getElem?_eq_getElem hlt
    obtain ⟨b0, b1, hb, h1, h2, h3⟩ := hcs _ (List.mem_of_getElem? hc)
    rw [show comesB S k = (comesE S (S.cs[k.toNat % S.cs.length]).t (S.went.getD (idxOf (S.cs[k.toNat % S.cs.length]).b) default) == 0) by unfold comesB; rw [hc],
      show comesS S k stays = comesN S (k.toNat % S.cs.length) stays (S.cs[k.toNat % S.cs.length]).t (S.went.getD (idxOf (S.cs[k.toNat % S.cs.length]).b) default) by unfold comesS; rw [hc]]
    exact comes_c g S M w0 k stays hH hM hok h0 _ hc b0 b1 hb h1 h2 _ (by rw [hb]; exact getd h3)
theorem stepCome3_c (g : Nat) (S : WS) (M : WMem) (w0 : World) (d k : Int) (hd : d.tmod 7 = 3) (aad : Option Addr) (an acap : Nat) (hH : Hp (M.cells g S) [] w0) (hM : M.Ok S (blks (M.cells g S)) w0)
    (hok : NetOk S.sent S.cs) (hcs : CsOk S) :
    CallsTo Try.prog 11 [.pointer (some ⟨g, 0, none⟩), wireV d k, .slice aad an acap] w0 (blks (M.cells g S)) fun v w' => v = .bool (comesB S (IntKind.i64.wrap (IntKind.u8.wrap (k.tdiv 2)))) ∧ RetW g (M.cells g S) w0 (comesS S (IntKind.i64.wrap (IntKind.u8.wrap (k.tdiv 2))) (k.tmod 2 == 1)) w' := by
  refine enter (m := 189) Try.func11 rfl rfl rfl ?_; intro a F
  have H : Hp (M.cells g S) [⟨blks (M.cells g S), w0⟩] w0 := hH.atW
  refine rg ?_
  refine s_box 4 F H rfl rfl rfl ?_; intro g4; (try clear F H a); try clear w
  intro a w F H
  refine st F H rfl rfl rfl (y_as rfl) ?_; (try clear F a); intro a F
  refine wpList_nil ?_
  refine wp_seq ?_
  refine rg ?_
  refine st F H rfl rfl rfl (y_fa Try.underlying49 rfl Try.sizeOf5 rfl) ?_; (try clear F a); intro a F
  refine st F H rfl rfl rfl (y_ld1 (key := 4) rfl rfl Try.isAgg5 rfl) ?_; (try clear F a); intro a F
  refine st F H rfl rfl rfl (y_rem rfl rfl (by decide)) ?_; (try clear F a); intro a F
  refine wpList_nil ?_
  refine wp_block ?_
  refine rg ?_
  rw [hd] at F
  refine st F H rfl rfl rfl (y_eq rfl rfl) ?_; (try clear F a); intro a F
  refine st F H rfl rfl rfl (y_as rfl) ?_; (try clear F a); intro a F
  refine wpList_nil ?_
  refine cnF F rfl ?_
  refine rg ?_
  refine st F H rfl rfl rfl (y_eq rfl rfl) ?_; (try clear F a); intro a F
  refine st F H rfl rfl rfl (y_as rfl) ?_; (try clear F a); intro a F
  refine wpList_nil ?_
  refine cnF F rfl ?_
  refine rg ?_
  refine st F H rfl rfl rfl (y_eq rfl rfl) ?_; (try clear F a); intro a F
  refine st F H rfl rfl rfl (y_as rfl) ?_; (try clear F a); intro a F
  refine wpList_nil ?_
  refine cnF F rfl ?_
  refine wp_seq ?_
  refine rg ?_
  refine st F H rfl rfl rfl (y_eq rfl rfl) ?_; (try clear F a); intro a F
  refine st F H rfl rfl rfl (y_as rfl) ?_; (try clear F a); intro a F
  refine wpList_nil ?_
  refine cnT F rfl ?_
  refine wp_skip ?_
  refine th_n ?_
  refine cnT F rfl ?_
  refine rg ?_
  refine st F H rfl rfl rfl (y_mv rfl) ?_; (try clear F a); intro a F
  refine st F H rfl rfl rfl (y_fa Try.underlying49 rfl Try.sizeOf5 rfl) ?_; (try clear F a); intro a F
  refine st F H rfl rfl rfl (y_ld1 (key := 4) rfl rfl Try.isAgg5 rfl) ?_; (try clear F a); intro a F
  refine st F H rfl rfl rfl (y_quo rfl rfl (by decide)) ?_; (try clear F a); intro a F
  refine st F H rfl rfl rfl (y_cvi Try.underlying5 Try.underlying3 rfl) ?_; (try clear F a); intro a F
  refine st F H rfl rfl rfl (y_fa Try.underlying49 rfl Try.sizeOf5 rfl) ?_; (try clear F a); intro a F
  refine st F H rfl rfl rfl (y_ld1 (key := 4) rfl rfl Try.isAgg5 rfl) ?_; (try clear F a); intro a F
  refine st F H rfl rfl rfl (y_rem rfl rfl (by decide)) ?_; (try clear F a); intro a F
  refine st F H rfl rfl rfl (y_eq rfl rfl) ?_; (try clear F a); intro a F
  refine s_wires F H rfl rfl (.cons rfl (.cons rfl (.cons rfl .nil))) Try.call12 rfl (fun hH3 => comesAll_c g S M _ _ _ hH3 (hM.carry (H.sel [9001, 9002, 9003] (by decide)) (List.mem_cons_self ..)) hok hcs) ?_
  rintro _ M1 a w rfl hM1 F H
  refine st F H rfl rfl rfl (y_as rfl) ?_; (try clear F a); intro a F
  refine wpList_nil ?_
  refine wp_ret (ib_r (th_r (ret1 F H rfl (rv rfl) ⟨_, rfl, H.b0, ?_⟩)))
  exact ⟨rfl, M1, H, hM1⟩
theorem stepCome4_c (g : Nat) (S : WS) (M : WMem) (w0 : World) (d k : Int) (hd : d.tmod 7 = 4) (aad : Option Addr) (an acap : Nat) (hH : Hp (M.cells g S) [] w0) (hM : M.Ok S (blks (M.cells g S)) w0)
    (hok : NetOk S.sent S.cs) (hcs : CsOk S) :
    CallsTo Try.prog 11 [.pointer (some ⟨g, 0, none⟩), wireV d k, .slice aad an acap] w0 (blks (M.cells g S)) fun v w' => v = .bool (comesB S (IntKind.i64.wrap (IntKind.u8.wrap (k.tdiv 2)))) ∧ RetW g (M.cells g S) w0 (comesS S (IntKind.i64.wrap (IntKind.u8.wrap (k.tdiv 2))) (k.tmod 2 == 1)) w' := by
  refine enter (m := 189) Try.func11 rfl rfl rfl ?_; intro a F
  have H : Hp (M.cells g S) [⟨blks (M.cells g S), w0⟩] w0 := hH.atW
  refine rg ?_
  refine s_box 4 F H rfl rfl rfl ?_; intro g4; (try clear F H a); try clear w
  intro a w F H
  refine st F H rfl rfl rfl (y_as rfl) ?_; (try clear F a); intro a F
  refine wpList_nil ?_
  refine wp_seq ?_
  refine rg ?_
  refine st F H rfl rfl rfl (y_fa Try.underlying49 rfl Try.sizeOf5 rfl) ?_; (try clear F a); intro a F
  refine st F H rfl rfl rfl (y_ld1 (key := 4) rfl rfl Try.isAgg5 rfl) ?_; (try clear F a); intro a F
  refine st F H rfl rfl rfl (y_rem rfl rfl (by decide)) ?_; (try clear F a); intro a F
  refine wpList_nil ?_
  refine wp_block ?_
  refine rg ?_
  rw [hd] at F
  refine st F H rfl rfl rfl (y_eq rfl rfl) ?_; (try clear F a); intro a F
  refine st F H rfl rfl rfl (y_as rfl) ?_; (try clear F a); intro a F
  refine wpList_nil ?_
  refine cnF F rfl ?_
  refine rg ?_
  refine st F H rfl rfl rfl (y_eq rfl rfl) ?_; (try clear F a); intro a F
  refine st F H rfl rfl rfl (y_as rfl) ?_; (try clear F a); intro a F
  refine wpList_nil ?_
  refine cnF F rfl ?_
  refine rg ?_
  refine st F H rfl rfl rfl (y_eq rfl rfl) ?_; (try clear F a); intro a F
  refine st F H rfl rfl rfl (y_as rfl) ?_; (try clear F a); intro a F
  refine wpList_nil ?_
  refine cnF F rfl ?_
  refine wp_seq ?_
  refine rg ?_
  refine st F H rfl rfl rfl (y_eq rfl rfl) ?_; (try clear F a); intro a F
  refine st F H rfl rfl rfl (y_as rfl) ?_; (try clear F a); intro a F
  refine wpList_nil ?_
  refine cnF F rfl ?_
  refine rg1 ?_
  refine st F H rfl rfl rfl (y_eq rfl rfl) ?_; (try clear F a); intro a F
  refine st F H rfl rfl rfl (y_as rfl) ?_; (try clear F a); intro a F
  refine wpList_nil ?_
  refine th_n ?_
  refine cnT F rfl ?_
  refine rg ?_
  refine st F H rfl rfl rfl (y_mv rfl) ?_; (try clear F a); intro a F
  refine st F H rfl rfl rfl (y_fa Try.underlying49 rfl Try.sizeOf5 rfl) ?_; (try clear F a); intro a F
  refine st F H rfl rfl rfl (y_ld1 (key := 4) rfl rfl Try.isAgg5 rfl) ?_; (try clear F a); intro a F
  refine st F H rfl rfl rfl (y_quo rfl rfl (by decide)) ?_; (try clear F a); intro a F
  refine st F H rfl rfl rfl (y_cvi Try.underlying5 Try.underlying3 rfl) ?_; (try clear F a); intro a F
  refine st F H rfl rfl rfl (y_fa Try.underlying49 rfl Try.sizeOf5 rfl) ?_; (try clear F a); intro a F
  refine st F H rfl rfl rfl (y_ld1 (key := 4) rfl rfl Try.isAgg5 rfl) ?_; (try clear F a); intro a F
  refine st F H rfl rfl rfl (y_rem rfl rfl (by decide)) ?_; (try clear F a); intro a F
  refine st F H rfl rfl rfl (y_eq rfl rfl) ?_; (try clear F a); intro a F
  refine s_wires F H rfl rfl (.cons rfl (.cons rfl (.cons rfl .nil))) Try.call12 rfl (fun hH3 => comesAll_c g S M _ _ _ hH3 (hM.carry (H.sel [9001, 9002, 9003] (by decide)) (List.mem_cons_self ..)) hok hcs) ?_
  rintro _ M1 a w rfl hM1 F H
  refine st F H rfl rfl rfl (y_as rfl) ?_; (try clear F a); intro a F
  refine wpList_nil ?_
  refine wp_ret (ib_r (th_r (ret1 F H rfl (rv rfl) ⟨_, rfl, H.b0, ?_⟩)))
  exact ⟨rfl, M1, H, hM1⟩
/-! 5: a parcel is lost -/
def loseS (S : WS) (k : Int) : WS := if S.cs.length = 0 then S else { S with cs := S.cs.take (k.toNat % S.cs.length) ++ S.cs.drop (k.toNat % S.cs.length + 1) }
theorem stepLoseE_c (g : Nat) (S : WS) (M : WMem) (w0 : World) (d k : Int) (hd : d.tmod 7 = 5) (aad : Option Addr) (an acap : Nat) (hH : Hp (M.cells g S) [] w0) (hM : M.Ok S (blks (M.cells g S)) w0)
    (hok : NetOk S.sent S.cs) (h0 : S.cs.length = 0) :
    CallsTo Try.prog 11 [.pointer (some ⟨g, 0, none⟩), wireV d k, .slice aad an acap] w0 (blks (M.cells g S)) fun v w' => v = .bool true ∧ RetW g (M.cells g S) w0 S w' := by
  have hl : M.ps.length = 0 := by rw [← h0, ← hM.pc]; simp
  refine enter (m := 189) Try.func11 rfl rfl rfl ?_; intro a F
  have H : Hp (M.cells g S) [⟨blks (M.cells g S), w0⟩] w0 := hH.atW
  refine rg ?_
  refine s_box 4 F H rfl rfl rfl ?_; intro g4; (try clear F H a); try clear w
  intro a w F H
  refine st F H rfl rfl rfl (y_as rfl) ?_; (try clear F a); intro a F
  refine wpList_nil ?_
  refine wp_seq ?_
  refine rg ?_
  refine st F H rfl rfl rfl (y_fa Try.underlying49 rfl Try.sizeOf5 rfl) ?_; (try clear F a); intro a F
  refine st F H rfl rfl rfl (y_ld1 (key := 4) rfl rfl Try.isAgg5 rfl) ?_; (try clear F a); intro a F
  refine st F H rfl rfl rfl (y_rem rfl rfl (by decide)) ?_; (try clear F a); intro a F
  refine wpList_nil ?_
  refine wp_block ?_
  refine rg ?_
  rw [hd] at F
  refine st F H rfl rfl rfl (y_eq rfl rfl) ?_; (try clear F a); intro a F
  refine st F H rfl rfl rfl (y_as rfl) ?_; (try clear F a); intro a F
  refine wpList_nil ?_
  refine cnF F rfl ?_
  refine rg ?_
  refine st F H rfl rfl rfl (y_eq rfl rfl) ?_; (try clear F a); intro a F
  refine st F H rfl rfl rfl (y_as rfl) ?_; (try clear F a); intro a F
  refine wpList_nil ?_
  refine cnF F rfl ?_
  refine rg ?_
  refine st F H rfl rfl rfl (y_eq rfl rfl) ?_; (try clear F a); intro a F
  refine st F H rfl rfl rfl (y_as rfl) ?_; (try clear F a); intro a F
  refine wpList_nil ?_
  refine cnF F rfl ?_
  refine wp_seq ?_
  refine rg ?_
  refine st F H rfl rfl rfl (y_eq rfl rfl) ?_; (try clear F a); intro a F
  refine st F H rfl rfl rfl (y_as rfl) ?_; (try clear F a); intro a F
  refine wpList_nil ?_
  refine cnF F rfl ?_
  refine rg1 ?_
  refine st F H rfl rfl rfl (y_eq rfl rfl) ?_; (try clear F a); intro a F
  refine st F H rfl rfl rfl (y_as rfl) ?_; (try clear F a); intro a F
  refine wpList_nil ?_
  refine th_n ?_
  refine cnF F rfl ?_
  refine rg ?_
  refine st F H rfl rfl rfl (y_eq rfl rfl) ?_; (try clear F a); intro a F
  refine st F H rfl rfl rfl (y_as rfl) ?_; (try clear F a); intro a F
  refine wpList_nil ?_
  refine cnT F rfl ?_
  refine rgq H mixed (by kernel_rfl) ?_
  refine stq F rfl rfl rfl (y_mv rfl) ?_; (try clear F a); intro a F
  refine stq F rfl rfl rfl (y_nil rfl) ?_; (try clear F a); intro a F
  refine stq F rfl rfl rfl (y_fa Try.underlying38 rfl Try.sizeOf35 rfl) ?_; (try clear F a); intro a F
  refine stq F rfl rfl rfl (y_ld (key := 9001) rfl rfl Try.isAgg35 Try.sizeOf35 rfl) ?_; (try clear F a); intro a F
  refine stq F rfl rfl rfl (y_fa Try.underlying49 rfl Try.sizeOf5 rfl) ?_; (try clear F a); intro a F
  refine stq F rfl rfl rfl (y_ld1 (key := 4) rfl rfl Try.isAgg5 rfl) ?_; (try clear F a); intro a F
  refine stq F rfl rfl rfl (y_cvi Try.underlying5 Try.underlying3 rfl) ?_; (try clear F a); intro a F
  refine callq F rfl rfl (.cons rfl (.cons rfl .nil)) Try.call38 (fun w H => pickE_c _ ((hM.carry H (List.mem_cons_self ..)).nn) (by rw [hM.pc]; exact hok) hl) ?_; (try clear F a); intro a F
  refine stq F rfl rfl rfl (y_mv rfl) ?_; (try clear F a); intro a F
  refine stq F rfl rfl rfl (y_ext rfl rfl) ?_; (try clear F a); intro a F
  refine stq F rfl rfl rfl (y_ext rfl rfl) ?_; (try clear F a); intro a F
  refine stq F rfl rfl rfl (y_as rfl) ?_; (try clear F a); intro a F
  refine stq F rfl rfl rfl (y_as rfl) ?_; (try clear F a); intro a F
  refine nlq (fun w H => ?_)
  refine wp_seq ?_
  refine rg ?_
  refine st F H rfl rfl rfl (y_mv rfl) ?_; (try clear F a); intro a F
  refine st F H rfl rfl rfl (y_not rfl) ?_; (try clear F a); intro a F
  refine wpList_nil ?_
  refine cn F rfl (fun h27 => ?_) (fun h27 => ?_)
  · refine rg ?_
    refine st F H rfl rfl rfl (y_as rfl) ?_; (try clear F a); intro a F
    refine wpList_nil ?_
    refine wp_ret (th_r (ib_r (th_r (ret1 F H rfl (rv rfl) ⟨_, rfl, H.b0, ?_⟩))))
    exact ⟨rfl, M, H.sel [9001, 9002, 9003] (by decide), hM.carry (H.sel [9001, 9002, 9003] (by decide)) (List.mem_cons_self ..)⟩
  · cases h27
theorem stepLoseN_c (g : Nat) (S : WS) (M : WMem) (w0 : World) (d k : Int) (hd : d.tmod 7 = 5) (hk : 0 ≤ k ∧ k ≤ 255) (aad : Option Addr) (an acap : Nat) (hH : Hp (M.cells g S) [] w0) (hM : M.Ok S (blks (M.cells g S)) w0)
    (hok : NetOk S.sent S.cs) (h0 : ¬ S.cs.length = 0) :
    CallsTo Try.prog 11 [.pointer (some ⟨g, 0, none⟩), wireV d k, .slice aad an acap] w0 (blks (M.cells g S)) fun v w' => v = .bool true ∧ RetW g (M.cells g S) w0 { S with cs := S.cs.take (k.toNat % S.cs.length) ++ S.cs.drop (k.toNat % S.cs.length + 1) } w' := by
  have hl : M.ps.length = S.cs.length := by rw [← hM.pc]; simp
  obtain ⟨J, hJ⟩ : ∃ J, J = k.toNat % S.cs.length := ⟨_, rfl⟩
  have hJl : J < S.cs.length := by rw [hJ]; exact Nat.mod_lt _ (by omega)
  have hp0 := getd (l := M.ps) (k := J) (by omega)
  obtain ⟨p0, hp0e⟩ : ∃ p0, p0 = M.ps.getD J default := ⟨_, rfl⟩
  rw [← hp0e] at hp0
  have hkw : IntKind.i64.wrap k = k := wi64 (by omega)
  rw [← hJ]
  refine enter (m := 189) Try.func11 rfl rfl rfl ?_; intro a F
  have H : Hp (M.cells g S) [⟨blks (M.cells g S), w0⟩] w0 := hH.atW
  refine rg ?_
  refine s_box 4 F H rfl rfl rfl ?_; intro g4; (try clear F H a); try clear w
  intro a w F H
  refine st F H rfl rfl rfl (y_as rfl) ?_; (try clear F a); intro a F
  refine wpList_nil ?_
  refine wp_seq ?_
  refine rg ?_
  refine st F H rfl rfl rfl (y_fa Try.underlying49 rfl Try.sizeOf5 rfl) ?_; (try clear F a); intro a F
  refine st F H rfl rfl rfl (y_ld1 (key := 4) rfl rfl Try.isAgg5 rfl) ?_; (try clear F a); intro a F
  refine st F H rfl rfl rfl (y_rem rfl rfl (by decide)) ?_; (try clear F a); intro a F
  refine wpList_nil ?_
  refine wp_block ?_
  refine rg ?_
  rw [hd] at F
  refine st F H rfl rfl rfl (y_eq rfl rfl) ?_; (try clear F a); intro a F
  refine st F H rfl rfl rfl (y_as rfl) ?_; (try clear F a); intro a F
  refine wpList_nil ?_
  refine cnF F rfl ?_
  refine rg ?_
  refine st F H rfl rfl rfl (y_eq rfl rfl) ?_; (try clear F a); intro a F
  refine st F H rfl rfl rfl (y_as rfl) ?_; (try clear F a); intro a F
  refine wpList_nil ?_
  refine cnF F rfl ?_
  refine rg ?_
  refine st F H rfl rfl rfl (y_eq rfl rfl) ?_; (try clear F a); intro a F
  refine st F H rfl rfl rfl (y_as rfl) ?_; (try clear F a); intro a F
  refine wpList_nil ?_
  refine cnF F rfl ?_
  refine wp_seq ?_
  refine rg ?_
  refine st F H rfl rfl rfl (y_eq rfl rfl) ?_; (try clear F a); intro a F
  refine st F H rfl rfl rfl (y_as rfl) ?_; (try clear F a); intro a F
  refine wpList_nil ?_
  refine cnF F rfl ?_
  refine rg1 ?_
  refine st F H rfl rfl rfl (y_eq rfl rfl) ?_; (try clear F a); intro a F
  refine st F H rfl rfl rfl (y_as rfl) ?_; (try clear F a); intro a F
  refine wpList_nil ?_
  refine th_n ?_
  refine cnF F rfl ?_
  refine rg ?_
  refine st F H rfl rfl rfl (y_eq rfl rfl) ?_; (try clear F a); intro a F
  refine st F H rfl rfl rfl (y_as rfl) ?_; (try clear F a); intro a F
  refine wpList_nil ?_
  refine cnT F rfl ?_
  refine rgq H mixed (by kernel_rfl) ?_
  refine stq F rfl rfl rfl (y_mv rfl) ?_; (try clear F a); intro a F
  refine stq F rfl rfl rfl (y_nil rfl) ?_; (try clear F a); intro a F
  refine stq F rfl rfl rfl (y_fa Try.underlying38 rfl Try.sizeOf35 rfl) ?_; (try clear F a); intro a F
  refine stq F rfl rfl rfl (y_ld (key := 9001) rfl rfl Try.isAgg35 Try.sizeOf35 rfl) ?_; (try clear F a); intro a F
  refine stq F rfl rfl rfl (y_fa Try.underlying49 rfl Try.sizeOf5 rfl) ?_; (try clear F a); intro a F
  refine stq F rfl rfl rfl (y_ld1 (key := 4) rfl rfl Try.isAgg5 rfl) ?_; (try clear F a); intro a F
  refine stq F rfl rfl rfl (y_cvi Try.underlying5 Try.underlying3 rfl) ?_; (try clear F a); intro a F
  refine callq F rfl rfl (.cons rfl (.cons rfl .nil)) Try.call38 (fun w H => pickN_c _ ((hM.carry H (List.mem_cons_self ..)).nn) (by rw [hM.pc]; exact hok) (by omega)) ?_; (try clear F a); intro a F
  refine stq F rfl rfl rfl (y_mv rfl) ?_; (try clear F a); intro a F
  refine stq F rfl rfl rfl (y_ext rfl rfl) ?_; (try clear F a); intro a F
  refine stq F rfl rfl rfl (y_ext rfl rfl) ?_; (try clear F a); intro a F
  refine stq F rfl rfl rfl (y_as rfl) ?_; (try clear F a); intro a F
  refine stq F rfl rfl rfl (y_as rfl) ?_; (try clear F a); intro a F
  refine nlq (fun w H => ?_)
  refine wp_seq ?_
  refine rg ?_
  refine st F H rfl rfl rfl (y_mv rfl) ?_; (try clear F a); intro a F
  refine st F H rfl rfl rfl (y_not rfl) ?_; (try clear F a); intro a F
  refine wpList_nil ?_
  refine cn F rfl (fun h27 => ?_) (fun h27 => ?_)
  · cases h27
  · refine wp_skip ?_
    refine th_n ?_
    refine rg ?_
    rw [hkw, show M.ps.getD (k.toNat % M.ps.length) default = p0 by rw [hl, ← hJ, hp0e]] at F
    refine st F H rfl rfl rfl (y_mv rfl) ?_; (try clear F a); intro a F
    refine st F H rfl rfl rfl (y_nil rfl) ?_; (try clear F a); intro a F
    refine st F H rfl rfl rfl (y_fa Try.underlying38 rfl Try.sizeOf35 rfl) ?_; (try clear F a); intro a F
    refine st F H rfl rfl rfl (y_ld (key := 9001) rfl rfl Try.isAgg35 Try.sizeOf35 rfl) ?_; (try clear F a); intro a F
    refine st F H rfl rfl rfl (y_mv rfl) ?_; (try clear F a); intro a F
    refine s_in F rfl (.cons rfl (.cons rfl .nil)) Try.call39 rfl ?_
    refine enter (m := 18) Try.func39 rfl rfl rfl ?_; intro a F
    refine rg ?_
    refine s_box 1002 F H rfl rfl rfl ?_; intro g1002; (try clear F H a); try clear w
    intro a w F H
    refine s_alloc 1004 F H rfl Try.zeroValue35 rfl ?_; intro g1004; (try clear F H a); try clear w
    intro a w F H
    refine st F H rfl rfl rfl (y_as rfl) ?_; (try clear F a); intro a F
    refine wpList_nil ?_
    refine rg ?_
    refine st F H rfl rfl rfl (y_ld (key := 1002) rfl rfl Try.isAgg35 Try.sizeOf35 rfl) ?_; (try clear F a); intro a F
    refine st F H rfl rfl rfl (y_mv rfl) ?_; (try clear F a); intro a F
    have hcl := H.blkR
    refine s_call F H rfl rfl (.cons rfl (.cons rfl (.cons rfl .nil))) Try.call41 (come_c J p0 false ((hM.carry H (List.mem_cons_self ..)).nn) (by rw [hM.pc]; exact hok) hp0) ?_
    rintro _ a w ⟨ad6, cap6, ps6, q6, rfl, hn6, hq6, hqb6, hc6⟩ hO F H
    have hn6 := hn6.less hcl
    have H := H.atW
    refine st F H rfl rfl rfl (y_mv rfl) ?_; (try clear F a); intro a F
    refine st F H rfl rfl rfl (y_ext rfl rfl) ?_; (try clear F a); intro a F
    refine st F H rfl rfl rfl (y_ext rfl rfl) ?_; (try clear F a); intro a F
    refine st F H rfl rfl rfl (y_ext rfl rfl) ?_; (try clear F a); intro a F
    refine s_alloc 1006 F H rfl Try.zeroValue35 rfl ?_; intro g1006; (try clear F H a); try clear w
    intro a w F H
    refine s_alloc 1007 F H rfl Try.zeroValue131 rfl ?_; intro g1007; (try clear F H a); try clear w
    intro a w F H
    refine s_st (key := 1006) F H rfl rfl rfl rfl Try.sizeOf35 rfl rfl rfl ?_; (try clear F H a); try clear w
    intro a w F H
    refine s_st (key := 1007) F H rfl rfl rfl rfl Try.sizeOf131 rfl rfl rfl ?_; (try clear F H a); try clear w
    intro a w F H
    refine st F H rfl rfl rfl (y_as rfl) ?_; (try clear F a); intro a F
    refine wpList_nil ?_
    refine rg ?_
    refine st F H rfl rfl rfl (y_ld (key := 1006) rfl rfl Try.isAgg35 Try.sizeOf35 rfl) ?_; (try clear F a); intro a F
    refine st F H rfl rfl rfl (y_mv rfl) ?_; (try clear F a); intro a F
    refine s_st (key := 1004) F H rfl rfl rfl rfl Try.sizeOf35 rfl rfl rfl ?_; (try clear F H a); try clear w
    intro a w F H
    refine st F H rfl rfl rfl (y_as rfl) ?_; (try clear F a); intro a F
    refine wpList_nil ?_
    refine wp_ret (ret2 F H rfl (rva (key := 1004) rfl rfl Try.isAgg35 Try.sizeOf35 rfl) (rv rfl) ⟨_, rfl, fun a F => ?_⟩)
    refine st F H rfl rfl rfl (y_mv rfl) ?_; (try clear F a); intro a F
    refine st F H rfl rfl rfl (y_ext rfl rfl) ?_; (try clear F a); intro a F
    refine st F H rfl rfl rfl (y_ext rfl rfl) ?_; (try clear F a); intro a F
    refine s_alloc 17 F H rfl Try.zeroValue35 rfl ?_; intro g17; (try clear F H a); try clear w
    intro a w F H
    refine s_st (key := 17) F H rfl rfl rfl rfl Try.sizeOf35 rfl rfl rfl ?_; (try clear F H a); try clear w
    intro a w F H
    refine st F H rfl rfl rfl (y_as rfl) ?_; (try clear F a); intro a F
    refine wpList_nil ?_
    refine rg ?_
    refine st F H rfl rfl rfl (y_mv rfl) ?_; (try clear F a); intro a F
    refine st F H rfl rfl rfl (y_ld (key := 17) rfl rfl Try.isAgg35 Try.sizeOf35 rfl) ?_; (try clear F a); intro a F
    refine st F H rfl rfl rfl (y_nil rfl) ?_; (try clear F a); intro a F
    refine st F H rfl rfl rfl (y_fa Try.underlying38 rfl Try.sizeOf35 rfl) ?_; (try clear F a); intro a F
    refine s_st (key := 9001) F H rfl rfl rfl rfl Try.sizeOf35 rfl rfl rfl ?_; (try clear F H a); try clear w
    intro a w F H
    refine wpList_nil ?_
    refine rg ?_
    refine st F H rfl rfl rfl (y_mv rfl) ?_; (try clear F a); intro a F
    refine st F H rfl rfl rfl (y_eq rfl rfl) ?_; (try clear F a); intro a F
    refine st F H rfl rfl rfl (y_as rfl) ?_; (try clear F a); intro a F
    refine wpList_nil ?_
    refine wp_ret (ib_r (th_r (ret1 F H rfl (rv rfl) ⟨_, rfl, H.b0, ?_⟩)))
    have H3 := H.sel [9001, 9002, 9003] (by decide)
    have H4 := H3.to (c' := WMem.cells g { S with cs := S.cs.take J ++ S.cs.drop (J + 1) } { M with na := ad6, nc := cap6, ps := ps6 }) rfl
    have hc2 := hM.carry H4 (List.mem_cons_self ..)
    have hn2 := hn6.carry H4 (List.mem_cons_of_mem _ (List.mem_cons_self ..))
    exact ⟨rfl, _, H4.initB, ⟨hM.rw, hM.rt, hc2.ss, hc2.rr, hn2, by rw [hc6, hM.pc]; rfl⟩⟩
/-! 6: an element is taken -/
def takeStep (S : WS) : WS × Bool :=
  if (takeR S.r).2.2 = 4 then (S, (S.r.q.length : Int) == 0) else ({ S with r := (takeR S.r).1, taken := S.taken ++ [(takeR S.r).2.1] }, (takeR S.r).2.2 == 0)
theorem stepTake_c (g : Nat) (S : WS) (M : WMem) (w0 : World) (d k : Int) (hd : d.tmod 7 = 6) (aad : Option Addr) (an acap : Nat) (hH : Hp (M.cells g S) [] w0) (hM : M.Ok S (blks (M.cells g S)) w0) (ht : S.taken.length ≤ 1000) :
    CallsTo Try.prog 11 [.pointer (some ⟨g, 0, none⟩), wireV d k, .slice aad an acap] w0 (blks (M.cells g S)) fun v w' => v = .bool (takeStep S).2 ∧ RetW g (M.cells g S) w0 (takeStep S).1 w' := by
  refine enter (m := 189) Try.func11 rfl rfl rfl ?_; intro a F
  have H : Hp (M.cells g S) [⟨blks (M.cells g S), w0⟩] w0 := hH.atW
  refine rg ?_
  refine s_box 4 F H rfl rfl rfl ?_; intro g4; (try clear F H a); try clear w
  intro a w F H
  refine st F H rfl rfl rfl (y_as rfl) ?_; (try clear F a); intro a F
  refine wpList_nil ?_
  refine wp_seq ?_
  refine rg ?_
  refine st F H rfl rfl rfl (y_fa Try.underlying49 rfl Try.sizeOf5 rfl) ?_; (try clear F a); intro a F
  refine st F H rfl rfl rfl (y_ld1 (key := 4) rfl rfl Try.isAgg5 rfl) ?_; (try clear F a); intro a F
  refine st F H rfl rfl rfl (y_rem rfl rfl (by decide)) ?_; (try clear F a); intro a F
  refine wpList_nil ?_
  refine wp_block ?_
  refine rg ?_
  rw [hd] at F
  refine st F H rfl rfl rfl (y_eq rfl rfl) ?_; (try clear F a); intro a F
  refine st F H rfl rfl rfl (y_as rfl) ?_; (try clear F a); intro a F
  refine wpList_nil ?_
  refine cnF F rfl ?_
  refine rg ?_
  refine st F H rfl rfl rfl (y_eq rfl rfl) ?_; (try clear F a); intro a F
  refine st F H rfl rfl rfl (y_as rfl) ?_; (try clear F a); intro a F
  refine wpList_nil ?_
  refine cnF F rfl ?_
  refine rg ?_
  refine st F H rfl rfl rfl (y_eq rfl rfl) ?_; (try clear F a); intro a F
  refine st F H rfl rfl rfl (y_as rfl) ?_; (try clear F a); intro a F
  refine wpList_nil ?_
  refine cnF F rfl ?_
  refine wp_seq ?_
  refine rg ?_
  refine st F H rfl rfl rfl (y_eq rfl rfl) ?_; (try clear F a); intro a F
  refine st F H rfl rfl rfl (y_as rfl) ?_; (try clear F a); intro a F
  refine wpList_nil ?_
  refine cnF F rfl ?_
  refine rg1 ?_
  refine st F H rfl rfl rfl (y_eq rfl rfl) ?_; (try clear F a); intro a F
  refine st F H rfl rfl rfl (y_as rfl) ?_; (try clear F a); intro a F
  refine wpList_nil ?_
  refine th_n ?_
  refine cnF F rfl ?_
  refine rg ?_
  refine st F H rfl rfl rfl (y_eq rfl rfl) ?_; (try clear F a); intro a F
  refine st F H rfl rfl rfl (y_as rfl) ?_; (try clear F a); intro a F
  refine wpList_nil ?_
  refine cnF F rfl ?_
  refine wp_skip ?_
  refine ib_n ?_
  refine th_n ?_
  refine rg ?_
  refine st F H rfl rfl rfl (y_mv rfl) ?_; (try clear F a); intro a F
  refine st F H rfl rfl rfl (y_nil rfl) ?_; (try clear F a); intro a F
  refine st F H rfl rfl rfl (y_fa Try.underlying38 rfl Try.sizeOf32 rfl) ?_; (try clear F a); intro a F
  refine st F H rfl rfl rfl (y_ld (key := 9001) rfl rfl Try.isAgg32 Try.sizeOf32 rfl) ?_; (try clear F a); intro a F
  have hcl := H.blkR
  refine s_call F H rfl rfl (.cons rfl .nil) Try.call40 (take_c S.r ((hM.carry H (List.mem_cons_self ..)).rr)) ?_
  rintro _ a w ⟨ad4, cap4, rfl, hs4⟩ hO F H
  have hs4 := hs4.less hcl
  have H := H.atW
  refine st F H rfl rfl rfl (y_mv rfl) ?_; (try clear F a); intro a F
  refine st F H rfl rfl rfl (y_ext rfl rfl) ?_; (try clear F a); intro a F
  refine st F H rfl rfl rfl (y_ext rfl rfl) ?_; (try clear F a); intro a F
  refine st F H rfl rfl rfl (y_ext rfl rfl) ?_; (try clear F a); intro a F
  refine s_alloc 19 F H rfl Try.zeroValue32 rfl ?_; intro g19; (try clear F H a); try clear w
  intro a w F H
  refine s_alloc 20 F H rfl Try.zeroValue47 rfl ?_; intro g20; (try clear F H a); try clear w
  intro a w F H
  refine s_st (key := 19) F H rfl rfl rfl rfl Try.sizeOf32 rfl rfl rfl ?_; (try clear F H a); try clear w
  intro a w F H
  refine s_st (key := 20) F H rfl rfl rfl rfl Try.sizeOf47 rfl rfl rfl ?_; (try clear F H a); try clear w
  intro a w F H
  refine st F H rfl rfl rfl (y_as rfl) ?_; (try clear F a); intro a F
  refine wpList_nil ?_
  refine wp_seq ?_
  refine rg ?_
  refine st F H rfl rfl rfl (y_mv rfl) ?_; (try clear F a); intro a F
  refine st F H rfl rfl rfl (y_eq rfl rfl) ?_; (try clear F a); intro a F
  refine wpList_nil ?_
  refine cn F rfl (fun h33 => ?_) (fun h33 => ?_)
  · have h6' : (takeR S.r).2.2 = 4 := by simpa using h33
    rw [show takeStep S = (S, (S.r.q.length : Int) == 0) from if_pos h6']
    refine rg ?_
    refine st F H rfl rfl rfl (y_mv rfl) ?_; (try clear F a); intro a F
    refine st F H rfl rfl rfl (y_nil rfl) ?_; (try clear F a); intro a F
    refine st F H rfl rfl rfl (y_fa Try.underlying38 rfl Try.sizeOf32 rfl) ?_; (try clear F a); intro a F
    refine st F H rfl rfl rfl (y_fa Try.underlying32 rfl Try.sizeOf24 rfl) ?_; (try clear F a); intro a F
    refine st F H rfl rfl rfl (y_ld1 (key := 9001) rfl rfl Try.isAgg24 rfl) ?_; (try clear F a); intro a F
    refine st F H rfl rfl rfl (y_len Try.underlying24 rfl) ?_; (try clear F a); intro a F
    refine st F H rfl rfl rfl (y_eq rfl rfl) ?_; (try clear F a); intro a F
    refine st F H rfl rfl rfl (y_as rfl) ?_; (try clear F a); intro a F
    refine wpList_nil ?_
    refine wp_ret (th_r (ret1 F H rfl (rv rfl) ⟨_, rfl, H.b0, ?_⟩))
    exact ⟨rfl, M, (H.sel [9001, 9002, 9003] (by decide)).initB, hM.carry (H.sel [9001, 9002, 9003] (by decide)) (List.mem_cons_self ..)⟩
  · have h6' : ¬ (takeR S.r).2.2 = 4 := by simpa using h33
    rw [show takeStep S = ({ S with r := (takeR S.r).1, taken := S.taken ++ [(takeR S.r).2.1] }, (takeR S.r).2.2 == 0) from if_neg h6']
    refine wp_skip ?_
    refine th_n ?_
    refine rgdH [0, 1, 2, 3, 4, 5, 6, 7, 8, 9] [0, 1, 2, 3, 4, 5, 6, 7, 8, 9, 10, 11, 12] [9003] [9003, 9001] H mixed ?_
    have H := H.old (Old.drew _)
    have HS := (H.rms [9003])
    have HT := (H.rms [9003, 9001])
    refine tk 0 F HS (by kernel_rfl) rfl rfl rfl .no (y_mv rfl) ?_; (try clear F a); intro a F
    refine tk 2 F HS (by kernel_rfl) rfl rfl rfl .no (y_ld (key := 19) rfl rfl Try.isAgg32 Try.sizeOf32 rfl) ?_; (try clear F a); intro a F
    refine tk2 1 F HT (by kernel_rfl) rfl rfl rfl .no (y_mv rfl) ?_; (try clear F a); intro a F
    refine tk2 3 F HT (by kernel_rfl) rfl rfl rfl .no (y_mv rfl) ?_; (try clear F a); intro a F
    refine tk2 4 F HT (by kernel_rfl) rfl rfl rfl .no (y_nil rfl) ?_; (try clear F a); intro a F
    refine tk2 5 F HT (by kernel_rfl) rfl rfl rfl .no (y_fa Try.underlying38 rfl Try.sizeOf24 rfl) ?_; (try clear F a); intro a F
    refine tk 6 F HS (by kernel_rfl) rfl rfl rfl .no (y_ld1 (key := 9001) rfl rfl Try.isAgg24 rfl) ?_; (try clear F a); intro a F
    refine one' 7 (by kernel_rfl) rfl ?_
    refine st F H rfl rfl rfl (y_ld (key := 20) rfl rfl Try.isAgg47 Try.sizeOf47 rfl) ?_; (try clear F a); intro a F
    have HS := (H.rms [9003])
    have HT := (H.rms [9003, 9001])
    refine wpList_nil ⟨⟨fun _ _ => HS, fun _ _ => HT⟩, ?_⟩
    refine one' 8 (by kernel_rfl) rfl ?_
    refine s_bs1 99 F H rfl Try.underlying24 Try.sizeOf47 Try.zeroValue47 rfl rfl rfl rfl rfl rfl ?_
    clear F H a
    intro g99 a w F H
    have HS := (H.rms [99, 9003])
    have HT := (H.rms [99, 9003, 9001])
    refine wpList_nil ⟨⟨fun _ _ => HS, fun _ _ => HT⟩, ?_⟩
    refine one' 9 (by kernel_rfl) rfl ?_
    refine s_append 9003 F H rfl Try.underlying24 ti47 rfl rfl rfl rfl rfl hM.rt.r (At.slc (H.cell (k := 99) rfl rfl) (m := 5) rfl) rfl (fun u hu => one1_mem (El.one (takeR S.r).2.1) u hu) (by omega) (by omega) ?_
    clear F H a
    intro og' capt' row' a w hr' ht' hn' hO F H
    have HS := (H.rms [99, 9003])
    have HT := (H.rms [99, 9003, 9001])
    refine wpList_nil ⟨⟨fun _ _ => HS, fun _ _ => HT⟩, ?_⟩
    refine one' 10 (by kernel_rfl) rfl ?_
    refine st F H rfl rfl rfl (y_nil rfl) ?_; (try clear F a); intro a F
    have HS := (H.rms [99, 9003])
    have HT := (H.rms [99, 9003, 9001])
    refine wpList_nil ⟨⟨fun h => absurd h (by decide), fun _ _ => HT⟩, ?_⟩
    refine one' 11 (by kernel_rfl) rfl ?_
    refine st F H rfl rfl rfl (y_fa Try.underlying38 rfl Try.sizeOf32 rfl) ?_; (try clear F a); intro a F
    have HS := (H.rms [99, 9003])
    have HT := (H.rms [99, 9003, 9001])
    refine wpList_nil ⟨⟨fun h => absurd h (by decide), fun _ _ => HT⟩, ?_⟩
    refine one' 12 (by kernel_rfl) rfl ?_
    refine s_st (key := 9001) F H rfl rfl rfl rfl Try.sizeOf32 rfl rfl rfl ?_; (try clear F H a); try clear w
    intro a w F H
    have HS := (H.rms [99, 9003])
    have HT := (H.rms [99, 9003, 9001])
    refine wpList_nil ⟨⟨fun h => absurd h (by decide), fun _ _ => HT⟩, ?_⟩
    refine one' 13 (by kernel_rfl) rfl ?_
    refine st F H rfl rfl rfl (y_nil rfl) ?_; (try clear F a); intro a F
    have HS := (H.rms [99, 9003])
    have HT := (H.rms [99, 9003, 9001])
    refine wpList_nil ⟨⟨fun h => absurd h (by decide), fun h => absurd h (by decide)⟩, ?_⟩
    refine one' 14 (by kernel_rfl) rfl ?_
    refine st F H rfl rfl rfl (y_fa Try.underlying38 rfl Try.sizeOf24 rfl) ?_; (try clear F a); intro a F
    have HS := (H.rms [99, 9003])
    have HT := (H.rms [99, 9003, 9001])
    refine wpList_nil ⟨⟨fun h => absurd h (by decide), fun h => absurd h (by decide)⟩, ?_⟩
    refine one' 15 (by kernel_rfl) rfl ?_
    refine s_st (key := 9001) F H rfl rfl rfl rfl Try.sizeOf24 rfl rfl rfl ?_; (try clear F H a); try clear w
    intro a w F H
    have HS := (H.rms [99, 9003])
    have HT := (H.rms [99, 9003, 9001])
    refine wpList_nil ⟨⟨fun h => absurd h (by decide), fun h => absurd h (by decide)⟩, ?_⟩
    refine dn (by kernel_rfl) ?_ _
    refine rg ?_
    refine st F H rfl rfl rfl (y_mv rfl) ?_; (try clear F a); intro a F
    refine st F H rfl rfl rfl (y_eq rfl rfl) ?_; (try clear F a); intro a F
    refine st F H rfl rfl rfl (y_as rfl) ?_; (try clear F a); intro a F
    refine wpList_nil ?_
    refine wp_ret (ret1 F H rfl (rv rfl) ⟨_, rfl, H.b0, ?_⟩)
    have hR : RowOf og' 5 El.cs (S.taken ++ [(takeR S.r).2.1]) capt' row' := hM.rt.push hr' ht'
    have H3 := H.sel [9001, 9002, 9003] (by decide)
    have e : (S.taken ++ [(takeR S.r).2.1]).length = S.taken.length + 1 := by simp
    have H4 := H3.to (c' := WMem.cells g { S with r := (takeR S.r).1, taken := S.taken ++ [(takeR S.r).2.1] } { M with ogt := og', capt := capt', rowt := row', ra := ad4, rc := cap4 }) (by
      unfold WMem.cells
      simp only [e]
      rfl)
    have hc2 := hM.carry H4 (List.mem_cons_self ..)
    have hs2 := hs4.carry El.wid (by decide) H4 (List.mem_cons_of_mem _ (List.mem_cons_self ..))
    exact ⟨rfl, _, H4.initB, ⟨hM.rw, hR, hc2.ss, hs2, hc2.nn, hM.pc⟩⟩
end Go.Proofs.Ytilakloilkkfmaa
