/-
  link: taking off, acknowledging, beginning.
-/
import Derived.Test.YtilakloilkkfmaaLinkB
namespace Go.Proofs.Ytilakloilkkfmaa
open Go Go.Sx
set_option maxRecDepth 10000
-- @uses Rec LinkA Clones LinkB
def takeR (s : Rcv) : Rcv × El × Int :=
  if s.bad = true then (.zero, .zero, 240) else if s.q.length = 0 then (.zero, .zero, 4) else ({ s with q := s.q.drop 1 }, s.q.getD 0 default, 0)
def RetT (w0 : World) (r : Rcv × El × Int) (v : Value) (w' : World) : Prop :=
  ∃ ad cap, v = .tuple #[r.1.v ad cap, .agg r.2.1.cs.toArray, .int .i64 r.2.2] ∧ SlE (List.range w0.heap.size) w' ad r.1.q.length cap r.1.q
theorem take_c {E : List Nat} {w0 : World} {ad : Option Addr} {cap : Nat} (s : Rcv) (hs : SlE E w0 ad s.q.length cap s.q) :
    CallsTo Try.prog 40 [s.v ad cap] w0 [] (RetT w0 (takeR s)) := by
  obtain ⟨sa, sb, xs, sr⟩ := s
  simp only [Rcv.v] at hs ⊢
  refine enter (m := 17) Try.func40 rfl rfl rfl ?_; intro a F
  have H := Hp.start w0 []
  refine rg ?_
  refine s_box 1 F H rfl rfl rfl ?_; intro g1; (try clear F H a); try clear w
  intro a w F H
  refine s_alloc 2 F H rfl Try.zeroValue32 rfl ?_; intro g2; (try clear F H a); try clear w
  intro a w F H
  refine s_alloc 3 F H rfl Try.zeroValue47 rfl ?_; intro g3; (try clear F H a); try clear w
  intro a w F H
  refine st F H rfl rfl rfl (y_as rfl) ?_; (try clear F a); intro a F
  refine wpList_nil ?_
  refine rg ?_
  refine s_alloc 5 F H rfl Try.zeroValue47 rfl ?_; intro g5; (try clear F H a); try clear w
  intro a w F H
  refine wpList_nil ?_
  refine rg ?_
  refine st F H rfl rfl rfl (y_ld (key := 1) rfl rfl Try.isAgg32 Try.sizeOf32 rfl) ?_; (try clear F a); intro a F
  refine st F H rfl rfl rfl (y_fn (.cons rfl .nil)) ?_; (try clear F a); intro a F
  refine s_in F rfl (.cons rfl (.cons rfl .nil)) Try.call102 rfl ?_
  refine enter (m := 25) Try.func102 rfl rfl rfl ?_; intro a F
  refine rg ?_
  refine s_box 1002 F H rfl rfl rfl ?_; intro g1002; (try clear F H a); try clear w
  intro a w F H
  refine s_alloc 1004 F H rfl Try.zeroValue32 rfl ?_; intro g1004; (try clear F H a); try clear w
  intro a w F H
  refine st F H rfl rfl rfl (y_as rfl) ?_; (try clear F a); intro a F
  refine wpList_nil ?_
  refine wp_seq ?_
  refine rg ?_
  refine st F H rfl rfl rfl (y_ld (key := 1002) rfl rfl Try.isAgg32 Try.sizeOf32 rfl) ?_; (try clear F a); intro a F
  refine s_callV F H rfl rfl (.cons rfl .nil) Try.call36 (checkReceiver_c _ _ _ (hs.old H.b0.nil)) ?_; (try clear F H a); try clear w
  intro a w F H
  refine st F H rfl rfl rfl (y_as rfl) ?_; (try clear F a); intro a F
  refine wpList_nil ?_
  refine rg ?_
  refine st F H rfl rfl rfl (y_mv rfl) ?_; (try clear F a); intro a F
  refine st F H rfl rfl rfl (y_ne rfl rfl) ?_; (try clear F a); intro a F
  refine wpList_nil ?_
  refine cn F rfl (fun h2_1 => ?_) (fun h2_1 => ?_)
  · have hbad : rcvBad sa sb xs sr = true := by cases h : rcvBad sa sb xs sr <;> simp_all
    refine rg ?_
    refine st F H rfl rfl rfl (y_build Try.zeroValue32 Try.underlying32 pl32 rfl .nil rfl) ?_; (try clear F a); intro a F
    refine st F H rfl rfl rfl (y_mv rfl) ?_; (try clear F a); intro a F
    refine s_st (key := 1004) F H rfl rfl rfl rfl Try.sizeOf32 rfl rfl rfl ?_; (try clear F H a); try clear w
    intro a w F H
    refine st F H rfl rfl rfl (y_as rfl) ?_; (try clear F a); intro a F
    refine wpList_nil ?_
    refine wp_ret (th_r (ret2 F H rfl (rva (key := 1004) rfl rfl Try.isAgg32 Try.sizeOf32 rfl) (rv rfl) ⟨_, rfl, fun a F => ?_⟩))
    refine st F H rfl rfl rfl (y_mv rfl) ?_; (try clear F a); intro a F
    refine st F H rfl rfl rfl (y_ext rfl rfl) ?_; (try clear F a); intro a F
    refine st F H rfl rfl rfl (y_ext rfl rfl) ?_; (try clear F a); intro a F
    refine s_alloc 6 F H rfl Try.zeroValue32 rfl ?_; intro g6; (try clear F H a); try clear w
    intro a w F H
    refine s_st (key := 6) F H rfl rfl rfl rfl Try.sizeOf32 rfl rfl rfl ?_; (try clear F H a); try clear w
    intro a w F H
    refine st F H rfl rfl rfl (y_as rfl) ?_; (try clear F a); intro a F
    refine wpList_nil ?_
    refine rgdH [0, 1, 2] [0, 1, 2, 3, 4] [] [2, 3] H mixed ?_
    have H := H.old (Old.drew _)
    have HS := (H.rms [])
    have HT := (H.rms [2, 3])
    refine tk 0 F HS (by kernel_rfl) rfl rfl rfl .no (y_ld (key := 6) rfl rfl Try.isAgg32 Try.sizeOf32 rfl) ?_; (try clear F a); intro a F
    refine tk2 1 F HT (by kernel_rfl) rfl rfl rfl .no (y_ld (key := 5) rfl rfl Try.isAgg47 Try.sizeOf47 rfl) ?_; (try clear F a); intro a F
    refine tk2 2 F HT (by kernel_rfl) rfl rfl rfl .no (y_mv rfl) ?_; (try clear F a); intro a F
    refine one' 3 (by kernel_rfl) rfl ?_
    refine s_st (key := 2) F H rfl rfl rfl rfl Try.sizeOf32 rfl rfl rfl ?_; (try clear F H a); try clear w
    intro a w F H
    have HS := (H.rms [])
    have HT := (H.rms [2, 3])
    refine wpList_nil ⟨⟨fun h => absurd h (by decide), fun _ _ => HT⟩, ?_⟩
    refine one' 4 (by kernel_rfl) rfl ?_
    refine s_st (key := 3) F H rfl rfl rfl rfl Try.sizeOf47 rfl rfl rfl ?_; (try clear F H a); try clear w
    intro a w F H
    have HS := (H.rms [])
    have HT := (H.rms [2, 3])
    refine wpList_nil ⟨⟨fun h => absurd h (by decide), fun _ _ => HT⟩, ?_⟩
    refine one' 5 (by kernel_rfl) rfl ?_
    refine st F H rfl rfl rfl (y_as rfl) ?_; (try clear F a); intro a F
    have HS := (H.rms [])
    have HT := (H.rms [2, 3])
    refine wpList_nil ⟨⟨fun h => absurd h (by decide), fun h => absurd h (by decide)⟩, ?_⟩
    refine dn (by kernel_rfl) ?_ _
    refine wp_ret (ret3 F H rfl (rva (key := 2) rfl rfl Try.isAgg32 Try.sizeOf32 rfl) (rva (key := 3) rfl rfl Try.isAgg47 Try.sizeOf47 rfl) (rv rfl) ⟨_, rfl, H.b0, ?_⟩)
    (try clear F H a)
    rw [show takeR ⟨sa, sb, xs, sr⟩ = (Rcv.zero, El.zero, 240) from if_pos hbad]
    refine ⟨none, 0, ?_, Sl.nilOf _ _ _ _⟩
    show Value.tuple #[Rcv.v Rcv.zero none 0, .agg El.zero.cs.toArray, .int .i64 (if rcvBad sa sb xs sr = true then 240 else 0)] = Value.tuple #[Rcv.v Rcv.zero none 0, .agg El.zero.cs.toArray, .int .i64 240]
    rw [if_pos hbad]
  · have hbad : rcvBad sa sb xs sr = false := by cases h : rcvBad sa sb xs sr <;> simp_all
    have hlen := rcvBad_len hbad
    refine wp_skip ?_
    refine th_n ?_
    refine rg ?_
    refine st F H rfl rfl rfl (y_fa Try.underlying32 rfl Try.sizeOf24 rfl) ?_; (try clear F a); intro a F
    refine st F H rfl rfl rfl (y_ld1 (key := 1002) rfl rfl Try.isAgg24 rfl) ?_; (try clear F a); intro a F
    refine s_callN 1016 F H rfl rfl (.cons rfl .nil) Try.call173 (clone173_c El.wid El.one (hs.old H.b0.nil) (by omega)) ?_
    rintro _ og1016 row1016 a w ⟨cap1, rfl, hr, hn1⟩ hO F H
    refine st F H rfl rfl rfl (y_fa Try.underlying32 rfl Try.sizeOf24 rfl) ?_; (try clear F a); intro a F
    refine s_st (key := 1002) F H rfl rfl rfl rfl Try.sizeOf24 rfl rfl rfl ?_; (try clear F H a); try clear w
    intro a w F H
    refine wpList_nil ?_
    refine wp_seq ?_
    refine rg ?_
    refine st F H rfl rfl rfl (y_mv rfl) ?_; (try clear F a); intro a F
    refine s_in F rfl (.cons rfl .nil) Try.call103 rfl ?_
    refine enter (m := 24) Try.func103 rfl rfl rfl ?_; intro a F
    refine rg ?_
    refine st F H rfl rfl rfl (y_as rfl) ?_; (try clear F a); intro a F
    refine wpList_nil ?_
    refine wp_seq ?_
    refine rg ?_
    refine st F H rfl rfl rfl (y_mv rfl) ?_; (try clear F a); intro a F
    refine st F H rfl rfl rfl (y_nil rfl) ?_; (try clear F a); intro a F
    refine st F H rfl rfl rfl (y_fa Try.underlying32 rfl Try.sizeOf24 rfl) ?_; (try clear F a); intro a F
    refine st F H rfl rfl rfl (y_ld1 (key := 1002) rfl rfl Try.isAgg24 rfl) ?_; (try clear F a); intro a F
    refine st F H rfl rfl rfl (y_len Try.underlying24 rfl) ?_; (try clear F a); intro a F
    refine st F H rfl rfl rfl (y_eq rfl rfl) ?_; (try clear F a); intro a F
    refine wpList_nil ?_
    refine cn F rfl (fun h1_2 => ?_) (fun h1_2 => ?_)
    · have h0 : xs.length = 0 := by simpa using h1_2
      refine rg ?_
      refine st F H rfl rfl rfl (y_as rfl) ?_; (try clear F a); intro a F
      refine wpList_nil ?_
      refine wp_ret (th_r (ret1 F H rfl (rv rfl) ⟨_, rfl, fun a F => ?_⟩))
      refine st F H rfl rfl rfl (y_as rfl) ?_; (try clear F a); intro a F
      refine wpList_nil ?_
      refine rg ?_
      refine st F H rfl rfl rfl (y_mv rfl) ?_; (try clear F a); intro a F
      refine st F H rfl rfl rfl (y_ne rfl rfl) ?_; (try clear F a); intro a F
      refine wpList_nil ?_
      refine cnT F rfl ?_
      refine rg ?_
      refine st F H rfl rfl rfl (y_build Try.zeroValue32 Try.underlying32 pl32 rfl .nil rfl) ?_; (try clear F a); intro a F
      refine st F H rfl rfl rfl (y_mv rfl) ?_; (try clear F a); intro a F
      refine s_st (key := 1004) F H rfl rfl rfl rfl Try.sizeOf32 rfl rfl rfl ?_; (try clear F H a); try clear w
      intro a w F H
      refine st F H rfl rfl rfl (y_as rfl) ?_; (try clear F a); intro a F
      refine wpList_nil ?_
      refine wp_ret (th_r (ret2 F H rfl (rva (key := 1004) rfl rfl Try.isAgg32 Try.sizeOf32 rfl) (rv rfl) ⟨_, rfl, fun a F => ?_⟩))
      refine st F H rfl rfl rfl (y_mv rfl) ?_; (try clear F a); intro a F
      refine st F H rfl rfl rfl (y_ext rfl rfl) ?_; (try clear F a); intro a F
      refine st F H rfl rfl rfl (y_ext rfl rfl) ?_; (try clear F a); intro a F
      refine s_alloc 6 F H rfl Try.zeroValue32 rfl ?_; intro g6; (try clear F H a); try clear w
      intro a w F H
      refine s_st (key := 6) F H rfl rfl rfl rfl Try.sizeOf32 rfl rfl rfl ?_; (try clear F H a); try clear w
      intro a w F H
      refine st F H rfl rfl rfl (y_as rfl) ?_; (try clear F a); intro a F
      refine wpList_nil ?_
      refine rgdH [0, 1, 2] [0, 1, 2, 3, 4] [] [2, 3] H mixed ?_
      have H := H.old (Old.drew _)
      have HS := (H.rms [])
      have HT := (H.rms [2, 3])
      refine tk 0 F HS (by kernel_rfl) rfl rfl rfl .no (y_ld (key := 6) rfl rfl Try.isAgg32 Try.sizeOf32 rfl) ?_; (try clear F a); intro a F
      refine tk2 1 F HT (by kernel_rfl) rfl rfl rfl .no (y_ld (key := 5) rfl rfl Try.isAgg47 Try.sizeOf47 rfl) ?_; (try clear F a); intro a F
      refine tk2 2 F HT (by kernel_rfl) rfl rfl rfl .no (y_mv rfl) ?_; (try clear F a); intro a F
      refine one' 3 (by kernel_rfl) rfl ?_
      refine s_st (key := 2) F H rfl rfl rfl rfl Try.sizeOf32 rfl rfl rfl ?_; (try clear F H a); try clear w
      intro a w F H
      have HS := (H.rms [])
      have HT := (H.rms [2, 3])
      refine wpList_nil ⟨⟨fun h => absurd h (by decide), fun _ _ => HT⟩, ?_⟩
      refine one' 4 (by kernel_rfl) rfl ?_
      refine s_st (key := 3) F H rfl rfl rfl rfl Try.sizeOf47 rfl rfl rfl ?_; (try clear F H a); try clear w
      intro a w F H
      have HS := (H.rms [])
      have HT := (H.rms [2, 3])
      refine wpList_nil ⟨⟨fun h => absurd h (by decide), fun _ _ => HT⟩, ?_⟩
      refine one' 5 (by kernel_rfl) rfl ?_
      refine st F H rfl rfl rfl (y_as rfl) ?_; (try clear F a); intro a F
      have HS := (H.rms [])
      have HT := (H.rms [2, 3])
      refine wpList_nil ⟨⟨fun h => absurd h (by decide), fun h => absurd h (by decide)⟩, ?_⟩
      refine dn (by kernel_rfl) ?_ _
      refine wp_ret (ret3 F H rfl (rva (key := 2) rfl rfl Try.isAgg32 Try.sizeOf32 rfl) (rva (key := 3) rfl rfl Try.isAgg47 Try.sizeOf47 rfl) (rv rfl) ⟨_, rfl, H.b0, ?_⟩)
      (try clear F H a)
      rw [show takeR ⟨sa, sb, xs, sr⟩ = (Rcv.zero, El.zero, 4) from (if_neg (ntrue hbad)).trans (if_pos h0)]
      exact ⟨none, 0, rfl, Sl.nilOf _ _ _ _⟩
    · have h0 : ¬ (xs.length = 0) := by simpa using h1_2
      obtain ⟨gr, rfl⟩ := hr.isSome (by omega)
      have hx : xs[0]? = some (xs.getD 0 default) := by rw [List.getD_eq_getElem?_getD, List.getElem?_eq_getElem (by omega)]; rfl
      refine wp_skip ?_
      refine th_n ?_
      refine rgdH [0, 1, 2, 3, 4, 5, 6, 7, 8, 9, 10, 11] [0, 1, 2, 3, 4, 5, 6, 7, 8, 9, 10, 11, 12] [] [5] H mixed ?_
      have H := H.old (Old.drew _)
      have HS := (H.rms [])
      have HT := (H.rms [5])
      refine tk 1 F HS (by kernel_rfl) rfl rfl rfl .no (y_mv rfl) ?_; (try clear F a); intro a F
      refine tk 2 F HS (by kernel_rfl) rfl rfl rfl .no (y_nil rfl) ?_; (try clear F a); intro a F
      refine tk 3 F HS (by kernel_rfl) rfl rfl rfl .no (y_fa Try.underlying32 rfl Try.sizeOf24 rfl) ?_; (try clear F a); intro a F
      refine tk 4 F HS (by kernel_rfl) rfl rfl rfl .no (y_ld1 (key := 1002) rfl rfl Try.isAgg24 rfl) ?_; (try clear F a); intro a F
      refine tk 5 F HS (by kernel_rfl) rfl rfl rfl .no (y_ix Try.underlying24 Try.sizeOf47 rfl rfl rfl 0 rfl (by omega)) ?_; (try clear F a); intro a F
      refine tk 6 F HS (by kernel_rfl) rfl rfl rfl .no (y_lda (vs := (xs.getD 0 default).cs) rfl Try.isAgg47 Try.sizeOf47 (fun w H => (hr.sl (E := []) El.wid (fun g hg => H.cell (k := 1016) rfl hg) (by simp)).at hx) rfl) ?_; (try clear F a); intro a F
      refine tk2 0 F HT (by kernel_rfl) rfl rfl rfl .no (y_mv rfl) ?_; (try clear F a); intro a F
      refine tk2 7 F HT (by kernel_rfl) rfl rfl rfl .no (y_mv rfl) ?_; (try clear F a); intro a F
      refine tk2 8 F HT (by kernel_rfl) rfl rfl rfl .no (y_nil rfl) ?_; (try clear F a); intro a F
      refine tk2 9 F HT (by kernel_rfl) rfl rfl rfl .no (y_fa Try.underlying32 rfl Try.sizeOf24 rfl) ?_; (try clear F a); intro a F
      refine tk2 10 F HT (by kernel_rfl) rfl rfl rfl .no (y_ld1 (key := 1002) rfl rfl Try.isAgg24 rfl) ?_; (try clear F a); intro a F
      refine tk2 11 F HT (by kernel_rfl) rfl rfl rfl .no (y_slLo Try.underlying24 Try.sizeOf47 rfl rfl (by omega) (by omega)) ?_; (try clear F a); intro a F
      refine one' 12 (by kernel_rfl) rfl ?_
      refine s_st (key := 5) F H rfl rfl rfl rfl Try.sizeOf47 rfl rfl rfl ?_; (try clear F H a); try clear w
      intro a w F H
      have HS := (H.rms [])
      have HT := (H.rms [5])
      refine wpList_nil ⟨⟨fun h => absurd h (by decide), fun _ _ => HT⟩, ?_⟩
      refine one' 13 (by kernel_rfl) rfl ?_
      refine st F H rfl rfl rfl (y_nil rfl) ?_; (try clear F a); intro a F
      have HS := (H.rms [])
      have HT := (H.rms [5])
      refine wpList_nil ⟨⟨fun h => absurd h (by decide), fun h => absurd h (by decide)⟩, ?_⟩
      refine one' 14 (by kernel_rfl) rfl ?_
      refine st F H rfl rfl rfl (y_fa Try.underlying32 rfl Try.sizeOf24 rfl) ?_; (try clear F a); intro a F
      have HS := (H.rms [])
      have HT := (H.rms [5])
      refine wpList_nil ⟨⟨fun h => absurd h (by decide), fun h => absurd h (by decide)⟩, ?_⟩
      refine one' 15 (by kernel_rfl) rfl ?_
      refine s_st (key := 1002) F H rfl rfl rfl rfl Try.sizeOf24 rfl rfl rfl ?_; (try clear F H a); try clear w
      intro a w F H
      have HS := (H.rms [])
      have HT := (H.rms [5])
      refine wpList_nil ⟨⟨fun h => absurd h (by decide), fun h => absurd h (by decide)⟩, ?_⟩
      refine dn (by kernel_rfl) ?_ _
      refine rg ?_
      refine st F H rfl rfl rfl (y_as rfl) ?_; (try clear F a); intro a F
      refine wpList_nil ?_
      refine wp_ret (ret1 F H rfl (rv rfl) ⟨_, rfl, fun a F => ?_⟩)
      refine st F H rfl rfl rfl (y_as rfl) ?_; (try clear F a); intro a F
      refine wpList_nil ?_
      refine rg ?_
      refine st F H rfl rfl rfl (y_mv rfl) ?_; (try clear F a); intro a F
      refine st F H rfl rfl rfl (y_ne rfl rfl) ?_; (try clear F a); intro a F
      refine wpList_nil ?_
      refine cnF F rfl ?_
      refine wp_skip ?_
      refine th_n ?_
      refine rg ?_
      refine st F H rfl rfl rfl (y_ld (key := 1002) rfl rfl Try.isAgg32 Try.sizeOf32 rfl) ?_; (try clear F a); intro a F
      refine s_st (key := 1004) F H rfl rfl rfl rfl Try.sizeOf32 rfl rfl rfl ?_; (try clear F H a); try clear w
      intro a w F H
      refine st F H rfl rfl rfl (y_as rfl) ?_; (try clear F a); intro a F
      refine wpList_nil ?_
      refine wp_ret (ret2 F H rfl (rva (key := 1004) rfl rfl Try.isAgg32 Try.sizeOf32 rfl) (rv rfl) ⟨_, rfl, fun a F => ?_⟩)
      refine st F H rfl rfl rfl (y_mv rfl) ?_; (try clear F a); intro a F
      refine st F H rfl rfl rfl (y_ext rfl rfl) ?_; (try clear F a); intro a F
      refine st F H rfl rfl rfl (y_ext rfl rfl) ?_; (try clear F a); intro a F
      refine s_alloc 6 F H rfl Try.zeroValue32 rfl ?_; intro g6; (try clear F H a); try clear w
      intro a w F H
      refine s_st (key := 6) F H rfl rfl rfl rfl Try.sizeOf32 rfl rfl rfl ?_; (try clear F H a); try clear w
      intro a w F H
      refine st F H rfl rfl rfl (y_as rfl) ?_; (try clear F a); intro a F
      refine wpList_nil ?_
      refine rgdH [0, 1, 2] [0, 1, 2, 3, 4] [] [2, 3] H mixed ?_
      have H := H.old (Old.drew _)
      have HS := (H.rms [])
      have HT := (H.rms [2, 3])
      refine tk 0 F HS (by kernel_rfl) rfl rfl rfl .no (y_ld (key := 6) rfl rfl Try.isAgg32 Try.sizeOf32 rfl) ?_; (try clear F a); intro a F
      refine tk2 1 F HT (by kernel_rfl) rfl rfl rfl .no (y_ld (key := 5) rfl rfl Try.isAgg47 Try.sizeOf47 rfl) ?_; (try clear F a); intro a F
      refine tk2 2 F HT (by kernel_rfl) rfl rfl rfl .no (y_mv rfl) ?_; (try clear F a); intro a F
      refine one' 3 (by kernel_rfl) rfl ?_
      refine s_st (key := 2) F H rfl rfl rfl rfl Try.sizeOf32 rfl rfl rfl ?_; (try clear F H a); try clear w
      intro a w F H
      have HS := (H.rms [])
      have HT := (H.rms [2, 3])
      refine wpList_nil ⟨⟨fun h => absurd h (by decide), fun _ _ => HT⟩, ?_⟩
      refine one' 4 (by kernel_rfl) rfl ?_
      refine s_st (key := 3) F H rfl rfl rfl rfl Try.sizeOf47 rfl rfl rfl ?_; (try clear F H a); try clear w
      intro a w F H
      have HS := (H.rms [])
      have HT := (H.rms [2, 3])
      refine wpList_nil ⟨⟨fun h => absurd h (by decide), fun _ _ => HT⟩, ?_⟩
      refine one' 5 (by kernel_rfl) rfl ?_
      refine st F H rfl rfl rfl (y_as rfl) ?_; (try clear F a); intro a F
      have HS := (H.rms [])
      have HT := (H.rms [2, 3])
      refine wpList_nil ⟨⟨fun h => absurd h (by decide), fun h => absurd h (by decide)⟩, ?_⟩
      refine dn (by kernel_rfl) ?_ _
      refine wp_ret (ret3 F H rfl (rva (key := 2) rfl rfl Try.isAgg32 Try.sizeOf32 rfl) (rva (key := 3) rfl rfl Try.isAgg47 Try.sizeOf47 rfl) (rv rfl) ⟨_, rfl, H.b0, ?_⟩)
      rw [show takeR ⟨sa, sb, xs, sr⟩ = (⟨sa, sb, xs.drop 1, sr⟩, xs.getD 0 default, 0) from (if_neg (ntrue hbad)).trans (if_neg h0)]
      have hsl := (hr.sl El.wid (fun g hg => H.cell (k := 1016) rfl hg) (fun g hg => fresh_range (H.fresh (k := 1016) rfl hg))).drop 1 (by omega) _ rfl
      rw [← List.length_drop] at hsl
      exact ⟨_, cap1 - 1, by simp only [Rcv.v, List.length_drop]; rfl, hsl⟩
def ackL (s : Rcv) : Int := IntKind.u64.wrap (IntKind.u64.wrap (s.b - 1) + IntKind.u64.wrap (IntKind.i64.wrap (s.r - s.q.length)))
def ackV (s : Rcv) : Pck × Int := if s.bad = true then (⟨0, 0, 0, 0, .zero⟩, 240) else (⟨2, s.a, s.b, if 4611686018427387904 < ackL s then 4611686018427387904 else ackL s, .zero⟩, 0)
theorem ack_c {E : List Nat} {w0 : World} {ad : Option Addr} {cap : Nat} (s : Rcv) (hs : SlE E w0 ad s.q.length cap s.q) :
    CallsTo Try.prog 32 [s.v ad cap] w0 [] (fun v _ => v = .tuple #[.agg (ackV s).1.cs.toArray, .int .i64 (ackV s).2]) := by
  obtain ⟨sa, sb, xs, sr⟩ := s
  simp only [Rcv.v] at hs ⊢
  refine enter (m := 30) Try.func32 rfl rfl rfl ?_; intro a F
  have H := Hp.start w0 []
  refine rg ?_
  refine s_box 1 F H rfl rfl rfl ?_; intro g1; (try clear F H a); try clear w
  intro a w F H
  refine s_alloc 2 F H rfl Try.zeroValue114 rfl ?_; intro g2; (try clear F H a); try clear w
  intro a w F H
  refine st F H rfl rfl rfl (y_as rfl) ?_; (try clear F a); intro a F
  refine wpList_nil ?_
  refine wp_seq ?_
  refine rg ?_
  refine st F H rfl rfl rfl (y_ld (key := 1) rfl rfl Try.isAgg32 Try.sizeOf32 rfl) ?_; (try clear F a); intro a F
  refine s_callV F H rfl rfl (.cons rfl .nil) Try.call36 (checkReceiver_c _ _ _ (hs.old H.b0.nil)) ?_; (try clear F H a); try clear w
  intro a w F H
  refine st F H rfl rfl rfl (y_as rfl) ?_; (try clear F a); intro a F
  refine wpList_nil ?_
  refine rg ?_
  refine st F H rfl rfl rfl (y_mv rfl) ?_; (try clear F a); intro a F
  refine st F H rfl rfl rfl (y_ne rfl rfl) ?_; (try clear F a); intro a F
  refine wpList_nil ?_
  refine cn F rfl (fun h2 => ?_) (fun h2 => ?_)
  · have hbad : rcvBad sa sb xs sr = true := by cases h : rcvBad sa sb xs sr <;> simp_all
    refine rg ?_
    refine st F H rfl rfl rfl (y_build Try.zeroValue114 Try.underlying114 pl114 rfl .nil rfl) ?_; (try clear F a); intro a F
    refine st F H rfl rfl rfl (y_mv rfl) ?_; (try clear F a); intro a F
    refine s_st (key := 2) F H rfl rfl rfl rfl Try.sizeOf114 rfl rfl rfl ?_; (try clear F H a); try clear w
    intro a w F H
    refine st F H rfl rfl rfl (y_as rfl) ?_; (try clear F a); intro a F
    refine wpList_nil ?_
    refine wp_ret (th_r (ret2 F H rfl (rva (key := 2) rfl rfl Try.isAgg114 Try.sizeOf114 rfl) (rv rfl) ⟨_, rfl, H.b0, ?_⟩))
    (try clear F H a)
    rw [show ackV ⟨sa, sb, xs, sr⟩ = (⟨0, 0, 0, 0, .zero⟩, 240) from if_pos hbad]
    show Value.tuple #[.agg (Pck.cs ⟨0, 0, 0, 0, .zero⟩).toArray, .int .i64 (if rcvBad sa sb xs sr = true then 240 else 0)] = Value.tuple #[.agg (Pck.cs ⟨0, 0, 0, 0, .zero⟩).toArray, .int .i64 240]
    rw [if_pos hbad]
  · have hbad : rcvBad sa sb xs sr = false := by cases h : rcvBad sa sb xs sr <;> simp_all
    refine wp_skip ?_
    refine th_n ?_
    refine rg ?_
    refine st F H rfl rfl rfl (y_fa Try.underlying32 rfl Try.sizeOf28 rfl) ?_; (try clear F a); intro a F
    refine st F H rfl rfl rfl (y_ld1 (key := 1) rfl rfl Try.isAgg28 rfl) ?_; (try clear F a); intro a F
    refine st F H rfl rfl rfl (y_sub rfl rfl) ?_; (try clear F a); intro a F
    refine st F H rfl rfl rfl (y_fa Try.underlying32 rfl Try.sizeOf3 rfl) ?_; (try clear F a); intro a F
    refine st F H rfl rfl rfl (y_ld1 (key := 1) rfl rfl Try.isAgg3 rfl) ?_; (try clear F a); intro a F
    refine st F H rfl rfl rfl (y_fa Try.underlying32 rfl Try.sizeOf24 rfl) ?_; (try clear F a); intro a F
    refine st F H rfl rfl rfl (y_ld1 (key := 1) rfl rfl Try.isAgg24 rfl) ?_; (try clear F a); intro a F
    refine st F H rfl rfl rfl (y_len Try.underlying24 rfl) ?_; (try clear F a); intro a F
    refine st F H rfl rfl rfl (y_sub rfl rfl) ?_; (try clear F a); intro a F
    refine st F H rfl rfl rfl (y_cvi Try.underlying3 Try.underlying28 rfl) ?_; (try clear F a); intro a F
    refine st F H rfl rfl rfl (y_add rfl rfl) ?_; (try clear F a); intro a F
    refine st F H rfl rfl rfl (y_as rfl) ?_; (try clear F a); intro a F
    refine wpList_nil ?_
    refine rg ?_
    refine st F H rfl rfl rfl (y_fa Try.underlying32 rfl Try.sizeOf27 rfl) ?_; (try clear F a); intro a F
    refine st F H rfl rfl rfl (y_ld1 (key := 1) rfl rfl Try.isAgg27 rfl) ?_; (try clear F a); intro a F
    refine st F H rfl rfl rfl (y_fa Try.underlying32 rfl Try.sizeOf28 rfl) ?_; (try clear F a); intro a F
    refine st F H rfl rfl rfl (y_ld1 (key := 1) rfl rfl Try.isAgg28 rfl) ?_; (try clear F a); intro a F
    refine st F H rfl rfl rfl (y_mv rfl) ?_; (try clear F a); intro a F
    refine st F H rfl rfl rfl (y_min rfl rfl) ?_; (try clear F a); intro a F
    refine st F H rfl rfl rfl (y_build Try.zeroValue114 Try.underlying114 pl114 rfl (.cons rfl (.cons rfl (.cons rfl (.cons rfl .nil)))) rfl) ?_; (try clear F a); intro a F
    refine s_st (key := 2) F H rfl rfl rfl rfl Try.sizeOf114 rfl rfl rfl ?_; (try clear F H a); try clear w
    intro a w F H
    refine st F H rfl rfl rfl (y_as rfl) ?_; (try clear F a); intro a F
    refine wpList_nil ?_
    refine wp_ret (ret2 F H rfl (rva (key := 2) rfl rfl Try.isAgg114 Try.sizeOf114 rfl) (rv rfl) ⟨_, rfl, H.b0, ?_⟩)
    (try clear F H a)
    rw [show ackV ⟨sa, sb, xs, sr⟩ = (⟨2, sa, sb, if 4611686018427387904 < ackL ⟨sa, sb, xs, sr⟩ then 4611686018427387904 else ackL ⟨sa, sb, xs, sr⟩, .zero⟩, 0) from if_neg (ntrue hbad)]
    rfl
end Go.Proofs.Ytilakloilkkfmaa
