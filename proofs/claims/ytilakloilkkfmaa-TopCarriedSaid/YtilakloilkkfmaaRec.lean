/-
  record: which records and elements may be.
-/
import Derived.Test.YtilakloilkkfmaaStrEq
namespace Go.Proofs.Ytilakloilkkfmaa
open Go Go.Sx
set_option maxRecDepth 10000

def badRec (s k : Int) : Bool := ((decide (s < 0) || decide (8 ≤ s)) || decide (k < 0)) || decide (32 ≤ k)
theorem recCheck_c (s k v : Int) (w : World) : CallsTo Try.prog 58 [.agg #[.int .i64 s, .int .i64 k, .int .i64 v]] w [] fun u _ => u = .int .i64 (if badRec s k = true then 150 else 0) := by
  refine enter (m := 21) Try.func58 rfl rfl rfl ?_; intro a F
  have H := Hp.start w []
  refine rg ?_
  refine s_box 1 F H rfl rfl rfl ?_; intro g1; (try clear F H a); try clear w
  intro a w F H
  refine st F H rfl rfl rfl (y_as rfl) ?_; (try clear F a); intro a F
  refine wpList_nil ?_
  refine wp_seq ?_
  refine rg ?_
  refine st F H rfl rfl rfl (y_fa Try.underlying45 rfl Try.sizeOf3 rfl) ?_; (try clear F a); intro a F
  refine st F H rfl rfl rfl (y_ld1 (key := 1) rfl rfl Try.isAgg3 rfl) ?_; (try clear F a); intro a F
  refine st F H rfl rfl rfl (y_lt rfl rfl) ?_; (try clear F a); intro a F
  refine st F H rfl rfl rfl (y_mv rfl) ?_; (try clear F a); intro a F
  refine gor 3 F H rfl .no rfl rfl rfl rfl (fun hb1_3 K1 hK1 => by
      refine gt F rfl rfl rfl rfl hb1_3 ?_
      refine st F H rfl rfl rfl (y_fa Try.underlying45 rfl Try.sizeOf3 rfl) ?_; (try clear F a); intro a F
      refine gt F rfl rfl rfl rfl hb1_3 ?_
      refine st F H rfl rfl rfl (y_ld1 (key := 1) rfl rfl Try.isAgg3 rfl) ?_; (try clear F a); intro a F
      refine gt F rfl rfl rfl rfl hb1_3 ?_
      refine st F H rfl rfl rfl (y_ge rfl rfl) ?_; (try clear F a); intro a F
      exact nl (hK1 _ _ _ F rfl H)) ?_
  (try clear F H a); try clear w
  intro a w F H
  refine st F H rfl rfl rfl (y_mv rfl) ?_; (try clear F a); intro a F
  refine gor 3 F H rfl .no rfl rfl rfl rfl (fun hb1_8 K2 hK2 => by
      refine gt F rfl rfl rfl rfl hb1_8 ?_
      refine st F H rfl rfl rfl (y_fa Try.underlying45 rfl Try.sizeOf3 rfl) ?_; (try clear F a); intro a F
      refine gt F rfl rfl rfl rfl hb1_8 ?_
      refine st F H rfl rfl rfl (y_ld1 (key := 1) rfl rfl Try.isAgg3 rfl) ?_; (try clear F a); intro a F
      refine gt F rfl rfl rfl rfl hb1_8 ?_
      refine st F H rfl rfl rfl (y_lt rfl rfl) ?_; (try clear F a); intro a F
      exact nl (hK2 _ _ _ F rfl H)) ?_
  (try clear F H a); try clear w
  intro a w F H
  refine st F H rfl rfl rfl (y_mv rfl) ?_; (try clear F a); intro a F
  refine gor 3 F H rfl .no rfl rfl rfl rfl (fun hb1_13 K3 hK3 => by
      refine gt F rfl rfl rfl rfl hb1_13 ?_
      refine st F H rfl rfl rfl (y_fa Try.underlying45 rfl Try.sizeOf3 rfl) ?_; (try clear F a); intro a F
      refine gt F rfl rfl rfl rfl hb1_13 ?_
      refine st F H rfl rfl rfl (y_ld1 (key := 1) rfl rfl Try.isAgg3 rfl) ?_; (try clear F a); intro a F
      refine gt F rfl rfl rfl rfl hb1_13 ?_
      refine st F H rfl rfl rfl (y_ge rfl rfl) ?_; (try clear F a); intro a F
      exact nl (hK3 _ _ _ F rfl H)) ?_
  (try clear F H a); try clear w
  intro a w F H
  refine wpList_nil ?_
  refine cn F rfl (fun h1 => ?_) (fun h1 => ?_)
  · refine rg ?_
    refine st F H rfl rfl rfl (y_as rfl) ?_; (try clear F a); intro a F
    refine wpList_nil ?_
    refine wp_ret (th_r (ret1 F H rfl (rv rfl) ⟨_, rfl, H.b0, ?_⟩))
    (try clear F H a)
    rw [if_pos (show badRec s k = true from h1)]
  · refine wp_skip ?_
    refine th_n ?_
    refine rg ?_
    refine st F H rfl rfl rfl (y_as rfl) ?_; (try clear F a); intro a F
    refine wpList_nil ?_
    refine wp_ret (ret1 F H rfl (rv rfl) ⟨_, rfl, H.b0, ?_⟩)
    (try clear F H a)
    rw [if_neg (by show ¬ (badRec s k = true); rw [show badRec s k = false from h1]; decide)]
theorem recNumber_c (x : Int) (w : World) : CallsTo Try.prog 174 [.int .u64 x] w [] fun v _ => v = .bool (decide (1 ≤ x) && decide (x ≤ 4611686018427387904)) := by
  refine enter (m := 9) Try.func174 rfl rfl rfl ?_; intro a F
  have H := Hp.start w []
  refine rg ?_
  refine st F H rfl rfl rfl (y_as rfl) ?_; (try clear F a); intro a F
  refine wpList_nil ?_
  refine rg ?_
  refine st F H rfl rfl rfl (y_mv rfl) ?_; (try clear F a); intro a F
  refine st F H rfl rfl rfl (y_ge rfl rfl) ?_; (try clear F a); intro a F
  refine st F H rfl rfl rfl (y_mv rfl) ?_; (try clear F a); intro a F
  refine gand 2 F H rfl .no rfl rfl rfl rfl (fun hb1_2 K1 hK1 => by
      refine gt F rfl rfl rfl rfl hb1_2 ?_
      refine st F H rfl rfl rfl (y_mv rfl) ?_; (try clear F a); intro a F
      refine gt F rfl rfl rfl rfl hb1_2 ?_
      refine st F H rfl rfl rfl (y_le rfl rfl) ?_; (try clear F a); intro a F
      exact nl (hK1 _ _ _ F rfl H)) ?_
  (try clear F H a); try clear w
  intro a w F H
  refine st F H rfl rfl rfl (y_as rfl) ?_; (try clear F a); intro a F
  refine wpList_nil ?_
  refine wp_ret (ret1 F H rfl (rv rfl) ⟨_, rfl, H.b0, ?_⟩)
  (try clear F H a)
  rfl
/-- may an element be? -/
def elemOK (k s y v m : Int) : Bool :=
  if k = 1 then !badRec s y && m == 0
  else if k = 2 ∨ k = 4 then (decide (1 ≤ m) && decide (m ≤ 4611686018427387904)) && (s == 0 && y == 0 && v == 0)
  else if k = 3 then (s == 0 && y == 0 && v == 0) && m == 0
  else false
theorem checkElem_c (k s y v m : Int) (w : World) : CallsTo Try.prog 92 [.agg #[.int .i64 k, .int .i64 s, .int .i64 y, .int .i64 v, .int .u64 m]] w [] fun u _ => u = .int .i64 (if elemOK k s y v m = true then 0 else 151) := by
  refine enter (m := 34) Try.func92 rfl rfl rfl ?_; intro a F
  have H := Hp.start w []
  refine rg ?_
  refine s_box 1 F H rfl rfl rfl ?_; intro g1; (try clear F H a); try clear w
  intro a w F H
  refine st F H rfl rfl rfl (y_as rfl) ?_; (try clear F a); intro a F
  refine wpList_nil ?_
  refine rg ?_
  refine st F H rfl rfl rfl (y_ld (key := 1) rfl rfl Try.isAgg47 Try.sizeOf47 rfl) ?_; (try clear F a); intro a F
  refine s_alloc 3 F H rfl Try.zeroValue47 rfl ?_; intro g3; (try clear F H a); try clear w
  intro a w F H
  refine s_st (key := 3) F H rfl rfl rfl rfl Try.sizeOf47 rfl rfl rfl ?_; (try clear F H a); try clear w
  intro a w F H
  refine wpList_nil ?_
  refine rg ?_
  refine st F H rfl rfl rfl (y_as rfl) ?_; (try clear F a); intro a F
  refine wpList_nil ?_
  refine wp_seq ?_
  refine rg ?_
  refine st F H rfl rfl rfl (y_fa Try.underlying47 rfl Try.sizeOf3 rfl) ?_; (try clear F a); intro a F
  refine st F H rfl rfl rfl (y_ld1 (key := 1) rfl rfl Try.isAgg3 rfl) ?_; (try clear F a); intro a F
  refine wpList_nil ?_
  refine wp_block ?_
  refine rg ?_
  refine st F H rfl rfl rfl (y_eq rfl rfl) ?_; (try clear F a); intro a F
  refine st F H rfl rfl rfl (y_as rfl) ?_; (try clear F a); intro a F
  refine wpList_nil ?_
  refine cn F rfl (fun h4 => ?_) (fun h4 => ?_)
  · refine rg ?_
    refine st F H rfl rfl rfl (y_build Try.zeroValue45 Try.underlying45 pl45 rfl .nil rfl) ?_; (try clear F a); intro a F
    refine st F H rfl rfl rfl (y_fa Try.underlying47 rfl Try.sizeOf45 rfl) ?_; (try clear F a); intro a F
    refine s_st (key := 3) F H rfl rfl rfl rfl Try.sizeOf45 rfl rfl rfl ?_; (try clear F H a); try clear w
    intro a w F H
    refine wpList_nil ?_
    refine rg1 ?_
    refine st F H rfl rfl rfl (y_fa Try.underlying47 rfl Try.sizeOf45 rfl) ?_; (try clear F a); intro a F
    refine st F H rfl rfl rfl (y_ld (key := 1) rfl rfl Try.isAgg45 Try.sizeOf45 rfl) ?_; (try clear F a); intro a F
    refine s_callV F H rfl rfl (.cons rfl .nil) Try.call58 (recCheck_c _ _ _ _) ?_; (try clear F H a); try clear w
    intro a w F H
    refine st F H rfl rfl rfl (y_eq rfl rfl) ?_; (try clear F a); intro a F
    refine st F H rfl rfl rfl (y_as rfl) ?_; (try clear F a); intro a F
    refine wpList_nil ?_
    refine ib_n ?_
    refine th_n ?_
    refine wp_seq ?_
    refine rg ?_
    refine st F H rfl rfl rfl (y_mv rfl) ?_; (try clear F a); intro a F
    refine st F H rfl rfl rfl (y_not rfl) ?_; (try clear F a); intro a F
    refine st F H rfl rfl rfl (y_mv rfl) ?_; (try clear F a); intro a F
    refine gor 5 F H rfl .no rfl rfl rfl rfl (fun hb13_2 K1 hK1 => by
        refine gt F rfl rfl rfl rfl hb13_2 ?_
        refine st F H rfl rfl rfl (y_ld (key := 3) rfl rfl Try.isAgg47 Try.sizeOf47 rfl) ?_; (try clear F a); intro a F
        refine gt F rfl rfl rfl rfl hb13_2 ?_
        refine st F H rfl rfl rfl (y_fa Try.underlying47 rfl Try.sizeOf3 rfl) ?_; (try clear F a); intro a F
        refine gt F rfl rfl rfl rfl hb13_2 ?_
        refine st F H rfl rfl rfl (y_ld1 (key := 1) rfl rfl Try.isAgg3 rfl) ?_; (try clear F a); intro a F
        refine gt F rfl rfl rfl rfl hb13_2 ?_
        refine st F H rfl rfl rfl (y_build Try.zeroValue47 Try.underlying47 pl47 rfl (.cons rfl .nil) rfl) ?_; (try clear F a); intro a F
        refine gt F rfl rfl rfl rfl hb13_2 ?_
        refine st F H rfl rfl rfl (y_neq_t47 rfl rfl) ?_; (try clear F a); intro a F
        exact nl (hK1 _ _ _ F rfl H)) ?_
    (try clear F H a); try clear w
    intro a w F H
    refine wpList_nil ?_
    refine cn F rfl (fun h13 => ?_) (fun h13 => ?_)
    · refine rg ?_
      refine st F H rfl rfl rfl (y_as rfl) ?_; (try clear F a); intro a F
      refine wpList_nil ?_
      refine wp_ret (th_r (ret1 F H rfl (rv rfl) ⟨_, rfl, H.b0, ?_⟩))
      (try clear F H a)
      unfold elemOK; cases hbr : badRec s y <;> simp_all <;> omega
    · refine wp_skip ?_
      refine th_n ?_
      refine rg ?_
      refine st F H rfl rfl rfl (y_as rfl) ?_; (try clear F a); intro a F
      refine wpList_nil ?_
      refine wp_ret (ret1 F H rfl (rv rfl) ⟨_, rfl, H.b0, ?_⟩)
      (try clear F H a)
      unfold elemOK; cases hbr : badRec s y <;> simp_all <;> omega
  · refine wp_seq ?_
    refine rg ?_
    refine st F H rfl rfl rfl (y_eq rfl rfl) ?_; (try clear F a); intro a F
    refine st F H rfl rfl rfl (y_as rfl) ?_; (try clear F a); intro a F
    refine wpList_nil ?_
    refine cn F rfl (fun h7 => ?_) (fun h7 => ?_)
    · refine wp_skip ?_
      refine th_n ?_
      refine cn F rfl (fun h7 => ?_) (fun h7 => ?_)
      · refine rg ?_
        refine st F H rfl rfl rfl (y_fa Try.underlying47 rfl Try.sizeOf28 rfl) ?_; (try clear F a); intro a F
        refine s_st (key := 3) F H rfl rfl rfl rfl Try.sizeOf28 rfl rfl rfl ?_; (try clear F H a); try clear w
        intro a w F H
        refine wpList_nil ?_
        refine rg1 ?_
        refine st F H rfl rfl rfl (y_fa Try.underlying47 rfl Try.sizeOf28 rfl) ?_; (try clear F a); intro a F
        refine st F H rfl rfl rfl (y_ld1 (key := 1) rfl rfl Try.isAgg28 rfl) ?_; (try clear F a); intro a F
        refine s_callV F H rfl rfl (.cons rfl .nil) Try.call174 (recNumber_c _ _) ?_; (try clear F H a); try clear w
        intro a w F H
        refine st F H rfl rfl rfl (y_as rfl) ?_; (try clear F a); intro a F
        refine wpList_nil ?_
        refine ib_n ?_
        refine th_n ?_
        refine wp_seq ?_
        refine rg ?_
        refine st F H rfl rfl rfl (y_mv rfl) ?_; (try clear F a); intro a F
        refine st F H rfl rfl rfl (y_not rfl) ?_; (try clear F a); intro a F
        refine st F H rfl rfl rfl (y_mv rfl) ?_; (try clear F a); intro a F
        refine gor 5 F H rfl .no rfl rfl rfl rfl (fun hb13_2 K2 hK2 => by
            refine gt F rfl rfl rfl rfl hb13_2 ?_
            refine st F H rfl rfl rfl (y_ld (key := 3) rfl rfl Try.isAgg47 Try.sizeOf47 rfl) ?_; (try clear F a); intro a F
            refine gt F rfl rfl rfl rfl hb13_2 ?_
            refine st F H rfl rfl rfl (y_fa Try.underlying47 rfl Try.sizeOf3 rfl) ?_; (try clear F a); intro a F
            refine gt F rfl rfl rfl rfl hb13_2 ?_
            refine st F H rfl rfl rfl (y_ld1 (key := 1) rfl rfl Try.isAgg3 rfl) ?_; (try clear F a); intro a F
            refine gt F rfl rfl rfl rfl hb13_2 ?_
            refine st F H rfl rfl rfl (y_build Try.zeroValue47 Try.underlying47 pl47 rfl (.cons rfl .nil) rfl) ?_; (try clear F a); intro a F
            refine gt F rfl rfl rfl rfl hb13_2 ?_
            refine st F H rfl rfl rfl (y_neq_t47 rfl rfl) ?_; (try clear F a); intro a F
            exact nl (hK2 _ _ _ F rfl H)) ?_
        (try clear F H a); try clear w
        intro a w F H
        refine wpList_nil ?_
        refine cn F rfl (fun h13 => ?_) (fun h13 => ?_)
        · refine rg ?_
          refine st F H rfl rfl rfl (y_as rfl) ?_; (try clear F a); intro a F
          refine wpList_nil ?_
          refine wp_ret (th_r (ret1 F H rfl (rv rfl) ⟨_, rfl, H.b0, ?_⟩))
          (try clear F H a)
          unfold elemOK; cases hbr : badRec s y <;> simp_all <;> omega
        · refine wp_skip ?_
          refine th_n ?_
          refine rg ?_
          refine st F H rfl rfl rfl (y_as rfl) ?_; (try clear F a); intro a F
          refine wpList_nil ?_
          refine wp_ret (ret1 F H rfl (rv rfl) ⟨_, rfl, H.b0, ?_⟩)
          (try clear F H a)
          unfold elemOK; cases hbr : badRec s y <;> simp_all <;> omega
      · refine rg ?_
        refine st F H rfl rfl rfl (y_eq rfl rfl) ?_; (try clear F a); intro a F
        refine st F H rfl rfl rfl (y_as rfl) ?_; (try clear F a); intro a F
        refine wpList_nil ?_
        refine cn F rfl (fun h11 => ?_) (fun h11 => ?_)
        · refine rg1 ?_
          refine st F H rfl rfl rfl (y_as rfl) ?_; (try clear F a); intro a F
          refine wpList_nil ?_
          refine ib_n ?_
          refine th_n ?_
          refine wp_seq ?_
          refine rg ?_
          refine st F H rfl rfl rfl (y_mv rfl) ?_; (try clear F a); intro a F
          refine st F H rfl rfl rfl (y_not rfl) ?_; (try clear F a); intro a F
          refine st F H rfl rfl rfl (y_mv rfl) ?_; (try clear F a); intro a F
          refine gor 5 F H rfl .no rfl rfl rfl rfl (fun hb13_2 K3 hK3 => by
              refine gt F rfl rfl rfl rfl hb13_2 ?_
              refine st F H rfl rfl rfl (y_ld (key := 3) rfl rfl Try.isAgg47 Try.sizeOf47 rfl) ?_; (try clear F a); intro a F
              refine gt F rfl rfl rfl rfl hb13_2 ?_
              refine st F H rfl rfl rfl (y_fa Try.underlying47 rfl Try.sizeOf3 rfl) ?_; (try clear F a); intro a F
              refine gt F rfl rfl rfl rfl hb13_2 ?_
              refine st F H rfl rfl rfl (y_ld1 (key := 1) rfl rfl Try.isAgg3 rfl) ?_; (try clear F a); intro a F
              refine gt F rfl rfl rfl rfl hb13_2 ?_
              refine st F H rfl rfl rfl (y_build Try.zeroValue47 Try.underlying47 pl47 rfl (.cons rfl .nil) rfl) ?_; (try clear F a); intro a F
              refine gt F rfl rfl rfl rfl hb13_2 ?_
              refine st F H rfl rfl rfl (y_neq_t47 rfl rfl) ?_; (try clear F a); intro a F
              exact nl (hK3 _ _ _ F rfl H)) ?_
          (try clear F H a); try clear w
          intro a w F H
          refine wpList_nil ?_
          refine cn F rfl (fun h13 => ?_) (fun h13 => ?_)
          · refine rg ?_
            refine st F H rfl rfl rfl (y_as rfl) ?_; (try clear F a); intro a F
            refine wpList_nil ?_
            refine wp_ret (th_r (ret1 F H rfl (rv rfl) ⟨_, rfl, H.b0, ?_⟩))
            (try clear F H a)
            unfold elemOK; cases hbr : badRec s y <;> simp_all <;> omega
          · refine wp_skip ?_
            refine th_n ?_
            refine rg ?_
            refine st F H rfl rfl rfl (y_as rfl) ?_; (try clear F a); intro a F
            refine wpList_nil ?_
            refine wp_ret (ret1 F H rfl (rv rfl) ⟨_, rfl, H.b0, ?_⟩)
            (try clear F H a)
            unfold elemOK; cases hbr : badRec s y <;> simp_all <;> omega
        · refine wp_skip ?_
          refine ib_n ?_
          refine th_n ?_
          refine wp_seq ?_
          refine rg ?_
          refine st F H rfl rfl rfl (y_mv rfl) ?_; (try clear F a); intro a F
          refine st F H rfl rfl rfl (y_not rfl) ?_; (try clear F a); intro a F
          refine st F H rfl rfl rfl (y_mv rfl) ?_; (try clear F a); intro a F
          refine gor 5 F H rfl .no rfl rfl rfl rfl (fun hb13_2 K4 hK4 => by
              refine gt F rfl rfl rfl rfl hb13_2 ?_
              refine st F H rfl rfl rfl (y_ld (key := 3) rfl rfl Try.isAgg47 Try.sizeOf47 rfl) ?_; (try clear F a); intro a F
              refine gt F rfl rfl rfl rfl hb13_2 ?_
              refine st F H rfl rfl rfl (y_fa Try.underlying47 rfl Try.sizeOf3 rfl) ?_; (try clear F a); intro a F
              refine gt F rfl rfl rfl rfl hb13_2 ?_
              refine st F H rfl rfl rfl (y_ld1 (key := 1) rfl rfl Try.isAgg3 rfl) ?_; (try clear F a); intro a F
              refine gt F rfl rfl rfl rfl hb13_2 ?_
              refine st F H rfl rfl rfl (y_build Try.zeroValue47 Try.underlying47 pl47 rfl (.cons rfl .nil) rfl) ?_; (try clear F a); intro a F
              refine gt F rfl rfl rfl rfl hb13_2 ?_
              refine st F H rfl rfl rfl (y_neq_t47 rfl rfl) ?_; (try clear F a); intro a F
              exact nl (hK4 _ _ _ F rfl H)) ?_
          (try clear F H a); try clear w
          intro a w F H
          refine wpList_nil ?_
          refine cn F rfl (fun h13 => ?_) (fun h13 => ?_)
          · refine rg ?_
            refine st F H rfl rfl rfl (y_as rfl) ?_; (try clear F a); intro a F
            refine wpList_nil ?_
            refine wp_ret (th_r (ret1 F H rfl (rv rfl) ⟨_, rfl, H.b0, ?_⟩))
            (try clear F H a)
            unfold elemOK; cases hbr : badRec s y <;> simp_all <;> omega
          · refine wp_skip ?_
            refine th_n ?_
            refine rg ?_
            refine st F H rfl rfl rfl (y_as rfl) ?_; (try clear F a); intro a F
            refine wpList_nil ?_
            refine wp_ret (ret1 F H rfl (rv rfl) ⟨_, rfl, H.b0, ?_⟩)
            (try clear F H a)
            unfold elemOK; cases hbr : badRec s y <;> simp_all <;> omega
    · refine rg1 ?_
      refine st F H rfl rfl rfl (y_eq rfl rfl) ?_; (try clear F a); intro a F
      refine st F H rfl rfl rfl (y_as rfl) ?_; (try clear F a); intro a F
      refine wpList_nil ?_
      refine th_n ?_
      refine cn F rfl (fun h8 => ?_) (fun h8 => ?_)
      · refine rg ?_
        refine st F H rfl rfl rfl (y_fa Try.underlying47 rfl Try.sizeOf28 rfl) ?_; (try clear F a); intro a F
        refine s_st (key := 3) F H rfl rfl rfl rfl Try.sizeOf28 rfl rfl rfl ?_; (try clear F H a); try clear w
        intro a w F H
        refine wpList_nil ?_
        refine rg1 ?_
        refine st F H rfl rfl rfl (y_fa Try.underlying47 rfl Try.sizeOf28 rfl) ?_; (try clear F a); intro a F
        refine st F H rfl rfl rfl (y_ld1 (key := 1) rfl rfl Try.isAgg28 rfl) ?_; (try clear F a); intro a F
        refine s_callV F H rfl rfl (.cons rfl .nil) Try.call174 (recNumber_c _ _) ?_; (try clear F H a); try clear w
        intro a w F H
        refine st F H rfl rfl rfl (y_as rfl) ?_; (try clear F a); intro a F
        refine wpList_nil ?_
        refine ib_n ?_
        refine th_n ?_
        refine wp_seq ?_
        refine rg ?_
        refine st F H rfl rfl rfl (y_mv rfl) ?_; (try clear F a); intro a F
        refine st F H rfl rfl rfl (y_not rfl) ?_; (try clear F a); intro a F
        refine st F H rfl rfl rfl (y_mv rfl) ?_; (try clear F a); intro a F
        refine gor 5 F H rfl .no rfl rfl rfl rfl (fun hb13_2 K5 hK5 => by
            refine gt F rfl rfl rfl rfl hb13_2 ?_
            refine st F H rfl rfl rfl (y_ld (key := 3) rfl rfl Try.isAgg47 Try.sizeOf47 rfl) ?_; (try clear F a); intro a F
            refine gt F rfl rfl rfl rfl hb13_2 ?_
            refine st F H rfl rfl rfl (y_fa Try.underlying47 rfl Try.sizeOf3 rfl) ?_; (try clear F a); intro a F
            refine gt F rfl rfl rfl rfl hb13_2 ?_
            refine st F H rfl rfl rfl (y_ld1 (key := 1) rfl rfl Try.isAgg3 rfl) ?_; (try clear F a); intro a F
            refine gt F rfl rfl rfl rfl hb13_2 ?_
            refine st F H rfl rfl rfl (y_build Try.zeroValue47 Try.underlying47 pl47 rfl (.cons rfl .nil) rfl) ?_; (try clear F a); intro a F
            refine gt F rfl rfl rfl rfl hb13_2 ?_
            refine st F H rfl rfl rfl (y_neq_t47 rfl rfl) ?_; (try clear F a); intro a F
            exact nl (hK5 _ _ _ F rfl H)) ?_
        (try clear F H a); try clear w
        intro a w F H
        refine wpList_nil ?_
        refine cn F rfl (fun h13 => ?_) (fun h13 => ?_)
        · refine rg ?_
          refine st F H rfl rfl rfl (y_as rfl) ?_; (try clear F a); intro a F
          refine wpList_nil ?_
          refine wp_ret (th_r (ret1 F H rfl (rv rfl) ⟨_, rfl, H.b0, ?_⟩))
          (try clear F H a)
          unfold elemOK; cases hbr : badRec s y <;> simp_all <;> omega
        · refine wp_skip ?_
          refine th_n ?_
          refine rg ?_
          refine st F H rfl rfl rfl (y_as rfl) ?_; (try clear F a); intro a F
          refine wpList_nil ?_
          refine wp_ret (ret1 F H rfl (rv rfl) ⟨_, rfl, H.b0, ?_⟩)
          (try clear F H a)
          unfold elemOK; cases hbr : badRec s y <;> simp_all <;> omega
      · refine rg ?_
        refine st F H rfl rfl rfl (y_eq rfl rfl) ?_; (try clear F a); intro a F
        refine st F H rfl rfl rfl (y_as rfl) ?_; (try clear F a); intro a F
        refine wpList_nil ?_
        refine cn F rfl (fun h11 => ?_) (fun h11 => ?_)
        · refine rg1 ?_
          refine st F H rfl rfl rfl (y_as rfl) ?_; (try clear F a); intro a F
          refine wpList_nil ?_
          refine ib_n ?_
          refine th_n ?_
          refine wp_seq ?_
          refine rg ?_
          refine st F H rfl rfl rfl (y_mv rfl) ?_; (try clear F a); intro a F
          refine st F H rfl rfl rfl (y_not rfl) ?_; (try clear F a); intro a F
          refine st F H rfl rfl rfl (y_mv rfl) ?_; (try clear F a); intro a F
          refine gor 5 F H rfl .no rfl rfl rfl rfl (fun hb13_2 K6 hK6 => by
              refine gt F rfl rfl rfl rfl hb13_2 ?_
              refine st F H rfl rfl rfl (y_ld (key := 3) rfl rfl Try.isAgg47 Try.sizeOf47 rfl) ?_; (try clear F a); intro a F
              refine gt F rfl rfl rfl rfl hb13_2 ?_
              refine st F H rfl rfl rfl (y_fa Try.underlying47 rfl Try.sizeOf3 rfl) ?_; (try clear F a); intro a F
              refine gt F rfl rfl rfl rfl hb13_2 ?_
              refine st F H rfl rfl rfl (y_ld1 (key := 1) rfl rfl Try.isAgg3 rfl) ?_; (try clear F a); intro a F
              refine gt F rfl rfl rfl rfl hb13_2 ?_
              refine st F H rfl rfl rfl (y_build Try.zeroValue47 Try.underlying47 pl47 rfl (.cons rfl .nil) rfl) ?_; (try clear F a); intro a F
              refine gt F rfl rfl rfl rfl hb13_2 ?_
              refine st F H rfl rfl rfl (y_neq_t47 rfl rfl) ?_; (try clear F a); intro a F
              exact nl (hK6 _ _ _ F rfl H)) ?_
          (try clear F H a); try clear w
          intro a w F H
          refine wpList_nil ?_
          refine cn F rfl (fun h13 => ?_) (fun h13 => ?_)
          · refine rg ?_
            refine st F H rfl rfl rfl (y_as rfl) ?_; (try clear F a); intro a F
            refine wpList_nil ?_
            refine wp_ret (th_r (ret1 F H rfl (rv rfl) ⟨_, rfl, H.b0, ?_⟩))
            (try clear F H a)
            unfold elemOK; cases hbr : badRec s y <;> simp_all <;> omega
          · refine wp_skip ?_
            refine th_n ?_
            refine rg ?_
            refine st F H rfl rfl rfl (y_as rfl) ?_; (try clear F a); intro a F
            refine wpList_nil ?_
            refine wp_ret (ret1 F H rfl (rv rfl) ⟨_, rfl, H.b0, ?_⟩)
            (try clear F H a)
            unfold elemOK; cases hbr : badRec s y <;> simp_all <;> omega
        · refine wp_skip ?_
          refine ib_n ?_
          refine th_n ?_
          refine wp_seq ?_
          refine rg ?_
          refine st F H rfl rfl rfl (y_mv rfl) ?_; (try clear F a); intro a F
          refine st F H rfl rfl rfl (y_not rfl) ?_; (try clear F a); intro a F
          refine st F H rfl rfl rfl (y_mv rfl) ?_; (try clear F a); intro a F
          refine gor 5 F H rfl .no rfl rfl rfl rfl (fun hb13_2 K7 hK7 => by
              refine gt F rfl rfl rfl rfl hb13_2 ?_
              refine st F H rfl rfl rfl (y_ld (key := 3) rfl rfl Try.isAgg47 Try.sizeOf47 rfl) ?_; (try clear F a); intro a F
              refine gt F rfl rfl rfl rfl hb13_2 ?_
              refine st F H rfl rfl rfl (y_fa Try.underlying47 rfl Try.sizeOf3 rfl) ?_; (try clear F a); intro a F
              refine gt F rfl rfl rfl rfl hb13_2 ?_
              refine st F H rfl rfl rfl (y_ld1 (key := 1) rfl rfl Try.isAgg3 rfl) ?_; (try clear F a); intro a F
              refine gt F rfl rfl rfl rfl hb13_2 ?_
              refine st F H rfl rfl rfl (y_build Try.zeroValue47 Try.underlying47 pl47 rfl (.cons rfl .nil) rfl) ?_; (try clear F a); intro a F
              refine gt F rfl rfl rfl rfl hb13_2 ?_
              refine st F H rfl rfl rfl (y_neq_t47 rfl rfl) ?_; (try clear F a); intro a F
              exact nl (hK7 _ _ _ F rfl H)) ?_
          (try clear F H a); try clear w
          intro a w F H
          refine wpList_nil ?_
          refine cn F rfl (fun h13 => ?_) (fun h13 => ?_)
          · refine rg ?_
            refine st F H rfl rfl rfl (y_as rfl) ?_; (try clear F a); intro a F
            refine wpList_nil ?_
            refine wp_ret (th_r (ret1 F H rfl (rv rfl) ⟨_, rfl, H.b0, ?_⟩))
            (try clear F H a)
            unfold elemOK; cases hbr : badRec s y <;> simp_all <;> omega
          · refine wp_skip ?_
            refine th_n ?_
            refine rg ?_
            refine st F H rfl rfl rfl (y_as rfl) ?_; (try clear F a); intro a F
            refine wpList_nil ?_
            refine wp_ret (ret1 F H rfl (rv rfl) ⟨_, rfl, H.b0, ?_⟩)
            (try clear F H a)
            unfold elemOK; cases hbr : badRec s y <;> simp_all <;> omega
end Go.Proofs.Ytilakloilkkfmaa
