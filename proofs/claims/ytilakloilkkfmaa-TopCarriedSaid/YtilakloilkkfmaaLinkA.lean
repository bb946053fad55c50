/-
  link: rows of elements, senders and receivers that may be.
-/
import Derived.Test.YtilakloilkkfmaaRec
import Derived.Test.YtilakloilkkfmaaSxRep
namespace Go.Proofs.Ytilakloilkkfmaa
open Go Go.Sx
set_option maxRecDepth 10000
-- @uses Rec

/-- an element -/
structure El where
  k : Int
  s : Int
  y : Int
  v : Int
  m : Int
  deriving DecidableEq, Inhabited
def El.cs (e : El) : List Value := [.int .i64 e.k, .int .i64 e.s, .int .i64 e.y, .int .i64 e.v, .int .u64 e.m]
theorem El.wid : Wid 5 El.cs := fun _ => rfl
def El.ok (e : El) : Bool := elemOK e.k e.s e.y e.v e.m
def lastE (xs : List El) : El := xs.getD (xs.length - 1) default
def endsB (xs : List El) : Bool := decide (0 < xs.length) && (lastE xs).k == 3
/-- a readable slice of elements -/
abbrev SlE (E : List Nat) (w : World) (ad : Option Addr) (n cap : Nat) (xs : List El) : Prop := Sl E w 5 El.cs ad n cap xs

theorem named_c (x : Int) (w : World) : CallsTo Try.prog 35 [.int .u32 x] w [] fun v _ => v = .bool (decide (1 ≤ x) && decide (x ≤ 2147483647)) := by
  refine enter (m := 9) Try.func35 rfl rfl rfl ?_; intro a F
  have H := Hp.start w []
  refine rg ?_
  refine st F H rfl rfl rfl (y_as rfl) ?_; (try clear F a); intro a F
  refine wpList_nil ?_
  refine rg ?_
  refine st F H rfl rfl rfl (y_mv rfl) ?_; (try clear F a); intro a F
  refine st F H rfl rfl rfl (y_ge rfl rfl) ?_; (try clear F a); intro a F
  refine st F H rfl rfl rfl (y_mv rfl) ?_; (try clear F a); intro a F
  refine gand 2 F H rfl .no rfl rfl rfl rfl (fun hb1_2 K1 hK1 => by
      refine gt F rfl rfl rfl rfl hb1_2 ?_
      refine st F H rfl rfl rfl (y_mv rfl) ?_; (try clear F a); intro a F
      refine gt F rfl rfl rfl rfl hb1_2 ?_
      refine st F H rfl rfl rfl (y_le rfl rfl) ?_; (try clear F a); intro a F
      exact nl (hK1 _ _ _ F rfl H)) ?_
  (try clear F H a); try clear w
  intro a w F H
  refine st F H rfl rfl rfl (y_as rfl) ?_; (try clear F a); intro a F
  refine wpList_nil ?_
  refine wp_ret (ret1 F H rfl (rv rfl) ⟨_, rfl, H.b0, ?_⟩)
  (try clear F H a)
  rfl
theorem behind_c (a b : Int) (ad : Option Addr) (n cap : Nat) (l : Int) (e : Bool) (w : World) : CallsTo Try.prog 93 [.agg #[.int .u32 a, .int .u64 b, .slice ad n cap, .int .u64 l, .bool e]] w [] fun v _ => v = .int .u64 (IntKind.u64.wrap (b + IntKind.u64.wrap n)) := by
  refine enter (m := 10) Try.func93 rfl rfl rfl ?_; intro a F
  have H := Hp.start w []
  refine rg ?_
  refine s_box 1 F H rfl rfl rfl ?_; intro g1; (try clear F H a); try clear w
  intro a w F H
  refine st F H rfl rfl rfl (y_as rfl) ?_; (try clear F a); intro a F
  refine wpList_nil ?_
  refine rg ?_
  refine st F H rfl rfl rfl (y_fa Try.underlying30 rfl Try.sizeOf28 rfl) ?_; (try clear F a); intro a F
  refine st F H rfl rfl rfl (y_ld1 (key := 1) rfl rfl Try.isAgg28 rfl) ?_; (try clear F a); intro a F
  refine st F H rfl rfl rfl (y_fa Try.underlying30 rfl Try.sizeOf24 rfl) ?_; (try clear F a); intro a F
  refine st F H rfl rfl rfl (y_ld1 (key := 1) rfl rfl Try.isAgg24 rfl) ?_; (try clear F a); intro a F
  refine st F H rfl rfl rfl (y_len Try.underlying24 rfl) ?_; (try clear F a); intro a F
  refine st F H rfl rfl rfl (y_cvi Try.underlying3 Try.underlying28 rfl) ?_; (try clear F a); intro a F
  refine st F H rfl rfl rfl (y_add rfl rfl) ?_; (try clear F a); intro a F
  refine st F H rfl rfl rfl (y_as rfl) ?_; (try clear F a); intro a F
  refine wpList_nil ?_
  refine wp_ret (ret1 F H rfl (rv rfl) ⟨_, rfl, H.b0, ?_⟩)
  (try clear F H a)
  rfl
theorem ends_c {E : List Nat} {w0 : World} {ad : Option Addr} {n cap : Nat} {xs : List El} (hs : SlE E w0 ad n cap xs) : CallsTo Try.prog 110 [.slice ad n cap] w0 [] fun v _ => v = .bool (endsB xs) := by
  obtain rfl := hs.len
  have hcm := hs.cm
  have hnc := hs.nc
  simp only [maxLen] at hcm
  refine enter (m := 16) Try.func110 rfl rfl rfl ?_; intro a F
  have H := Hp.start w0 []
  refine rg ?_
  refine st F H rfl rfl rfl (y_as rfl) ?_; (try clear F a); intro a F
  refine wpList_nil ?_
  refine rg ?_
  refine st F H rfl rfl rfl (y_mv rfl) ?_; (try clear F a); intro a F
  refine st F H rfl rfl rfl (y_len Try.underlying24 rfl) ?_; (try clear F a); intro a F
  refine st F H rfl rfl rfl (y_gt rfl rfl) ?_; (try clear F a); intro a F
  refine st F H rfl rfl rfl (y_mv rfl) ?_; (try clear F a); intro a F
  refine gand 8 F H rfl .no rfl rfl rfl rfl (fun hb1_3 K1 hK1 => by
      refine gt F rfl rfl rfl rfl hb1_3 ?_
      refine st F H rfl rfl rfl (y_mv rfl) ?_; (try clear F a); intro a F
      refine gt F rfl rfl rfl rfl hb1_3 ?_
      refine st F H rfl rfl rfl (y_mv rfl) ?_; (try clear F a); intro a F
      refine gt F rfl rfl rfl rfl hb1_3 ?_
      refine st F H rfl rfl rfl (y_len Try.underlying24 rfl) ?_; (try clear F a); intro a F
      refine gt F rfl rfl rfl rfl hb1_3 ?_
      refine st F H rfl rfl rfl (y_sub rfl rfl) ?_; (try clear F a); intro a F
      refine gt F rfl rfl rfl rfl hb1_3 ?_
      have hlt : 0 < xs.length := by simpa using hb1_3
      obtain ⟨g, o, had, hg⟩ := hs.addr hlt
      subst had
      have hl : xs[xs.length - 1]? = some (lastE xs) := by unfold lastE; rw [List.getD_eq_getElem?_getD, List.getElem?_eq_getElem (by omega)]; rfl
      refine st F H rfl rfl rfl (y_ix Try.underlying24 Try.sizeOf47 rfl rfl rfl (xs.length - 1) (by rw [wi64 (by omega)]; omega) (by omega)) ?_; (try clear F a); intro a F
      refine gt F rfl rfl rfl rfl hb1_3 ?_
      refine st F H rfl rfl rfl (y_fa Try.underlying47 rfl Try.sizeOf3 rfl) ?_; (try clear F a); intro a F
      refine gt F rfl rfl rfl rfl hb1_3 ?_
      refine st F H rfl rfl rfl (y_ld1a rfl Try.isAgg3 (fun w H => by have := (hs.old H.b0.nil).at hl 0 _ rfl; simpa using this)) ?_; (try clear F a); intro a F
      refine gt F rfl rfl rfl rfl hb1_3 ?_
      refine st F H rfl rfl rfl (y_eq rfl rfl) ?_; (try clear F a); intro a F
      exact nl (hK1 _ _ _ F rfl H)) ?_
  (try clear F H a); try clear w
  intro a w F H
  refine st F H rfl rfl rfl (y_as rfl) ?_; (try clear F a); intro a F
  refine wpList_nil ?_
  refine wp_ret (ret1 F H rfl (rv rfl) ⟨_, rfl, H.b0, ?_⟩)
  (try clear F H a)
  simp [endsB]
/-- the first k of a row are elements, none of them behind an end -/
def okTo (xs : List El) (k : Nat) : Bool := (List.range k).all fun i => (xs.getD i default).ok && !endsB (xs.take i)
theorem okTo_succ (xs : List El) (k : Nat) : okTo xs (k + 1) = (okTo xs k && ((xs.getD k default).ok && !endsB (xs.take k))) := by
  simp [okTo, List.range_succ]
theorem okTo_le (xs : List El) {j k : Nat} (h : j ≤ k) (hk : okTo xs k = true) : okTo xs j = true := by
  simp only [okTo, List.all_eq_true, List.mem_range] at hk ⊢
  exact fun i hi => hk i (by omega)
def rowB (xs : List El) (most : Int) : Bool := decide ((xs.length : Int) ≤ most) && okTo xs xs.length
theorem row_c {E : List Nat} {w0 : World} {ad : Option Addr} {n cap : Nat} {xs : List El} (most : Int) (hs : SlE E w0 ad n cap xs) : CallsTo Try.prog 99 [.slice ad n cap, .int .i64 most] w0 [] fun v _ => v = .bool (rowB xs most) := by
  obtain rfl := hs.len
  have hcm := hs.cm
  have hnc := hs.nc
  simp only [maxLen] at hcm
  refine enter (m := 28) Try.func99 rfl rfl rfl ?_; intro a F
  have H := Hp.start w0 []
  refine rg ?_
  refine st F H rfl rfl rfl (y_as rfl) ?_; (try clear F a); intro a F
  refine wpList_nil ?_
  refine wp_seq ?_
  refine rg ?_
  refine st F H rfl rfl rfl (y_mv rfl) ?_; (try clear F a); intro a F
  refine st F H rfl rfl rfl (y_len Try.underlying24 rfl) ?_; (try clear F a); intro a F
  refine st F H rfl rfl rfl (y_mv rfl) ?_; (try clear F a); intro a F
  refine st F H rfl rfl rfl (y_gt rfl rfl) ?_; (try clear F a); intro a F
  refine wpList_nil ?_
  refine cn F rfl (fun h1 => ?_) (fun h1 => ?_)
  · refine rg ?_
    refine st F H rfl rfl rfl (y_as rfl) ?_; (try clear F a); intro a F
    refine wpList_nil ?_
    refine wp_ret (th_r (ret1 F H rfl (rv rfl) ⟨_, rfl, H.b0, ?_⟩))
    (try clear F H a)
    have : ¬ ((xs.length : Int) ≤ most) := by simpa using h1
    simp only [rowB, decide_eq_false this, Bool.false_and]
  · refine wp_skip ?_
    refine th_n ?_
    refine wp_seq ?_
    refine rg ?_
    refine st F H rfl rfl rfl (y_mv rfl) ?_; (try clear F a); intro a F
    refine st F H rfl rfl rfl (y_len Try.underlying24 rfl) ?_; (try clear F a); intro a F
    refine st F H rfl rfl rfl (y_mv rfl) ?_; (try clear F a); intro a F
    refine wpList_nil ?_
    refine wp_block ?_
    refine lp (fun (k : Nat) a w => (k ≤ xs.length ∧ okTo xs k = true) ∧ Fr 28 [] [(0, .slice ad xs.length cap), (11, .slice ad xs.length cap), (12, .int .i64 xs.length), (13, .int .i64 k)] a ∧ Hp [] [⟨[], w0⟩] w) (fun k => xs.length - k) 0 ⟨⟨Nat.zero_le _, rfl⟩, F.cut ⟨rfl, rfl, rfl, rfl, trivial⟩, H⟩ (fun k a w hI => ?_)
    clear F H
    obtain ⟨⟨hk, hok⟩, F, H⟩ := hI
    refine rg ?_
    refine st F H rfl rfl rfl (y_lt rfl rfl) ?_; (try clear F a); intro a F
    refine wpList_nil ?_
    refine wp_seq ?_
    refine cn F rfl (fun h4 => ?_) (fun h4 => ?_)
    · refine wp_skip ?_
      refine th_n ?_
      refine wp_seq ?_
      refine wp_block ?_
      refine rg ?_
      refine st F H rfl rfl rfl (y_mv rfl) ?_; (try clear F a); intro a F
      have hlt : k < xs.length := by simpa using h4
      obtain ⟨g, o, had, hg⟩ := hs.addr (by omega)
      subst had
      have hx : xs[k]? = some (xs.getD k default) := by rw [List.getD_eq_getElem?_getD, List.getElem?_eq_getElem hlt]; rfl
      refine st F H rfl rfl rfl (y_ix Try.underlying24 Try.sizeOf47 rfl rfl rfl k rfl hlt) ?_; (try clear F a); intro a F
      refine st F H rfl rfl rfl (y_lda (vs := (xs.getD k default).cs) rfl Try.isAgg47 Try.sizeOf47 (fun w H => (hs.old H.b0.nil).at hx) rfl) ?_; (try clear F a); intro a F
      refine s_alloc 6 F H rfl Try.zeroValue47 rfl ?_; intro g6; (try clear F H a); try clear w
      intro a w F H
      refine st F H rfl rfl rfl (y_as rfl) ?_; (try clear F a); intro a F
      refine s_st (key := 6) F H rfl rfl rfl rfl Try.sizeOf47 rfl rfl rfl ?_; (try clear F H a); try clear w
      intro a w F H
      refine wpList_nil ?_
      refine rg ?_
      refine st F H rfl rfl rfl (y_ld (key := 6) rfl rfl Try.isAgg47 Try.sizeOf47 rfl) ?_; (try clear F a); intro a F
      refine s_callV F H rfl rfl (.cons rfl .nil) Try.call92 (checkElem_c _ _ _ _ _ _) ?_; (try clear F H a); try clear w
      intro a w F H
      refine st F H rfl rfl rfl (y_ne rfl rfl) ?_; (try clear F a); intro a F
      refine st F H rfl rfl rfl (y_mv rfl) ?_; (try clear F a); intro a F
      refine gor 4 F H rfl .no rfl rfl rfl rfl (fun hb6_3 K1 hK1 => by
          refine gt F rfl rfl rfl rfl hb6_3 ?_
          refine st F H rfl rfl rfl (y_mv rfl) ?_; (try clear F a); intro a F
          refine gt F rfl rfl rfl rfl hb6_3 ?_
          refine st F H rfl rfl rfl (y_mv rfl) ?_; (try clear F a); intro a F
          refine gt F rfl rfl rfl rfl hb6_3 ?_
          refine st F H rfl rfl rfl (y_slHi Try.underlying24 Try.sizeOf47 rfl rfl (by omega) (by omega)) ?_; (try clear F a); intro a F
          refine gt F rfl rfl rfl rfl hb6_3 ?_
          refine s_callV F H rfl rfl (.cons rfl .nil) Try.call110 (ends_c ((hs.old H.b0.nil).take k (by omega))) ?_; (try clear F H a); try clear w
          intro a w F H
          exact nl (hK1 _ _ _ F rfl H)) ?_
      (try clear F H a); try clear w
      intro a w F H
      refine wpList_nil ?_
      refine cn F rfl (fun h6 => ?_) (fun h6 => ?_)
      · refine rg ?_
        refine st F H rfl rfl rfl (y_as rfl) ?_; (try clear F a); intro a F
        refine wpList_nil ?_
        refine wp_ret (ib_r (th_r (th_r (ib_r (th_r (ret1 F H rfl (rv rfl) ⟨_, rfl, H.b0, ?_⟩))))))
        (try clear F H a)
        have e1 := okTo_succ xs k
        have hf : okTo xs (k + 1) = false := by
          rw [e1, hok]
          cases h1 : (xs.getD k default).ok <;> cases h2 : endsB (xs.take k) <;> first | rfl | (simp only [El.ok] at h1; simp [-List.getD_eq_getElem?_getD, h1, h2] at h6)
        have : okTo xs xs.length = false := by
          cases hh : okTo xs xs.length
          · rfl
          · rw [okTo_le xs (show k + 1 ≤ xs.length by omega) hh] at hf; cases hf
        simp [rowB, this]
      · refine wp_skip ?_
        refine ib_n ?_
        refine th_n ?_
        refine rg1 ?_
        refine st F H rfl rfl rfl (y_add rfl rfl) ?_; (try clear F a); intro a F
        refine st F H rfl rfl rfl (y_mv rfl) ?_; (try clear F a); intro a F
        refine wpList_nil ?_
        refine th_n ?_
        rw [wk (by omega)] at F
        have e1 := okTo_succ xs k
        exact ⟨k + 1, ⟨⟨by omega, by rw [e1, hok]; simpa [El.ok] using h6⟩, F.cut ⟨rfl, rfl, rfl, rfl, trivial⟩, H.keep [false]⟩, by omega⟩
    · refine wp_exit (th_x (th_x (ib_x ?_)))
      refine th_n ?_
      refine rg ?_
      refine st F H rfl rfl rfl (y_as rfl) ?_; (try clear F a); intro a F
      refine wpList_nil ?_
      refine wp_ret (ret1 F H rfl (rv rfl) ⟨_, rfl, H.b0, ?_⟩)
      (try clear F H a)
      have hk' : ¬ ((k : Int) < xs.length) := by simpa using h4
      obtain rfl : k = xs.length := by omega
      have hm : (xs.length : Int) ≤ most := by simpa using h1
      simp [rowB, hm, hok]
def sndBad (a b : Int) (xs : List El) (l : Int) (e : Bool) : Bool :=
  !((decide (1 ≤ a) && decide (a ≤ 2147483647)) && decide (1 ≤ b) && decide (b ≤ 4611686018427387904) && decide (l ≤ 4611686018427387904)) || !rowB xs 8
    || decide (4611686018427387905 < IntKind.u64.wrap (b + IntKind.u64.wrap xs.length)) || (endsB xs && !e)
theorem checkSender_c {E : List Nat} {w0 : World} {ad : Option Addr} {n cap : Nat} {xs : List El} (a b l : Int) (e : Bool) (hs : SlE E w0 ad n cap xs) :
    CallsTo Try.prog 94 [.agg #[.int .u32 a, .int .u64 b, .slice ad n cap, .int .u64 l, .bool e]] w0 [] fun v _ => v = .int .i64 (if sndBad a b xs l e = true then 240 else 0) := by
  obtain rfl := hs.len
  refine enter (m := 45) Try.func94 rfl rfl rfl ?_; intro a F
  have H := Hp.start w0 []
  refine rg ?_
  refine s_box 1 F H rfl rfl rfl ?_; intro g1; (try clear F H a); try clear w
  intro a w F H
  refine st F H rfl rfl rfl (y_as rfl) ?_; (try clear F a); intro a F
  refine wpList_nil ?_
  refine rg ?_
  refine st F H rfl rfl rfl (y_fa Try.underlying30 rfl Try.sizeOf27 rfl) ?_; (try clear F a); intro a F
  refine st F H rfl rfl rfl (y_ld1 (key := 1) rfl rfl Try.isAgg27 rfl) ?_; (try clear F a); intro a F
  refine s_callV F H rfl rfl (.cons rfl .nil) Try.call35 (named_c _ _) ?_; (try clear F H a); try clear w
  intro a w F H
  refine st F H rfl rfl rfl (y_mv rfl) ?_; (try clear F a); intro a F
  refine gand 3 F H rfl .no rfl rfl rfl rfl (fun hb1_3 K1 hK1 => by
      refine gt F rfl rfl rfl rfl hb1_3 ?_
      refine st F H rfl rfl rfl (y_fa Try.underlying30 rfl Try.sizeOf28 rfl) ?_; (try clear F a); intro a F
      refine gt F rfl rfl rfl rfl hb1_3 ?_
      refine st F H rfl rfl rfl (y_ld1 (key := 1) rfl rfl Try.isAgg28 rfl) ?_; (try clear F a); intro a F
      refine gt F rfl rfl rfl rfl hb1_3 ?_
      refine st F H rfl rfl rfl (y_ge rfl rfl) ?_; (try clear F a); intro a F
      exact nl (hK1 _ _ _ F rfl H)) ?_
  (try clear F H a); try clear w
  intro a w F H
  refine st F H rfl rfl rfl (y_mv rfl) ?_; (try clear F a); intro a F
  refine gand 3 F H rfl .no rfl rfl rfl rfl (fun hb1_8 K2 hK2 => by
      refine gt F rfl rfl rfl rfl hb1_8 ?_
      refine st F H rfl rfl rfl (y_fa Try.underlying30 rfl Try.sizeOf28 rfl) ?_; (try clear F a); intro a F
      refine gt F rfl rfl rfl rfl hb1_8 ?_
      refine st F H rfl rfl rfl (y_ld1 (key := 1) rfl rfl Try.isAgg28 rfl) ?_; (try clear F a); intro a F
      refine gt F rfl rfl rfl rfl hb1_8 ?_
      refine st F H rfl rfl rfl (y_le rfl rfl) ?_; (try clear F a); intro a F
      exact nl (hK2 _ _ _ F rfl H)) ?_
  (try clear F H a); try clear w
  intro a w F H
  refine st F H rfl rfl rfl (y_mv rfl) ?_; (try clear F a); intro a F
  refine gand 3 F H rfl .no rfl rfl rfl rfl (fun hb1_13 K3 hK3 => by
      refine gt F rfl rfl rfl rfl hb1_13 ?_
      refine st F H rfl rfl rfl (y_fa Try.underlying30 rfl Try.sizeOf28 rfl) ?_; (try clear F a); intro a F
      refine gt F rfl rfl rfl rfl hb1_13 ?_
      refine st F H rfl rfl rfl (y_ld1 (key := 1) rfl rfl Try.isAgg28 rfl) ?_; (try clear F a); intro a F
      refine gt F rfl rfl rfl rfl hb1_13 ?_
      refine st F H rfl rfl rfl (y_le rfl rfl) ?_; (try clear F a); intro a F
      exact nl (hK3 _ _ _ F rfl H)) ?_
  (try clear F H a); try clear w
  intro a w F H
  refine st F H rfl rfl rfl (y_as rfl) ?_; (try clear F a); intro a F
  refine wpList_nil ?_
  refine wp_seq ?_
  refine rg ?_
  refine st F H rfl rfl rfl (y_mv rfl) ?_; (try clear F a); intro a F
  refine st F H rfl rfl rfl (y_not rfl) ?_; (try clear F a); intro a F
  refine st F H rfl rfl rfl (y_mv rfl) ?_; (try clear F a); intro a F
  refine gor 4 F H rfl .no rfl rfl rfl rfl (fun hb2_2 K4 hK4 => by
      refine gt F rfl rfl rfl rfl hb2_2 ?_
      refine st F H rfl rfl rfl (y_fa Try.underlying30 rfl Try.sizeOf24 rfl) ?_; (try clear F a); intro a F
      refine gt F rfl rfl rfl rfl hb2_2 ?_
      refine st F H rfl rfl rfl (y_ld1 (key := 1) rfl rfl Try.isAgg24 rfl) ?_; (try clear F a); intro a F
      refine gt F rfl rfl rfl rfl hb2_2 ?_
      refine s_callV F H rfl rfl (.cons rfl (.cons rfl .nil)) Try.call99 (row_c _ (hs.old H.b0.nil)) ?_; (try clear F H a); try clear w
      intro a w F H
      refine gt F rfl rfl rfl rfl hb2_2 ?_
      refine st F H rfl rfl rfl (y_not rfl) ?_; (try clear F a); intro a F
      exact nl (hK4 _ _ _ F rfl H)) ?_
  (try clear F H a); try clear w
  intro a w F H
  refine st F H rfl rfl rfl (y_mv rfl) ?_; (try clear F a); intro a F
  refine gor 3 F H rfl .no rfl rfl rfl rfl (fun hb2_8 K5 hK5 => by
      refine gt F rfl rfl rfl rfl hb2_8 ?_
      refine st F H rfl rfl rfl (y_ld (key := 1) rfl rfl Try.isAgg30 Try.sizeOf30 rfl) ?_; (try clear F a); intro a F
      refine gt F rfl rfl rfl rfl hb2_8 ?_
      refine s_callV F H rfl rfl (.cons rfl .nil) Try.call93 (behind_c _ _ _ _ _ _ _ _) ?_; (try clear F H a); try clear w
      intro a w F H
      refine gt F rfl rfl rfl rfl hb2_8 ?_
      refine st F H rfl rfl rfl (y_gt rfl rfl) ?_; (try clear F a); intro a F
      exact nl (hK5 _ _ _ F rfl H)) ?_
  (try clear F H a); try clear w
  intro a w F H
  refine st F H rfl rfl rfl (y_mv rfl) ?_; (try clear F a); intro a F
  refine gor 8 F H rfl .no rfl rfl rfl rfl (fun hb2_13 K6 hK6 => by
      refine gt F rfl rfl rfl rfl hb2_13 ?_
      refine st F H rfl rfl rfl (y_fa Try.underlying30 rfl Try.sizeOf24 rfl) ?_; (try clear F a); intro a F
      refine gt F rfl rfl rfl rfl hb2_13 ?_
      refine st F H rfl rfl rfl (y_ld1 (key := 1) rfl rfl Try.isAgg24 rfl) ?_; (try clear F a); intro a F
      refine gt F rfl rfl rfl rfl hb2_13 ?_
      refine s_callV F H rfl rfl (.cons rfl .nil) Try.call110 (ends_c (hs.old H.b0.nil)) ?_; (try clear F H a); try clear w
      intro a w F H
      refine gt F rfl rfl rfl rfl hb2_13 ?_
      refine st F H rfl rfl rfl (y_mv rfl) ?_; (try clear F a); intro a F
      refine gand 3 F H rfl (.yes rfl rfl rfl hb2_13) rfl rfl rfl rfl (fun hb2_17 K7 hK7 => by
          refine gt F rfl rfl rfl rfl hb2_17 ?_
          refine st F H rfl rfl rfl (y_fa Try.underlying30 rfl Try.sizeOf4 rfl) ?_; (try clear F a); intro a F
          refine gt F rfl rfl rfl rfl hb2_17 ?_
          refine st F H rfl rfl rfl (y_ld1 (key := 1) rfl rfl Try.isAgg4 rfl) ?_; (try clear F a); intro a F
          refine gt F rfl rfl rfl rfl hb2_17 ?_
          refine st F H rfl rfl rfl (y_not rfl) ?_; (try clear F a); intro a F
          exact nl (hK7 _ _ _ F rfl H)) ?_
      (try clear F H a); try clear w
      intro a w F H
      exact nl (hK6 _ _ _ F rfl H)) ?_
  (try clear F H a); try clear w
  intro a w F H
  refine wpList_nil ?_
  refine cn F rfl (fun h2 => ?_) (fun h2 => ?_)
  · refine rg ?_
    refine st F H rfl rfl rfl (y_as rfl) ?_; (try clear F a); intro a F
    refine wpList_nil ?_
    refine wp_ret (th_r (ret1 F H rfl (rv rfl) ⟨_, rfl, H.b0, ?_⟩))
    (try clear F H a)
    rw [if_pos (show sndBad a b xs l e = true from h2)]
  · refine wp_skip ?_
    refine th_n ?_
    refine rg ?_
    refine st F H rfl rfl rfl (y_as rfl) ?_; (try clear F a); intro a F
    refine wpList_nil ?_
    refine wp_ret (ret1 F H rfl (rv rfl) ⟨_, rfl, H.b0, ?_⟩)
    (try clear F H a)
    rw [if_neg (by rw [show sndBad a b xs l e = false from h2]; decide)]
def rcvBad (a b : Int) (xs : List El) (r : Int) : Bool :=
  !((decide (1 ≤ a) && decide (a ≤ 2147483647)) && decide (1 ≤ b) && decide (b ≤ 4611686018427387905) && decide (1 ≤ r) && decide (r ≤ 8)) || !rowB xs r || decide (b ≤ IntKind.u64.wrap xs.length)
theorem checkReceiver_c {E : List Nat} {w0 : World} {ad : Option Addr} {n cap : Nat} {xs : List El} (a b r : Int) (hs : SlE E w0 ad n cap xs) :
    CallsTo Try.prog 36 [.agg #[.int .u32 a, .int .u64 b, .slice ad n cap, .int .i64 r]] w0 [] fun v _ => v = .int .i64 (if rcvBad a b xs r = true then 240 else 0) := by
  obtain rfl := hs.len
  refine enter (m := 46) Try.func36 rfl rfl rfl ?_; intro a F
  have H := Hp.start w0 []
  refine rg ?_
  refine s_box 1 F H rfl rfl rfl ?_; intro g1; (try clear F H a); try clear w
  intro a w F H
  refine st F H rfl rfl rfl (y_as rfl) ?_; (try clear F a); intro a F
  refine wpList_nil ?_
  refine rg ?_
  refine st F H rfl rfl rfl (y_fa Try.underlying32 rfl Try.sizeOf27 rfl) ?_; (try clear F a); intro a F
  refine st F H rfl rfl rfl (y_ld1 (key := 1) rfl rfl Try.isAgg27 rfl) ?_; (try clear F a); intro a F
  refine s_callV F H rfl rfl (.cons rfl .nil) Try.call35 (named_c _ _) ?_; (try clear F H a); try clear w
  intro a w F H
  refine st F H rfl rfl rfl (y_mv rfl) ?_; (try clear F a); intro a F
  refine gand 3 F H rfl .no rfl rfl rfl rfl (fun hb1_3 K1 hK1 => by
      refine gt F rfl rfl rfl rfl hb1_3 ?_
      refine st F H rfl rfl rfl (y_fa Try.underlying32 rfl Try.sizeOf28 rfl) ?_; (try clear F a); intro a F
      refine gt F rfl rfl rfl rfl hb1_3 ?_
      refine st F H rfl rfl rfl (y_ld1 (key := 1) rfl rfl Try.isAgg28 rfl) ?_; (try clear F a); intro a F
      refine gt F rfl rfl rfl rfl hb1_3 ?_
      refine st F H rfl rfl rfl (y_ge rfl rfl) ?_; (try clear F a); intro a F
      exact nl (hK1 _ _ _ F rfl H)) ?_
  (try clear F H a); try clear w
  intro a w F H
  refine st F H rfl rfl rfl (y_mv rfl) ?_; (try clear F a); intro a F
  refine gand 3 F H rfl .no rfl rfl rfl rfl (fun hb1_8 K2 hK2 => by
      refine gt F rfl rfl rfl rfl hb1_8 ?_
      refine st F H rfl rfl rfl (y_fa Try.underlying32 rfl Try.sizeOf28 rfl) ?_; (try clear F a); intro a F
      refine gt F rfl rfl rfl rfl hb1_8 ?_
      refine st F H rfl rfl rfl (y_ld1 (key := 1) rfl rfl Try.isAgg28 rfl) ?_; (try clear F a); intro a F
      refine gt F rfl rfl rfl rfl hb1_8 ?_
      refine st F H rfl rfl rfl (y_le rfl rfl) ?_; (try clear F a); intro a F
      exact nl (hK2 _ _ _ F rfl H)) ?_
  (try clear F H a); try clear w
  intro a w F H
  refine st F H rfl rfl rfl (y_mv rfl) ?_; (try clear F a); intro a F
  refine gand 3 F H rfl .no rfl rfl rfl rfl (fun hb1_13 K3 hK3 => by
      refine gt F rfl rfl rfl rfl hb1_13 ?_
      refine st F H rfl rfl rfl (y_fa Try.underlying32 rfl Try.sizeOf3 rfl) ?_; (try clear F a); intro a F
      refine gt F rfl rfl rfl rfl hb1_13 ?_
      refine st F H rfl rfl rfl (y_ld1 (key := 1) rfl rfl Try.isAgg3 rfl) ?_; (try clear F a); intro a F
      refine gt F rfl rfl rfl rfl hb1_13 ?_
      refine st F H rfl rfl rfl (y_ge rfl rfl) ?_; (try clear F a); intro a F
      exact nl (hK3 _ _ _ F rfl H)) ?_
  (try clear F H a); try clear w
  intro a w F H
  refine st F H rfl rfl rfl (y_mv rfl) ?_; (try clear F a); intro a F
  refine gand 3 F H rfl .no rfl rfl rfl rfl (fun hb1_18 K4 hK4 => by
      refine gt F rfl rfl rfl rfl hb1_18 ?_
      refine st F H rfl rfl rfl (y_fa Try.underlying32 rfl Try.sizeOf3 rfl) ?_; (try clear F a); intro a F
      refine gt F rfl rfl rfl rfl hb1_18 ?_
      refine st F H rfl rfl rfl (y_ld1 (key := 1) rfl rfl Try.isAgg3 rfl) ?_; (try clear F a); intro a F
      refine gt F rfl rfl rfl rfl hb1_18 ?_
      refine st F H rfl rfl rfl (y_le rfl rfl) ?_; (try clear F a); intro a F
      exact nl (hK4 _ _ _ F rfl H)) ?_
  (try clear F H a); try clear w
  intro a w F H
  refine st F H rfl rfl rfl (y_as rfl) ?_; (try clear F a); intro a F
  refine wpList_nil ?_
  refine wp_seq ?_
  refine rg ?_
  refine st F H rfl rfl rfl (y_mv rfl) ?_; (try clear F a); intro a F
  refine st F H rfl rfl rfl (y_not rfl) ?_; (try clear F a); intro a F
  refine st F H rfl rfl rfl (y_mv rfl) ?_; (try clear F a); intro a F
  refine gor 6 F H rfl .no rfl rfl rfl rfl (fun hb2_2 K5 hK5 => by
      refine gt F rfl rfl rfl rfl hb2_2 ?_
      refine st F H rfl rfl rfl (y_fa Try.underlying32 rfl Try.sizeOf24 rfl) ?_; (try clear F a); intro a F
      refine gt F rfl rfl rfl rfl hb2_2 ?_
      refine st F H rfl rfl rfl (y_ld1 (key := 1) rfl rfl Try.isAgg24 rfl) ?_; (try clear F a); intro a F
      refine gt F rfl rfl rfl rfl hb2_2 ?_
      refine st F H rfl rfl rfl (y_fa Try.underlying32 rfl Try.sizeOf3 rfl) ?_; (try clear F a); intro a F
      refine gt F rfl rfl rfl rfl hb2_2 ?_
      refine st F H rfl rfl rfl (y_ld1 (key := 1) rfl rfl Try.isAgg3 rfl) ?_; (try clear F a); intro a F
      refine gt F rfl rfl rfl rfl hb2_2 ?_
      refine s_callV F H rfl rfl (.cons rfl (.cons rfl .nil)) Try.call99 (row_c _ (hs.old H.b0.nil)) ?_; (try clear F H a); try clear w
      intro a w F H
      refine gt F rfl rfl rfl rfl hb2_2 ?_
      refine st F H rfl rfl rfl (y_not rfl) ?_; (try clear F a); intro a F
      exact nl (hK5 _ _ _ F rfl H)) ?_
  (try clear F H a); try clear w
  intro a w F H
  refine st F H rfl rfl rfl (y_mv rfl) ?_; (try clear F a); intro a F
  refine gor 7 F H rfl .no rfl rfl rfl rfl (fun hb2_10 K6 hK6 => by
      refine gt F rfl rfl rfl rfl hb2_10 ?_
      refine st F H rfl rfl rfl (y_fa Try.underlying32 rfl Try.sizeOf24 rfl) ?_; (try clear F a); intro a F
      refine gt F rfl rfl rfl rfl hb2_10 ?_
      refine st F H rfl rfl rfl (y_ld1 (key := 1) rfl rfl Try.isAgg24 rfl) ?_; (try clear F a); intro a F
      refine gt F rfl rfl rfl rfl hb2_10 ?_
      refine st F H rfl rfl rfl (y_len Try.underlying24 rfl) ?_; (try clear F a); intro a F
      refine gt F rfl rfl rfl rfl hb2_10 ?_
      refine st F H rfl rfl rfl (y_cvi Try.underlying3 Try.underlying28 rfl) ?_; (try clear F a); intro a F
      refine gt F rfl rfl rfl rfl hb2_10 ?_
      refine st F H rfl rfl rfl (y_fa Try.underlying32 rfl Try.sizeOf28 rfl) ?_; (try clear F a); intro a F
      refine gt F rfl rfl rfl rfl hb2_10 ?_
      refine st F H rfl rfl rfl (y_ld1 (key := 1) rfl rfl Try.isAgg28 rfl) ?_; (try clear F a); intro a F
      refine gt F rfl rfl rfl rfl hb2_10 ?_
      refine st F H rfl rfl rfl (y_ge rfl rfl) ?_; (try clear F a); intro a F
      exact nl (hK6 _ _ _ F rfl H)) ?_
  (try clear F H a); try clear w
  intro a w F H
  refine wpList_nil ?_
  refine cn F rfl (fun h2 => ?_) (fun h2 => ?_)
  · refine rg ?_
    refine st F H rfl rfl rfl (y_as rfl) ?_; (try clear F a); intro a F
    refine wpList_nil ?_
    refine wp_ret (th_r (ret1 F H rfl (rv rfl) ⟨_, rfl, H.b0, ?_⟩))
    (try clear F H a)
    rw [if_pos (show rcvBad a b xs r = true from h2)]
  · refine wp_skip ?_
    refine th_n ?_
    refine rg ?_
    refine st F H rfl rfl rfl (y_as rfl) ?_; (try clear F a); intro a F
    refine wpList_nil ?_
    refine wp_ret (ret1 F H rfl (rv rfl) ⟨_, rfl, H.b0, ?_⟩)
    (try clear F H a)
    rw [if_neg (by rw [show rcvBad a b xs r = false from h2]; decide)]
end Go.Proofs.Ytilakloilkkfmaa
