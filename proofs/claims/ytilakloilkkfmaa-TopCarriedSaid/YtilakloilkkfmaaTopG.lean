/-
  headracetop: any step; the beginnings of a sender and of a receiver.
-/
import Derived.Test.YtilakloilkkfmaaLinked
import Derived.Test.YtilakloilkkfmaaPlainE
namespace Go.Proofs.Ytilakloilkkfmaa
open Go Go.Sx
set_option maxRecDepth 10000
-- @uses Rec LinkA Clones LinkB LinkC Send NetA NetB NetC TopA TopB TopC TopD TopE TopF Linked
theorem open_c (x : Int) (w0 : World) (hx : 1 ≤ x ∧ x ≤ 2147483647) : CallsTo Try.prog 8 [.int .u32 x] w0 [] fun v _ => v = .tuple #[.agg #[.int .u32 x, .int .u64 1, .slice none 0 0, .int .u64 0, .bool false], .int .i64 0] := by
  refine enter (m := 10) Try.func8 rfl rfl rfl ?_; intro a F
  have H := Hp.start w0 []
  refine rg ?_
  refine s_alloc 2 F H rfl Try.zeroValue30 rfl ?_; intro g2; (try clear F H a); try clear w
  intro a w F H
  refine st F H rfl rfl rfl (y_as rfl) ?_; (try clear F a); intro a F
  refine wpList_nil ?_
  refine wp_seq ?_
  refine rg ?_
  refine st F H rfl rfl rfl (y_mv rfl) ?_; (try clear F a); intro a F
  refine s_callV F H rfl rfl (.cons rfl .nil) Try.call35 (named_c _ _) ?_; (try clear F H a); try clear w
  intro a w F H
  refine st F H rfl rfl rfl (y_not rfl) ?_; (try clear F a); intro a F
  refine wpList_nil ?_
  refine cn F rfl (fun h1 => ?_) (fun h1 => ?_)
  · simp [hx.1, hx.2] at h1
  · refine wp_skip ?_
    refine th_n ?_
    refine rg ?_
    refine st F H rfl rfl rfl (y_mv rfl) ?_; (try clear F a); intro a F
    refine st F H rfl rfl rfl (y_build Try.zeroValue30 Try.underlying30 pl30 rfl (.cons rfl (.cons rfl .nil)) rfl) ?_; (try clear F a); intro a F
    refine s_st (key := 2) F H rfl rfl rfl rfl Try.sizeOf30 rfl rfl rfl ?_; (try clear F H a); try clear w
    intro a w F H
    refine st F H rfl rfl rfl (y_as rfl) ?_; (try clear F a); intro a F
    refine wpList_nil ?_
    refine wp_ret (ret2 F H rfl (rva (key := 2) rfl rfl Try.isAgg30 Try.sizeOf30 rfl) (rv rfl) ⟨_, rfl, H.b0, ?_⟩)
    (try clear F H a)
    rfl
theorem listen_c (x r : Int) (w0 : World) (hx : 1 ≤ x ∧ x ≤ 2147483647) (hr : 1 ≤ r ∧ r ≤ 8) : CallsTo Try.prog 9 [.int .u32 x, .int .i64 r] w0 [] fun v _ => v = .tuple #[.agg #[.int .u32 x, .int .u64 1, .slice none 0 0, .int .i64 r], .int .i64 0] := by
  have hb : rcvBad x 1 [] r = false := by
    unfold rcvBad rowB okTo
    have : IntKind.u64.wrap (([] : List El).length : Int) = 0 := rfl
    rw [this]
    simp
    omega
  refine enter (m := 15) Try.func9 rfl rfl rfl ?_; intro a F
  have H := Hp.start w0 []
  refine rg ?_
  refine s_alloc 4 F H rfl Try.zeroValue32 rfl ?_; intro g4; (try clear F H a); try clear w
  intro a w F H
  refine st F H rfl rfl rfl (y_as rfl) ?_; (try clear F a); intro a F
  refine wpList_nil ?_
  refine rg ?_
  refine st F H rfl rfl rfl (y_mv rfl) ?_; (try clear F a); intro a F
  refine st F H rfl rfl rfl (y_mv rfl) ?_; (try clear F a); intro a F
  refine st F H rfl rfl rfl (y_build Try.zeroValue32 Try.underlying32 pl32 rfl (.cons rfl (.cons rfl (.cons rfl .nil))) rfl) ?_; (try clear F a); intro a F
  refine s_alloc 6 F H rfl Try.zeroValue32 rfl ?_; intro g6; (try clear F H a); try clear w
  intro a w F H
  refine s_st (key := 6) F H rfl rfl rfl rfl Try.sizeOf32 rfl rfl rfl ?_; (try clear F H a); try clear w
  intro a w F H
  refine wpList_nil ?_
  refine wp_seq ?_
  refine rg ?_
  refine st F H rfl rfl rfl (y_ld (key := 6) rfl rfl Try.isAgg32 Try.sizeOf32 rfl) ?_; (try clear F a); intro a F
  refine s_callV F H rfl rfl (.cons rfl .nil) Try.call36 (checkReceiver_c (E := []) (xs := []) _ _ _ (Sl.nilOf _ _ _ _)) ?_; (try clear F H a); try clear w
  intro a w F H
  refine st F H rfl rfl rfl (y_ne rfl rfl) ?_; (try clear F a); intro a F
  refine wpList_nil ?_
  refine cn F rfl (fun h2 => ?_) (fun h2 => ?_)
  · rw [hb] at h2; cases h2
  · refine wp_skip ?_
    refine th_n ?_
    refine rg ?_
    refine st F H rfl rfl rfl (y_ld (key := 6) rfl rfl Try.isAgg32 Try.sizeOf32 rfl) ?_; (try clear F a); intro a F
    refine s_st (key := 4) F H rfl rfl rfl rfl Try.sizeOf32 rfl rfl rfl ?_; (try clear F H a); try clear w
    intro a w F H
    refine st F H rfl rfl rfl (y_as rfl) ?_; (try clear F a); intro a F
    refine wpList_nil ?_
    refine wp_ret (ret2 F H rfl (rva (key := 4) rfl rfl Try.isAgg32 Try.sizeOf32 rfl) (rv rfl) ⟨_, rfl, H.b0, ?_⟩)
    (try clear F H a)
    rfl
/-- any step -/
def stepS (all : List El) (S : WS) (d k : Int) : WS :=
  if d.tmod 7 = 0 then (putStep all S).1 else if d.tmod 7 = 1 then sendStep S else if d.tmod 7 = 2 then goesS S (ackV S.r).1 5 4
  else if d.tmod 7 = 3 ∨ d.tmod 7 = 4 then comesS S (IntKind.i64.wrap (IntKind.u8.wrap (k.tdiv 2))) (k.tmod 2 == 1) else if d.tmod 7 = 5 then loseS S k else (takeStep S).1
section
variable {sess room : Int} {all : List El} {B h t : Nat} {S : WS}
theorem step_c (g : Nat) (S : WS) (M : WMem) (w0 : World) (d k : Int) {aad : Option Addr} {acap : Nat} (hH : Hp (M.cells g S) [] w0) (hM : M.Ok S (blks (M.cells g S)) w0) (hall : SlE (blks (M.cells g S)) w0 aad all.length acap all)
    (P : Par0 sess room all) (I : Inv sess room all B h t S) (hd : 0 ≤ d) (hk : 0 ≤ k ∧ k ≤ 255) (hse : S.sent < 1000000) (hw : S.went.length ≤ 65000) :
    CallsTo Try.prog 11 [.pointer (some ⟨g, 0, none⟩), wireV d k, .slice aad all.length acap] w0 (blks (M.cells g S)) fun v w' => v = .bool true ∧ RetW g (M.cells g S) w0 (stepS all S d k) w' := by
  have hpl := I.pl; have hl := P.l; have hh := I.hp; have ht := I.th
  have h7 : 0 ≤ d.tmod 7 ∧ d.tmod 7 < 7 := ⟨Int.tmod_nonneg _ hd, Int.tmod_lt_of_pos _ (by decide)⟩
  unfold stepS
  by_cases h0 : d.tmod 7 = 0
  · rw [if_pos h0, ← (put_inv P I).1]
    exact stepPut_c g S M w0 d k h0 hH hM hall hpl
  rw [if_neg h0]
  by_cases h1 : d.tmod 7 = 1
  · rw [if_pos h1]
    exact stepSend_c g S M w0 d k h1 _ _ _ hH hM I.net hse hw (I.sbad P)
  rw [if_neg h1]
  by_cases h2 : d.tmod 7 = 2
  · rw [if_pos h2, ackV_eq P I]
    exact stepAck_c g S M w0 d k h2 _ _ _ hH hM I.net (by omega) (by omega) _ (ackV_eq P I)
  rw [if_neg h2]
  by_cases h34 : d.tmod 7 = 3 ∨ d.tmod 7 = 4
  · rw [if_pos h34, ← (comes_inv P I (IntKind.i64.wrap (IntKind.u8.wrap (k.tdiv 2))) (k.tmod 2 == 1)).1]
    rcases h34 with h3 | h4
    · exact stepCome3_c g S M w0 d k h3 _ _ _ hH hM I.net I.csOk
    · exact stepCome4_c g S M w0 d k h4 _ _ _ hH hM I.net I.csOk
  rw [if_neg h34]
  by_cases h5 : d.tmod 7 = 5
  · rw [if_pos h5]
    unfold loseS
    by_cases hz : S.cs.length = 0
    · rw [if_pos hz]
      exact stepLoseE_c g S M w0 d k h5 _ _ _ hH hM I.net hz
    · rw [if_neg hz]
      exact stepLoseN_c g S M w0 d k h5 hk _ _ _ hH hM I.net hz
  rw [if_neg h5, ← (take_inv P I).1]
  exact stepTake_c g S M w0 d k (by omega) _ _ _ hH hM (by rw [I.tk]; simp; omega)
theorem step_inv (P : Par0 sess room all) (I : Inv sess room all B h t S) (d k : Int) (hse : S.sent ≤ 100000) (hw : S.went.length ≤ 60000) :
    ∃ B' h' t', Inv sess room all B' h' t' (stepS all S d k) ∧ (stepS all S d k).sent ≤ S.sent + 9 ∧ (stepS all S d k).went.length ≤ S.went.length + 9 := by
  unfold stepS
  split
  · obtain ⟨_, i1, i2, i3, i4, _⟩ := put_inv P I
    exact ⟨B, h, t, i1, by omega, by rw [i3]; omega⟩
  split
  · have hlen : S.s.q.length = S.put - B := by rw [I.sq, part_len I.pl]
    have h8 := I.q8
    have hc8 : (sendP S.s).length ≤ 8 := by rw [sendP_len]; unfold cntP; omega
    obtain ⟨k1, _, _, _, _, k2, k3⟩ := sendK_inv P I (by omega) (by omega) _ (Nat.le_refl _)
    rw [sendStep_eq]
    exact ⟨B, h, t, k1, by omega, by omega⟩
  split
  · rw [ackV_eq P I]
    have hg := goesS_ok (p := ackPk sess room h t) (fr := 5) (to := 4) I.net (by omega) (by decide)
    exact ⟨B, h, t, goes_inv I _ 5 4 (.inr (ackPk_ok P I)) ⟨fun hh => absurd hh (by decide), fun _ => rfl⟩ (by decide) (by omega) (by omega), by have := hg.2.1; simp only; omega, by have := hg.2.2; simp only; omega⟩
  split
  · obtain ⟨_, B', h', _, _, i3, i4, i5, _⟩ := comes_inv P I (IntKind.i64.wrap (IntKind.u8.wrap (k.tdiv 2))) (k.tmod 2 == 1)
    exact ⟨B', h', t, i3, by omega, by rw [i4]; omega⟩
  split
  · unfold loseS
    split
    · exact ⟨B, h, t, I, by omega, by omega⟩
    · exact ⟨B, h, t, I.cut (takeDrop_sub _ _), by simp only; omega, by simp only; omega⟩
  · obtain ⟨_, t1, t2, t3, t4, t5, t6⟩ := take_inv P I
    rcases t6 with ⟨_, hb⟩ | ⟨_, hb⟩
    · rw [hb]; exact ⟨B, h, t, I, by omega, by omega⟩
    · exact ⟨B, h, t + 1, hb, by omega, by rw [t2]; omega⟩
end
end Go.Proofs.Ytilakloilkkfmaa
