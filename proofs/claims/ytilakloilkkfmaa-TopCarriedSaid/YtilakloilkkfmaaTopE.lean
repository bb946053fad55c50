/-
  headracetop: the sender sends.
-/
import Derived.Test.YtilakloilkkfmaaTopD
namespace Go.Proofs.Ytilakloilkkfmaa
open Go Go.Sx
set_option maxRecDepth 10000
-- @uses Rec LinkA Clones LinkB LinkC Send NetA NetB NetC TopA TopB TopC TopD
theorem goesS_ok {S : WS} {p : Pck} {fr to : Int} (hok : NetOk S.sent S.cs) (hse : S.sent < 4611686018427387904) (hft : (1 ≤ fr ∧ fr ≤ 7) ∧ (1 ≤ to ∧ to ≤ 7) ∧ fr ≠ to) :
    NetOk (goesS S p fr to).sent (goesS S p fr to).cs ∧ (goesS S p fr to).sent ≤ S.sent + 1 ∧ (goesS S p fr to).went.length ≤ S.went.length + 1 := by
  have h0 := hok.s0
  have h1 := hok.s1
  unfold goesS
  split
  · exact ⟨hok, by omega, by omega⟩
  · rename_i hf
    refine ⟨⟨by simp only; omega, by simp only; omega, by simp; omega, ?_, ?_⟩, by simp only; omega, by simp⟩
    · simp only [List.pairwise_append, List.pairwise_singleton, List.mem_singleton, true_and]
      refine ⟨hok.ord, fun a ha b hb => ?_⟩
      subst hb
      have := (hok.each a ha).1.2
      simp only; omega
    · intro c hc
      rcases List.mem_append.1 hc with hc | hc
      · have h := hok.each c hc
        exact ⟨⟨h.1.1, by simp only; omega⟩, h.2⟩
      · simp only [List.mem_singleton] at hc
        subst hc
        exact ⟨⟨by simp only; omega, by simp⟩, hft.1, hft.2.1, hft.2.2, by simp [idxB]⟩
def sendStep (S : WS) : WS := (sendP S.s).foldl (fun S p => goesS S p 4 5) S
def sendK (S : WS) (k : Nat) : WS := ((sendP S.s).take k).foldl (fun S p => goesS S p 4 5) S
theorem sendK_succ (S : WS) {k : Nat} {p : Pck} (h : (sendP S.s)[k]? = some p) : sendK S (k + 1) = goesS (sendK S k) p 4 5 := by
  obtain ⟨hlt, rfl⟩ := List.getElem?_eq_some_iff.1 h
  unfold sendK
  rw [List.take_succ_eq_append_getElem hlt, List.foldl_append]
  rfl
theorem stepSend_c (g : Nat) (S : WS) (M : WMem) (w0 : World) (d k : Int) (hd : d.tmod 7 = 1) (aad : Option Addr) (an acap : Nat) (hH : Hp (M.cells g S) [] w0) (hM : M.Ok S (blks (M.cells g S)) w0)
    (hok : NetOk S.sent S.cs) (hse : S.sent < 1000000) (hw : S.went.length ≤ 65000) (hbad : S.s.bad = false) :
    CallsTo Try.prog 11 [.pointer (some ⟨g, 0, none⟩), wireV d k, .slice aad an acap] w0 (blks (M.cells g S)) fun v w' => v = .bool true ∧ RetW g (M.cells g S) w0 (sendStep S) w' := by
  have hsv : sendV S.s = (sendP S.s, 0) := if_neg (ntrue hbad)
  have hlen := sndBad_len hbad
  have hpl : (sendP S.s).length ≤ 8 := by rw [sendP_len]; unfold cntP; omega
  refine enter (m := 189) Try.func11 rfl rfl rfl ?_; intro a F
  have H : Hp (M.cells g S) [⟨blks (M.cells g S), w0⟩] w0 := hH.atW
  refine rg ?_
  refine s_box 4 F H rfl rfl rfl ?_; intro g4; (try clear F H a); try clear w
  intro a w F H
  refine st F H rfl rfl rfl (y_as rfl) ?_; (try clear F a); intro a F
  refine wpList_nil ?_
  refine wp_seq ?_
  refine rg ?_
  refine st F H rfl rfl rfl (y_fa Try.underlying49 rfl Try.sizeOf5 rfl) ?_; (try clear F a); intro a F
  refine st F H rfl rfl rfl (y_ld1 (key := 4) rfl rfl Try.isAgg5 rfl) ?_; (try clear F a); intro a F
  refine st F H rfl rfl rfl (y_rem rfl rfl (by decide)) ?_; (try clear F a); intro a F
  refine wpList_nil ?_
  refine wp_block ?_
  refine rg ?_
  rw [hd] at F
  refine st F H rfl rfl rfl (y_eq rfl rfl) ?_; (try clear F a); intro a F
  refine st F H rfl rfl rfl (y_as rfl) ?_; (try clear F a); intro a F
  refine wpList_nil ?_
  refine cnF F rfl ?_
  refine rg ?_
  refine st F H rfl rfl rfl (y_eq rfl rfl) ?_; (try clear F a); intro a F
  refine st F H rfl rfl rfl (y_as rfl) ?_; (try clear F a); intro a F
  refine wpList_nil ?_
  refine cnT F rfl ?_
  refine rg ?_
  refine st F H rfl rfl rfl (y_mv rfl) ?_; (try clear F a); intro a F
  refine st F H rfl rfl rfl (y_nil rfl) ?_; (try clear F a); intro a F
  refine st F H rfl rfl rfl (y_fa Try.underlying38 rfl Try.sizeOf30 rfl) ?_; (try clear F a); intro a F
  refine st F H rfl rfl rfl (y_ld (key := 9001) rfl rfl Try.isAgg30 Try.sizeOf30 rfl) ?_; (try clear F a); intro a F
  have hcl := H.blkR
  refine s_call F H rfl rfl (.cons rfl .nil) Try.call33 (send_c S.s ((hM.carry H (List.mem_cons_self ..)).ss)) ?_
  rintro _ a w ⟨ad4, cap4, rfl, hs4⟩ hO F H
  rw [hsv] at F hs4
  have hs4 := hs4.less hcl
  have H := H.atW
  refine st F H rfl rfl rfl (y_mv rfl) ?_; (try clear F a); intro a F
  refine st F H rfl rfl rfl (y_ext rfl rfl) ?_; (try clear F a); intro a F
  refine st F H rfl rfl rfl (y_ext rfl rfl) ?_; (try clear F a); intro a F
  refine st F H rfl rfl rfl (y_as rfl) ?_; (try clear F a); intro a F
  refine st F H rfl rfl rfl (y_as rfl) ?_; (try clear F a); intro a F
  refine wpList_nil ?_
  refine wp_seq ?_
  refine rg ?_
  refine st F H rfl rfl rfl (y_mv rfl) ?_; (try clear F a); intro a F
  refine st F H rfl rfl rfl (y_len Try.underlying36 rfl) ?_; (try clear F a); intro a F
  refine st F H rfl rfl rfl (y_mv rfl) ?_; (try clear F a); intro a F
  refine wpList_nil ?_
  refine wp_block ?_
  have H3 := H.sel [9001, 9002, 9003] (by decide)
  have h4 : Sl (blks (M.cells g S)) _ 9 Pck.cs ad4 (sendP S.s).length cap4 (sendP S.s) := hs4.carry Pck.wid (by decide) H3 (List.mem_cons_of_mem _ (List.mem_cons_self ..))
  refine lp (fun (q : Nat × WMem) a w => (q.1 ≤ (sendP S.s).length ∧ q.2.Ok (sendK S q.1) (blks (q.2.cells g (sendK S q.1))) w ∧ Sl (blks (q.2.cells g (sendK S q.1))) w 9 Pck.cs ad4 (sendP S.s).length cap4 (sendP S.s) ∧
      NetOk (sendK S q.1).sent (sendK S q.1).cs ∧ (sendK S q.1).sent ≤ S.sent + q.1 ∧ (sendK S q.1).went.length ≤ S.went.length + q.1) ∧
      Fr 189 [] [(0, .pointer (some ⟨g, 0, none⟩)), (10, .int .i64 0), (82, .slice ad4 (sendP S.s).length cap4), (83, .int .i64 (sendP S.s).length), (84, .int .i64 q.1)] a ∧
      Hp (q.2.cells g (sendK S q.1)) [⟨blks (M.cells g S), w0⟩] w) (fun q => (sendP S.s).length - q.1) (0, M)
    ⟨⟨Nat.zero_le _, hM.carry (cells := M.cells g S) H3 (List.mem_cons_self ..), h4, hok, by simp [sendK], by simp [sendK]⟩, F.cut ⟨rfl, rfl, rfl, rfl, rfl, trivial⟩, H3.initB⟩ (fun q a w hI => ?_)
  clear F H H3 h4 hs4
  obtain ⟨q, Mq⟩ := q
  obtain ⟨⟨hq, hMq, hs4, hokq, hsq, hwq⟩, F, H⟩ := hI
  simp only at hq hMq hs4 hokq hsq hwq F H
  have H := H.atW
  refine rg ?_
  refine st F H rfl rfl rfl (y_lt rfl rfl) ?_; (try clear F a); intro a F
  refine wpList_nil ?_
  refine wp_seq ?_
  refine cn F rfl (fun h13 => ?_) (fun h13 => ?_)
  · have hlt : q < (sendP S.s).length := by simpa using h13
    obtain ⟨pk, hpk⟩ : ∃ pk, (sendP S.s)[q]? = some pk := ⟨_, List.getElem?_eq_getElem hlt⟩
    obtain ⟨ga, oa, haa, hga⟩ := hs4.addr (by omega)
    subst haa
    refine wp_skip ?_
    refine th_n ?_
    refine wp_seq ?_
    refine wp_block ?_
    refine rg ?_
    refine st F H rfl rfl rfl (y_ix Try.underlying36 Try.sizeOf114 rfl rfl rfl q rfl hlt) ?_; (try clear F a); intro a F
    refine st F H rfl rfl rfl (y_lda (vs := pk.cs) rfl Try.isAgg114 Try.sizeOf114 (fun w H => (hs4.carry Pck.wid (by decide) H (List.mem_cons_of_mem _ (List.mem_cons_self ..))).at hpk) rfl) ?_; (try clear F a); intro a F
    refine s_alloc 12 F H rfl Try.zeroValue114 rfl ?_; intro g12; (try clear F H a); try clear w
    intro a w F H
    refine s_st (key := 12) F H rfl rfl rfl rfl Try.sizeOf114 rfl rfl rfl ?_; (try clear F H a); try clear w
    intro a w F H
    refine wpList_nil ?_
    refine rg ?_
    refine st F H rfl rfl rfl (y_mv rfl) ?_; (try clear F a); intro a F
    refine st F H rfl rfl rfl (y_ld (key := 12) rfl rfl Try.isAgg114 Try.sizeOf114 rfl) ?_; (try clear F a); intro a F
    refine s_wires F H rfl rfl (.cons rfl (.cons rfl (.cons rfl (.cons rfl .nil)))) Try.call37 rfl (fun hH3 => goes_c g (sendK S q) Mq _ pk 4 5 hH3 (hMq.carry (H.sel [9001, 9002, 9003] (by decide)) (List.mem_cons_of_mem _ (List.mem_cons_self ..))) hokq (by omega) (by decide) (by omega)) ?_
    rintro _ M1 a w rfl hM1 F H
    refine st F H rfl rfl rfl (y_not rfl) ?_; (try clear F a); intro a F
    refine wpList_nil ?_
    refine cn F rfl (fun h15 => ?_) (fun h15 => ?_)
    · cases h15
    · refine wp_skip ?_
      refine ib_n ?_
      refine th_n ?_
      refine rg1 ?_
      refine st F H rfl rfl rfl (y_add rfl rfl) ?_; (try clear F a); intro a F
      refine st F H rfl rfl rfl (y_mv rfl) ?_; (try clear F a); intro a F
      refine wpList_nil ?_
      refine th_n ?_
      rw [wk (by omega)] at F
      have hg := goesS_ok (p := pk) (fr := 4) (to := 5) hokq (by omega) (by decide)
      have hs5 := hs4.carry Pck.wid (by decide) H (List.mem_cons_of_mem _ (List.mem_cons_self ..))
      rw [← sendK_succ S hpk] at hM1 H hg hs5
      exact ⟨(q + 1, M1), ⟨⟨hlt, hM1, hs5, hg.1, by have := hg.2.1; simp only; omega, by have := hg.2.2; simp only; omega⟩, F.cut ⟨rfl, rfl, rfl, rfl, rfl, trivial⟩, H.initB⟩, by simp only; omega⟩
  · refine wp_exit (th_x (th_x (ib_x ?_)))
    refine th_n ?_
    refine rg ?_
    refine st F H rfl rfl rfl (y_mv rfl) ?_; (try clear F a); intro a F
    refine st F H rfl rfl rfl (y_eq rfl rfl) ?_; (try clear F a); intro a F
    refine st F H rfl rfl rfl (y_as rfl) ?_; (try clear F a); intro a F
    refine wpList_nil ?_
    refine wp_ret (ib_r (th_r (ret1 F H rfl (rv rfl) ⟨_, rfl, H.b0, ?_⟩)))
    have hq2 : q = (sendP S.s).length := by simp at h13; omega
    have e : sendStep S = sendK S q := by unfold sendStep sendK; rw [hq2, List.take_length]
    rw [e]
    exact ⟨rfl, Mq, H.initB, hMq⟩
end Go.Proofs.Ytilakloilkkfmaa
