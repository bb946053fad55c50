/-
  headracetop: what was taken is the beginning of what was put.
-/
import Derived.Test.YtilakloilkkfmaaTopE
namespace Go.Proofs.Ytilakloilkkfmaa
open Go Go.Sx
set_option maxRecDepth 10000
-- @uses Rec LinkA Clones LinkB LinkC Send NetA NetB NetC TopA TopB TopC TopD TopE
theorem begins_c {E : List Nat} (g g7 g8 : Nat) (S : WS) (M : WMem) (w0 : World) {aad : Option Addr} {acap : Nat} {all : List El} (hH : Hp (M.cells g S) [] w0) (hM : M.Ok S E w0) (hall : SlE E w0 aad all.length acap all)
    (h8 : w0.heap[g8]? = some (.cells [Value.pointer (some ⟨g, 0, none⟩)].toArray 26 (0, 0))) (h7 : w0.heap[g7]? = some (.cells [Value.slice aad all.length acap].toArray 24 (0, 0)))
    (ht : S.taken = all.take S.taken.length) (hle : S.taken.length ≤ S.put) (hp : S.put ≤ all.length) :
    CallsTo Try.prog 10 [.pointer (some ⟨g8, 0, none⟩), .pointer (some ⟨g7, 0, none⟩)] w0 [] fun v _ => v = .bool true := by
  have hcm := hall.cm
  have hnc := hall.nc
  simp only [maxLen] at hcm
  have hsl : ∀ {w}, Old [] w0 w → SlE [] w (adr M.ogt) S.taken.length M.capt S.taken := fun ho => (hM.rt.sl El.wid (fun g hg => hH.cell (k := 9003) rfl hg) (by simp)).old ho
  have hwi : ∀ {w}, Old [] w0 w → w.heap[g]? = _ := fun ho => ho.get (hH.cell (k := 9001) rfl rfl) (by simp)
  refine enter (m := 33) Try.func10 rfl rfl rfl ?_; intro a F
  have H := Hp.start w0 []
  refine rg ?_
  refine st F H rfl rfl rfl (y_as rfl) ?_; (try clear F a); intro a F
  refine wpList_nil ?_
  refine wp_seq ?_
  refine rg ?_
  refine st F H rfl rfl rfl (y_ld1a rfl Try.isAgg26 (fun w H => by rw [cell_of_blk (H.b0.get h8 (by simp))]; rfl)) ?_; (try clear F a); intro a F
  refine st F H rfl rfl rfl (y_nil rfl) ?_; (try clear F a); intro a F
  refine st F H rfl rfl rfl (y_fa Try.underlying38 rfl Try.sizeOf24 rfl) ?_; (try clear F a); intro a F
  refine st F H rfl rfl rfl (y_ld1a rfl Try.isAgg24 (fun w H => by rw [cell_of_blk (hwi H.b0)]; rfl)) ?_; (try clear F a); intro a F
  refine st F H rfl rfl rfl (y_len Try.underlying24 rfl) ?_; (try clear F a); intro a F
  refine st F H rfl rfl rfl (y_mv rfl) ?_; (try clear F a); intro a F
  refine wpList_nil ?_
  refine wp_block ?_
  refine lp (fun (k : Nat) a w => k ≤ S.taken.length ∧ Fr 33 [] [(0, .pointer (some ⟨g8, 0, none⟩)), (1, .pointer (some ⟨g7, 0, none⟩)), (8, .int .i64 S.taken.length), (9, .int .i64 k)] a ∧ Hp [] [⟨[], w0⟩] w) (fun k => S.taken.length - k) 0
    ⟨Nat.zero_le _, F.cut ⟨rfl, rfl, rfl, rfl, trivial⟩, H⟩ (fun k a w hI => ?_)
  clear F H
  obtain ⟨hk, F, H⟩ := hI
  refine rg ?_
  refine st F H rfl rfl rfl (y_lt rfl rfl) ?_; (try clear F a); intro a F
  refine wpList_nil ?_
  refine wp_seq ?_
  refine cn F rfl (fun h2 => ?_) (fun h2 => ?_)
  · have hlt : k < S.taken.length := by simpa using h2
    obtain ⟨x, hx⟩ : ∃ x, S.taken[k]? = some x := ⟨_, List.getElem?_eq_getElem hlt⟩
    have hx2 : all[k]? = some x := by rw [ht, List.getElem?_take, if_pos hlt] at hx; exact hx
    obtain ⟨gt, hgt⟩ := hM.rt.isSome (by omega)
    have hta : adr M.ogt = some ⟨gt, 0, none⟩ := by rw [hgt]; rfl
    obtain ⟨ga, oa, haa, hga⟩ := hall.addr (by omega)
    subst haa
    refine wp_skip ?_
    refine th_n ?_
    refine wp_seq ?_
    refine wp_block ?_
    refine rg ?_
    refine st F H rfl rfl rfl (y_mv rfl) ?_; (try clear F a); intro a F
    refine st F H rfl rfl rfl (y_as rfl) ?_; (try clear F a); intro a F
    refine wpList_nil ?_
    refine rgq H mixed (by kernel_rfl) ?_
    refine stq F rfl rfl rfl (y_mv rfl) ?_; (try clear F a); intro a F
    refine stq F rfl rfl rfl (y_ld1a rfl Try.isAgg26 (fun w H => by rw [cell_of_blk (H.b0.get h8 (by simp))]; rfl)) ?_; (try clear F a); intro a F
    refine stq F rfl rfl rfl (y_nil rfl) ?_; (try clear F a); intro a F
    refine stq F rfl rfl rfl (y_fa Try.underlying38 rfl Try.sizeOf3 rfl) ?_; (try clear F a); intro a F
    refine stq F rfl rfl rfl (y_ld1a rfl Try.isAgg3 (fun w H => by rw [cell_of_blk (hwi H.b0)]; rfl)) ?_; (try clear F a); intro a F
    refine stq F rfl rfl rfl (y_ge rfl rfl) ?_; (try clear F a); intro a F
    refine stq F rfl rfl rfl (y_mv rfl) ?_; (try clear F a); intro a F
    refine gorq 12 F rfl .no rfl rfl rfl rfl (fun hb4_6 K1 hK1 => by
        refine gtq F rfl rfl rfl rfl hb4_6 ?_
        refine stq F rfl rfl rfl (y_ld1a rfl Try.isAgg26 (fun w H => by rw [cell_of_blk (H.b0.get h8 (by simp))]; rfl)) ?_; (try clear F a); intro a F
        refine gtq F rfl rfl rfl rfl hb4_6 ?_
        refine stq F rfl rfl rfl (y_nil rfl) ?_; (try clear F a); intro a F
        refine gtq F rfl rfl rfl rfl hb4_6 ?_
        refine stq F rfl rfl rfl (y_fa Try.underlying38 rfl Try.sizeOf24 rfl) ?_; (try clear F a); intro a F
        refine gtq F rfl rfl rfl rfl hb4_6 ?_
        refine stq F rfl rfl rfl (y_ld1a rfl Try.isAgg24 (fun w H => by rw [cell_of_blk (hwi H.b0)]; rfl)) ?_; (try clear F a); intro a F
        refine gtq F rfl rfl rfl rfl hb4_6 ?_
        refine stq F rfl rfl rfl (y_mv rfl) ?_; (try clear F a); intro a F
        refine gtq F rfl rfl rfl rfl hb4_6 ?_
        refine stq F rfl rfl rfl (y_ix Try.underlying24 Try.sizeOf47 rfl rfl hta k rfl hlt) ?_; (try clear F a); intro a F
        refine gtq F rfl rfl rfl rfl hb4_6 ?_
        refine stq F rfl rfl rfl (y_lda (vs := x.cs) rfl Try.isAgg47 Try.sizeOf47 (fun w H => by
          have h := hsl H.b0
          rw [hta] at h
          exact h.at hx) rfl) ?_; (try clear F a); intro a F
        refine gtq F rfl rfl rfl rfl hb4_6 ?_
        refine stq F rfl rfl rfl (y_ld1a rfl Try.isAgg24 (fun w H => by rw [cell_of_blk (H.b0.get h7 (by simp))]; rfl)) ?_; (try clear F a); intro a F
        refine gtq F rfl rfl rfl rfl hb4_6 ?_
        refine stq F rfl rfl rfl (y_mv rfl) ?_; (try clear F a); intro a F
        refine gtq F rfl rfl rfl rfl hb4_6 ?_
        refine stq F rfl rfl rfl (y_ix Try.underlying24 Try.sizeOf47 rfl rfl rfl k rfl (by omega)) ?_; (try clear F a); intro a F
        refine gtq F rfl rfl rfl rfl hb4_6 ?_
        refine stq F rfl rfl rfl (y_lda (vs := x.cs) rfl Try.isAgg47 Try.sizeOf47 (fun w H => (hall.old H.b0.nil).at hx2) rfl) ?_; (try clear F a); intro a F
        refine gtq F rfl rfl rfl rfl hb4_6 ?_
        refine stq F rfl rfl rfl (y_neq_t47 rfl rfl) ?_; (try clear F a); intro a F
        exact nlq (hK1 _ _ F rfl)) ?_
    (try clear F a); intro a F
    refine nlq (fun w H => ?_)
    refine cn F rfl (fun h4 => ?_) (fun h4 => ?_)
    · simp at h4; omega
    · refine wp_skip ?_
      refine ib_n ?_
      refine th_n ?_
      refine rg1 ?_
      refine st F H rfl rfl rfl (y_add rfl rfl) ?_; (try clear F a); intro a F
      refine st F H rfl rfl rfl (y_mv rfl) ?_; (try clear F a); intro a F
      refine wpList_nil ?_
      refine th_n ?_
      rw [wk (by omega)] at F
      exact ⟨k + 1, ⟨hlt, F.cut ⟨rfl, rfl, rfl, rfl, trivial⟩, H⟩, by omega⟩
  · refine wp_exit (th_x (th_x (ib_x ?_)))
    refine th_n ?_
    refine rg ?_
    refine st F H rfl rfl rfl (y_as rfl) ?_; (try clear F a); intro a F
    refine wpList_nil ?_
    refine wp_ret (ret1 F H rfl (rv rfl) ⟨_, rfl, H.b0, ?_⟩)
    (try clear F H a)
    rfl
end Go.Proofs.Ytilakloilkkfmaa
