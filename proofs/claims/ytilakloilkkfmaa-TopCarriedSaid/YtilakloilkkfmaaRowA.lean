/-
  It is proved that TopCarried answers true, and leaves its arguments as they were, for every number of records, every room and every row of steps; there is no condition.
-/
import Derived.Test.YtilakloilkkfmaaTop
import Derived.Test.YtilakloilkkfmaaRows
import Derived.ProofKit
import Derived.Deep.SlicePairs
namespace Go.Proofs.Ytilakloilkkfmaa
open Go Go.Sx Go.ChangeShapes Go.WideShapes Go.ChangeAt Go.RowKit Go.Deep
theorem own0 : ownKnob Try.prog.godebug = none := by kernel_rfl
theorem laidOut0 : laidOutB Try.prog = true := by kernel_rfl
theorem cells49 : Try.prog.cellsOf 49 = 2 := by kernel_rfl
theorem cells5 : Try.prog.cellsOf 5 = 1 := by kernel_rfl
theorem u8_range {n : Int} (h : (Lit.int .u8 n).wf = true) : 0 ≤ n ∧ n ≤ 255 := by
  have h' : (decide ((0 : Int) ≤ n) && decide (n ≤ (255 : Int))) = true := h
  simpa using h'
set_option maxRecDepth 100000 in
theorem topCarried_lifted (os : Os) (started : os.Started) (H : Type) (enc : TypeId × Value → H) :
    ReturnsInHanded {} Try.checked os 3 .any (Rows.topCarriedSpec.pre6 enc Try.prog Try.f3 Rows.topCarriedRow.domain false) (Rows.topCarriedSpec.post enc Try.prog Try.f3 false true false false) := by
  refine returnsInHanded_of_change (C := Try.checked) own0 started (by kernel_rfl) Try.func3
    (ChangeSpec.witness6 (enc := enc) (C := Try.checked) false ⟨#[], #[.int .u8 0, .int .u8 0, .slice none 0 0], []⟩ 8 (by kernel_rfl) (by kernel_rfl) (by kernel_rfl) (by kernel_rfl)) ?_
  intro W base args ds gs before hval0 hW hcnd _
  have hval : ∀ (j : Nat) t v, Try.f3.params[j]? = some t → args[j]? = some v → Value.okWide Try.prog W .any base t v := hval0
  have hW' := hW
  obtain ⟨p, q, hA0, hV, rfl, hfz, hnd⟩ := hW
  have hA : DataW.TrodAll enc Try.prog W 0 (fun _ => true) true Try.f3.params.toList args.toList ds p := hA0
  rw [Try.params3] at hA hval
  obtain ⟨v0, v1, v2, d0, d1, d2, p0, p1, p2, rfl, rfl, rfl, h0, h1, h2⟩ := trodAll_three hA
  obtain ⟨rfl, rfl⟩ := trodVars_none hV
  obtain ⟨a, rfl, rfl, rfl, wa⟩ := open_int Try.underlying5 (hval 0 5 v0 rfl rfl) h0
  obtain ⟨b, rfl, rfl, rfl, wb⟩ := open_int Try.underlying5 (hval 1 5 v1 rfl rfl) h1
  obtain ⟨ad, ln, lcap, rfl⟩ := okWide_slice Try.underlying22 (hval 2 22 v2 rfl rfl)
  have h2k := h2
  obtain ⟨fuel, hf⟩ := h2
  clear hA0 hval0
  simp only [List.append_nil, List.nil_append] at hW'
  have hlt : ∀ x ∈ p2, x.block < W.heap.size := fun x hx => by simpa using hW'.lt x hx
  have hra := u8_range wa
  have hrb := u8_range wb
  have fin : ∀ W' : World, Below W.heap.size W W' → Rows.topCarriedSpec.post enc Try.checked.prog Try.f3 false true false false W #[.int .u8 a, .int .u8 b, .slice ad ln lcap] (.bool true) W' := by
    intro W' hnx
    refine ⟨_, _, _, [], _, [], hW', ?_, trodAll_mk3 (p := []) (p' := []) (shut_int Try.underlying5 wa) (shut_int Try.underlying5 wb) (Below.trod laidOut0 (by kernel_rfl) (of_decide_eq_true (by kernel_rfl)) h2k hnx hlt), rfl, hnx.frame _, fun h => by cases h⟩
    exact trodAll_mk1 (shut_bool Try.underlying4 true)
  have done : ∀ l : List (Int × Int), l.length = ln → lcap ≤ maxLen → ln ≤ lcap → (0 < l.length → Sl [] W 2 Wire2 ad l.length lcap l) → (∀ x ∈ l, (0 ≤ x.1 ∧ x.1 ≤ 255) ∧ (0 ≤ x.2 ∧ x.2 ≤ 255)) →
      Calls Try.prog 3 #[.int .u8 a, .int .u8 b, .slice ad ln lcap] W fun e W' => ∃ v, e = .returned v ∧ Rows.topCarriedSpec.post enc Try.checked.prog Try.f3 false true false false W #[.int .u8 a, .int .u8 b, .slice ad ln lcap] v W' := by
    intro l hln hcm hnc hl hv
    subst hln
    refine Calls.mono (topCarried_c W a b hra hrb l hcm hnc hl hv) ?_
    rintro e W' ⟨v, rfl, ho, rfl⟩
    exact ⟨_, rfl, fin W' ho.toBelow⟩
  rcases open_slice_pairs Try.underlying22 Try.underlying49 cells49 rfl rfl cells5 cells5 hf with ⟨hc, hx⟩ | ⟨ar, len, cap, m, k, V0, V1, D0, D1, P0, P1, hc, _, hle, hm, hmm, hx, hall⟩
  · simp only [Value.cells, Array.toList, List.cons.injEq, and_true, Value.slice.injEq] at hc
    obtain ⟨rfl, rfl, rfl⟩ := hc
    exact done [] rfl (Nat.zero_le _) (Nat.le_refl _) (fun _ => Sl.nilOf _ _ _ _) (by simp)
  · simp only [Value.cells, Array.toList, List.cons.injEq, and_true, Value.slice.injEq] at hc
    obtain ⟨rfl, rfl, rfl⟩ := hc
    simp only [if_true] at hmm
    have hint : ∀ i, ∃ q : Int × Int, i < ln → V0 i = .int .u8 q.1 ∧ V1 i = .int .u8 q.2 ∧ (Lit.int .u8 q.1).wf = true ∧ (Lit.int .u8 q.2).wf = true := fun i => by
      by_cases hi : i < ln
      · obtain ⟨x, x1, _, x3⟩ := DataW.trod_int Try.underlying5 (hall i (by omega)).2.2.1
        obtain ⟨y, y1, _, y3⟩ := DataW.trod_int Try.underlying5 (hall i (by omega)).2.2.2
        simp only [List.cons.injEq, and_true] at x1 y1
        exact ⟨(x, y), fun _ => ⟨x1, y1, x3, y3⟩⟩
      · exact ⟨(0, 0), fun h => absurd h hi⟩
    obtain ⟨f, hfi⟩ := Classical.axiomOfChoice hint
    refine done ((List.range ln).map f) (by simp) hm hle (fun hpos => ?_) ?_
    · have hln : 0 < ln := by simpa using hpos
      obtain ⟨gb, go, sp⟩ := ar
      have hsp : sp = none := by simpa [Addr.add] using World.cell?_spot (hall 0 (by omega)).1
      subst hsp
      refine ⟨rfl, by simpa using hle, hm, fun h => (by cases h), fun a ha => by cases ha; rfl, fun _ _ _ => by simp, fun a ha i x hx => ?_⟩
      cases ha
      have hi : i < ln := by have := (List.getElem?_eq_some_iff.1 hx).1; simpa using this
      simp only [List.getElem?_map, List.getElem?_range hi, Option.map_some, Option.some.injEq] at hx
      subst hx
      obtain ⟨e0, e1, _, _⟩ := hfi i hi
      have c0 := (hall i (by omega)).1
      have c1 := (hall i (by omega)).2.1
      rw [e0, addr_add] at c0
      rw [e1, addr_add] at c1
      intro j v hv
      match j, hv with
      | 0, hv => simp only [Wire2, List.getElem?_cons_zero, Option.some.injEq] at hv; subst hv; exact c0
      | 1, hv => simp only [Wire2, List.getElem?_cons_succ, List.getElem?_cons_zero, Option.some.injEq] at hv; subst hv; rw [Nat.add_assoc]; exact c1
      | j + 2, hv => simp [Wire2] at hv
    · intro x hx
      obtain ⟨i, hi, rfl⟩ := List.mem_map.1 hx
      obtain ⟨_, _, w0, w1⟩ := hfi i (List.mem_range.1 hi)
      exact ⟨u8_range w0, u8_range w1⟩
theorem topCarried_holds : Rows.TopCarriedSaid :=
  OpenClaim.holds_of_wide 3 Try.f3 rfl rfl rfl rfl rfl rfl rfl ⟨rfl, rfl, rfl, rfl, rfl⟩ rfl rfl rfl rfl rfl (by kernel_rfl) Try.func3 (by kernel_rfl)
    (of_decide_eq_true (by kernel_rfl)) (by unfold Func.isWrapper; rw [if_neg (by decide +kernel)]; exact ⟨rfl, rfl⟩)
    (fun os started H enc _ => topCarried_lifted os started H enc)

end Go.Proofs.Ytilakloilkkfmaa
