/-
  link: what is told is collected.
-/
import Derived.Test.YtilakloilkkfmaaLinkC
import Derived.Test.YtilakloilkkfmaaSxRange
namespace Go.Proofs.Ytilakloilkkfmaa
open Go Go.Sx Go.RowKit
set_option maxRecDepth 10000

theorem collected95_c (ys : List Pck) (w0 : World) (gf : Nat) (lb : List Value) (Sp : List Pck → Prop) (hN : ys.length ≤ 1000000) (eg : ∀ args w, (callFunc gf args).run Try.prog w = .ok (.enter gf args) w)
    (hseq : ∀ W, Below w0.heap.size w0 W → SeqStopsK Fence.wide 4 Try.prog gf lb.toArray (fun p : Pck => #[.agg p.cs.toArray]) (Below w0.heap.size) (fun l => l = ys) Sp ys.length W) :
    CallsTo Try.prog 95 [.func (.func gf) #[] lb.toArray] w0 [] fun v w' => ∃ og row, (∀ g, og = some g → w0.heap.size ≤ g ∧ w'.heap[g]? = some (.cells row.toArray 114 (0, 0))) ∧ (∃ cap', v = .slice (adr og) ys.length cap' ∧ RowOf og 9 Pck.cs ys cap' row) := by
  refine enterM (m := 12) Try.func95 rfl rfl rfl ?_; intro a F
  have H := Hp.start w0 []
  refine rg ?_
  refine st F H rfl rfl rfl (y_as rfl) ?_; (try clear F a); intro a F
  refine wpList_nil ?_
  refine rg ?_
  refine s_alloc 3 F H rfl Try.zeroValue36 rfl ?_; intro g3; (try clear F H a); try clear w
  intro a w F H
  refine wpList_nil ?_
  refine wp_seq ?_
  refine rg ?_
  refine st F H rfl rfl rfl (y_mv rfl) ?_; (try clear F a); intro a F
  refine wpList_nil ?_
  refine wp_block ?_
  skip
  have hg3 : w0.heap.size ≤ g3 := H.fresh (k := 3) rfl rfl
  have hg3w : g3 < w.heap.size := H.lt (List.mem_cons_self ..) rfl
  have hw0 : w0.heap.size ≤ w.heap.size := H.b0.sz
  refine (wpIn_wide (n := 5)).1 ?_
  have hfr : ∀ {cells : List Cel} {bs : List Base} {W : World}, Hp cells (⟨[], w0⟩ :: bs) W → ∀ c ∈ cells, ∀ g, c.g = some g → w0.heap.size ≤ g := fun h c hc g hg => ((h.bo _ (List.mem_cons_self ..)).2 c hc g hg).resolve_left (by simp)
  refine wpIn_rangeFunc_ownH (n := 5) (w0 := w) rfl (by decide) (gf := gf) (lb := lb.toArray) (F.ev (x := .tmp 5) rfl) trivial eg (hseq w H.b0.toBelow) (fun h k => h.trans k)
    (fun W l o o' h1 h2 h3 h4 => belowK_b hw0 W l o o' h1 h2 h3 h4) (Below.refl _ _) (fun _ => rfl)
    (fun pre W => ∃ og cap row, RowOf og 9 Pck.cs pre cap row ∧ Hp [⟨7, og, 114, row⟩, ⟨3, some g3, 36, [.slice (adr og) pre.length cap]⟩] [⟨[], w0⟩, ⟨[g3], w⟩] W)
    (fun _ _ _ => False)
    (fun pre A B row ⟨og, cap, r, hr, hH⟩ hg hrow => ⟨og, cap, r, hr, hH.turned hg hrow (by simp; omega)⟩)
    (fun _ _ _ _ _ hs _ _ => hs)
    ⟨none, 0, [], RowOf.nilOf _ _, ?h0⟩
    (fun x a' W => ∃ gx, Fr 12 [] [(3, .pointer (some ⟨g3, 0, none⟩)), (4, .pointer (some ⟨gx, 0, none⟩))] a' ∧ W.heap[gx]? = some (.cells x.cs.toArray 114 (0, 0)) ∧ w.heap.size ≤ gx ∧
      ∀ og N cap, W.heap[g3]? = some (.cells [Value.slice (adr og) N cap].toArray 36 (0, 0)) → og ≠ some gx)
    ?hAx ?assign ?body ?done ?stop
  case h0 =>
    exact (H.add (Old.refl [] w) 7 none 114 [] (fun g h => (by cases h))).base [g3] (by intro c hc g hg; simp only [List.mem_cons, List.mem_nil_iff, or_false] at hc; rcases hc with rfl | rfl <;> simp at hg ⊢; exact hg.symm)
  case hAx =>
    rintro x a' s A B row ⟨gx, hF, hx, hle, hne⟩ hg hrow
    have hlt : gx < A.heap.size := (Array.getElem?_eq_some_iff.1 hx).1
    refine ⟨gx, hF, ?_, hle, fun og N cap h => hne og N cap ?_⟩
    · rw [hg.block gx hlt (fun e => by obtain ⟨_, o, ho, hn⟩ := hrow gx e.symm; rw [hx] at ho; cases ho; cases hn)]; exact hx
    · rw [← hg.block g3 (by omega) (fun e => by have := (hrow g3 e.symm).1; omega)]; exact h
  case assign =>
    rintro l pre x W K ⟨og, cap, r, hr, hH⟩ hK
    have F := (F.cut (ρ' := [(3, .pointer (some ⟨g3, 0, none⟩))]) ⟨rfl, trivial⟩).assign1 (d := 6) rfl (.agg x.cs.toArray)
    have H2 := hH.atW
    refine rgR rfl ?_
    refine s_alloc 4 F H2 rfl Try.zeroValue114 rfl ?_; intro gx; (try clear F H2 a)
    intro a w' F H
    refine s_st (key := 4) F H rfl rfl rfl rfl Try.sizeOf114 rfl rfl rfl ?_; (try clear F H a)
    clear w'
    intro a w' F H
    refine wpList_nil ?_
    have h1 : gx ∈ [g3] ∨ w.heap.size ≤ gx := (H.bo ⟨[g3], w⟩ (by simp)).2 _ (List.mem_cons_self ..) gx rfl
    have h2 : gx ≠ g3 := fun e => H.ne (c := ⟨4, some gx, 114, _⟩) rfl (List.mem_cons_of_mem _ (List.mem_cons_self ..)) (by rw [e])
    refine hK _ _ (keeps hH H _) (belows H (hfr hH) (by have hz : w.heap.size ≤ W.heap.size := (hH.bo ⟨[g3], w⟩ (by simp)).1.sz; omega)) ⟨og, cap, r, hr, (H.keep [false, true, true]).initB⟩
      ⟨gx, F.cut ⟨rfl, rfl, trivial⟩, H.cell (k := 4) rfl rfl, h1.resolve_left (by simpa using h2), fun og' N' cap' h => ?_⟩
    have h3 := H.cell (k := 3) rfl rfl
    rw [h3] at h
    simp only [Option.some.injEq, Obj.cells.injEq, List.toArray_eq_iff] at h
    have h4 : og = og' := adr_inj (by have := h.1; simp at this; exact this.1)
    subst h4
    exact fun e => H.ne (c := ⟨4, some gx, 114, _⟩) rfl (List.mem_cons_self ..) e
  case body =>
    rintro l pre x a' W hl hlr ⟨og, cap, r, hr, hH⟩ ⟨gx, F, hx, hle, hne⟩ hlen
    have H1 := hH.addAt 4 hx (by
      intro c hc
      simp only [List.mem_cons, List.mem_nil_iff, or_false] at hc
      rcases hc with rfl | rfl
      · exact hne og _ _ (hH.cell (k := 3) rfl rfl)
      · intro e; cases e; omega) (by simp; omega)
    have H := H1.atW
    refine wpIn_block ?_
    refine wpIn_mono (rgR (K := fun _ W' => KeepsFrom w.heap.size W W' ∧ Below w0.heap.size W W' ∧ ∃ og cap row, RowOf og 9 Pck.cs (pre ++ [x]) cap row ∧ Hp [⟨7, og, 114, row⟩, ⟨3, some g3, 36, [.slice (adr og) (pre ++ [x]).length cap]⟩] [⟨[], w0⟩, ⟨[g3], w⟩] W') rfl ?_) (by
      intro e a w h
      cases e <;> first | exact h | exact h.elim)
    refine st F H rfl rfl rfl (y_ld1 (key := 3) rfl rfl Try.isAgg36 rfl) ?_; (try clear F)
    intro a F
    refine st F H rfl rfl rfl (y_ld (key := 4) rfl rfl Try.isAgg114 Try.sizeOf114 rfl) ?_; (try clear F a)
    intro a F
    refine s_bs1 99 F H rfl Try.underlying36 Try.sizeOf114 Try.zeroValue114 rfl rfl rfl rfl rfl rfl ?_
    clear F H a
    intro g99 a w' F H
    refine s_append 7 F H rfl Try.underlying36 ti114 rfl rfl rfl rfl rfl hr.r (At.slc (H.cell (k := 99) rfl rfl) (m := 9) rfl) rfl (fun u hu => one1_mem (Pck.one x) u hu) (by omega) (by omega) ?_
    clear F H a
    intro og' cap' row' a w' hr' ht' hn' hO F H
    refine s_st (key := 3) F H rfl rfl rfl rfl Try.sizeOf36 rfl rfl rfl ?_
    clear F H a hO
    intro a w' F H
    refine wpList_nil ⟨keeps H1 H _, belows H (hfr H1) (by have hz : w.heap.size ≤ W.heap.size := (hH.bo ⟨[g3], w⟩ (by simp)).1.sz; omega), og', cap', row', hr.push hr' ht', ?_⟩
    rw [List.length_append]
    exact (H.keep [true, false, false, true]).initB
  case stop => rintro D c pre W _ _ h _; exact h.elim
  rintro D _ w' hD rfl ⟨og, cap, r, hr, hH⟩ hDd
  have F := F.mark { target := .collected D, args := #[] }
  have H := hH
  refine ib_n ?_
  refine th_n ?_
  refine rg ?_
  refine st F H rfl rfl rfl (y_ld1 (key := 3) rfl rfl Try.isAgg36 rfl) ?_; (try clear F a); intro a F
  refine st F H rfl rfl rfl (y_as rfl) ?_; (try clear F a); intro a F
  refine wpList_nil ?_
  have H' := H.turned (B := w.heap.size) (grownBy_putObj' _ D (.deferred none)) (fun r e => by cases e; exact ⟨hD, _, hDd, rfl⟩) (by simp; omega)
  refine wp_ret (ret1M F hDd rfl (fun a w' F e => by subst e; exact rv rfl a _ F H') ⟨_, rfl, H'.b0, og, r, fun g hg => ⟨H'.fresh (k := 7) rfl hg, H'.cell (k := 7) rfl hg⟩, cap, rfl, hr⟩)
end Go.Proofs.Ytilakloilkkfmaa
