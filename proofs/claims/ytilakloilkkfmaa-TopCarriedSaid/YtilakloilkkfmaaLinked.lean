/-
  headracetop: the example of links.
-/
import Derived.Test.YtilakloilkkfmaaTopF
namespace Go.Proofs.Ytilakloilkkfmaa
open Go Go.Sx
set_option maxRecDepth 10000
-- @uses Rec LinkA Clones LinkB LinkC Send NetA NetB NetC TopA TopB TopC TopD TopE
def lk0 : Snd := ⟨7, 1, [], 0, false⟩
def lkR : Rcv := ⟨7, 1, [], 2⟩
def lkS : Nat → Snd
  | 0 => lk0
  | k + 1 => (putS (lkS k) ((rowL 2).getD k default)).1
def lk3 : Snd := ⟨7, 1, rowL 2, 0, true⟩
theorem lkS_ok : ∀ k < 3, (putS (lkS k) ((rowL 2).getD k default)).2 = 0 := by decide +kernel
theorem lkS3 : lkS 3 = lk3 := by decide +kernel
theorem lk_over : putS lk3 elEnd = (Snd.zero, 241) := by decide +kernel
theorem lk_ack : ackV lkR = (⟨2, 7, 1, 2, .zero⟩, 0) := by decide +kernel
theorem lk_send : sendV lk3 = ([], 0) := by decide +kernel
def lk4 : Snd := ⟨7, 1, rowL 2, 2, true⟩
theorem lk_acked : ackS lk3 ⟨2, 7, 1, 2, .zero⟩ = (lk4, 0) := by decide +kernel
def lkP : List Pck := [⟨1, 7, 1, 0, elAt 0⟩, ⟨1, 7, 2, 0, elAt 1⟩]
theorem lk_send4 : sendV lk4 = (lkP, 0) := by decide +kernel
theorem linked_c (w0 : World) : CallsTo Try.prog 6 [] w0 [] fun v _ => v = .bool true := by
  refine enter (m := 122) Try.func6 rfl rfl rfl ?_; intro a F
  have H := Hp.start w0 []
  refine rg ?_
  refine st F H rfl rfl rfl (y_as rfl) ?_; (try clear F a); intro a F
  refine wpList_nil ?_
  refine rg ?_
  refine s_in F rfl (.cons rfl .nil) Try.call8 rfl ?_
  refine enter (m := 10) Try.func8 rfl rfl rfl ?_; intro a F
  refine rg ?_
  refine s_alloc 1002 F H rfl Try.zeroValue30 rfl ?_; intro g1002; (try clear F H a); try clear w
  intro a w F H
  refine st F H rfl rfl rfl (y_as rfl) ?_; (try clear F a); intro a F
  refine wpList_nil ?_
  refine wp_seq ?_
  refine rg ?_
  refine st F H rfl rfl rfl (y_mv rfl) ?_; (try clear F a); intro a F
  refine s_callV F H rfl rfl (.cons rfl .nil) Try.call35 (named_c _ _) ?_; (try clear F H a); try clear w
  intro a w F H
  refine st F H rfl rfl rfl (y_not rfl) ?_; (try clear F a); intro a F
  refine wpList_nil ?_
  refine cn F rfl (fun h1_1 => ?_) (fun h1_1 => ?_)
  · exact absurd h1_1 (by decide)
  · refine wp_skip ?_
    refine th_n ?_
    refine rg ?_
    refine st F H rfl rfl rfl (y_mv rfl) ?_; (try clear F a); intro a F
    refine st F H rfl rfl rfl (y_build Try.zeroValue30 Try.underlying30 pl30 rfl (.cons rfl (.cons rfl .nil)) rfl) ?_; (try clear F a); intro a F
    refine s_st (key := 1002) F H rfl rfl rfl rfl Try.sizeOf30 rfl rfl rfl ?_; (try clear F H a); try clear w
    intro a w F H
    refine st F H rfl rfl rfl (y_as rfl) ?_; (try clear F a); intro a F
    refine wpList_nil ?_
    refine wp_ret (ret2 F H rfl (rva (key := 1002) rfl rfl Try.isAgg30 Try.sizeOf30 rfl) (rv rfl) ⟨_, rfl, fun a F => ?_⟩)
    refine st F H rfl rfl rfl (y_mv rfl) ?_; (try clear F a); intro a F
    refine st F H rfl rfl rfl (y_ext rfl rfl) ?_; (try clear F a); intro a F
    refine st F H rfl rfl rfl (y_ext rfl rfl) ?_; (try clear F a); intro a F
    refine s_alloc 1 F H rfl Try.zeroValue30 rfl ?_; intro g1; (try clear F H a); try clear w
    intro a w F H
    refine s_st (key := 1) F H rfl rfl rfl rfl Try.sizeOf30 rfl rfl rfl ?_; (try clear F H a); try clear w
    intro a w F H
    refine st F H rfl rfl rfl (y_as rfl) ?_; (try clear F a); intro a F
    refine wpList_nil ?_
    refine rg ?_
    refine s_in F rfl (.cons rfl (.cons rfl .nil)) Try.call9 rfl ?_
    refine enter (m := 15) Try.func9 rfl rfl rfl ?_; intro a F
    refine rg ?_
    refine s_alloc 1004 F H rfl Try.zeroValue32 rfl ?_; intro g1004; (try clear F H a); try clear w
    intro a w F H
    refine st F H rfl rfl rfl (y_as rfl) ?_; (try clear F a); intro a F
    refine wpList_nil ?_
    refine rg ?_
    refine st F H rfl rfl rfl (y_mv rfl) ?_; (try clear F a); intro a F
    refine st F H rfl rfl rfl (y_mv rfl) ?_; (try clear F a); intro a F
    refine st F H rfl rfl rfl (y_build Try.zeroValue32 Try.underlying32 pl32 rfl (.cons rfl (.cons rfl (.cons rfl .nil))) rfl) ?_; (try clear F a); intro a F
    refine s_alloc 1006 F H rfl Try.zeroValue32 rfl ?_; intro g1006; (try clear F H a); try clear w
    intro a w F H
    refine s_st (key := 1006) F H rfl rfl rfl rfl Try.sizeOf32 rfl rfl rfl ?_; (try clear F H a); try clear w
    intro a w F H
    refine wpList_nil ?_
    refine wp_seq ?_
    refine rg ?_
    refine st F H rfl rfl rfl (y_ld (key := 1006) rfl rfl Try.isAgg32 Try.sizeOf32 rfl) ?_; (try clear F a); intro a F
    refine s_callV F H rfl rfl (.cons rfl .nil) Try.call36 (checkReceiver_c (E := []) (xs := []) _ _ _ (Sl.nilOf _ _ _ _)) ?_; (try clear F H a); try clear w
    intro a w F H
    refine st F H rfl rfl rfl (y_ne rfl rfl) ?_; (try clear F a); intro a F
    refine wpList_nil ?_
    refine cn F rfl (fun h2_1 => ?_) (fun h2_1 => ?_)
    · exact absurd h2_1 (by decide)
    · refine wp_skip ?_
      refine th_n ?_
      refine rg ?_
      refine st F H rfl rfl rfl (y_ld (key := 1006) rfl rfl Try.isAgg32 Try.sizeOf32 rfl) ?_; (try clear F a); intro a F
      refine s_st (key := 1004) F H rfl rfl rfl rfl Try.sizeOf32 rfl rfl rfl ?_; (try clear F H a); try clear w
      intro a w F H
      refine st F H rfl rfl rfl (y_as rfl) ?_; (try clear F a); intro a F
      refine wpList_nil ?_
      refine wp_ret (ret2 F H rfl (rva (key := 1004) rfl rfl Try.isAgg32 Try.sizeOf32 rfl) (rv rfl) ⟨_, rfl, fun a F => ?_⟩)
      refine st F H rfl rfl rfl (y_mv rfl) ?_; (try clear F a); intro a F
      refine st F H rfl rfl rfl (y_ext rfl rfl) ?_; (try clear F a); intro a F
      refine st F H rfl rfl rfl (y_ext rfl rfl) ?_; (try clear F a); intro a F
      refine s_alloc 3 F H rfl Try.zeroValue32 rfl ?_; intro g3; (try clear F H a); try clear w
      intro a w F H
      refine s_st (key := 3) F H rfl rfl rfl rfl Try.sizeOf32 rfl rfl rfl ?_; (try clear F H a); try clear w
      intro a w F H
      refine st F H rfl rfl rfl (y_as rfl) ?_; (try clear F a); intro a F
      refine wpList_nil ?_
      refine wp_seq ?_
      refine rg ?_
      refine s_callN 25 F H rfl rfl (.cons rfl .nil) Try.call7 (rowN_c 2 _ (by decide)) ?_
      rintro _ og25 row25 a w ⟨cap25, rfl, hr25⟩ hO F H
      refine st F H rfl rfl rfl (y_len Try.underlying24 rfl) ?_; (try clear F a); intro a F
      refine st F H rfl rfl rfl (y_mv rfl) ?_; (try clear F a); intro a F
      refine wpList_nil ?_
      refine wp_block ?_
      have hA : SlE (blks [⟨25, og25, 47, row25⟩, ⟨3, some g3, 32, [.int .u32 7, .int .u64 1, .slice none 0 0, .int .i64 2]⟩, ⟨1, some g1, 30, [.int .u32 lk0.a, .int .u64 lk0.b, .slice none lk0.q.length 0, .int .u64 lk0.l, .bool lk0.e]⟩]) w none 0 0 [] := Sl.nilOf _ _ _ _
      refine lp (fun (k : Nat × Option Addr × Nat) a w => (k.1 ≤ 3 ∧ SlE (blks [⟨25, og25, 47, row25⟩, ⟨3, some g3, 32, [.int .u32 7, .int .u64 1, .slice none 0 0, .int .i64 2]⟩, ⟨1, some g1, 30, [.int .u32 (lkS k.1).a, .int .u64 (lkS k.1).b, .slice k.2.1 (lkS k.1).q.length k.2.2, .int .u64 (lkS k.1).l, .bool (lkS k.1).e]⟩]) w k.2.1 (lkS k.1).q.length k.2.2 (lkS k.1).q) ∧ Fr 122 [] [(1, .pointer (some ⟨g1, 0, none⟩)), (2, .int .i64 0), (3, .pointer (some ⟨g3, 0, none⟩)), (4, .int .i64 0), (25, .slice (adr og25) 3 cap25), (26, .int .i64 3), (27, .int .i64 k.1)] a ∧
          Hp [⟨25, og25, 47, row25⟩, ⟨3, some g3, 32, [.int .u32 7, .int .u64 1, .slice none 0 0, .int .i64 2]⟩, ⟨1, some g1, 30, [.int .u32 (lkS k.1).a, .int .u64 (lkS k.1).b, .slice k.2.1 (lkS k.1).q.length k.2.2, .int .u64 (lkS k.1).l, .bool (lkS k.1).e]⟩] [⟨[], w0⟩] w) (fun k => 3 - k.1) (0, none, 0)
        ⟨⟨Nat.zero_le _, hA⟩, F.cut ⟨rfl, rfl, rfl, rfl, rfl, rfl, rfl, trivial⟩, H.sel [25, 3, 1] (by decide)⟩ (fun k a w hI => ?_)
      clear F H hA
      obtain ⟨k, adk, capk⟩ := k
      obtain ⟨⟨hk, hsk⟩, F, H⟩ := hI
      simp only at hk hsk F H
      have H := H.atW
      refine rg ?_
      refine st F H rfl rfl rfl (y_lt rfl rfl) ?_; (try clear F a); intro a F
      refine wpList_nil ?_
      refine wp_seq ?_
      refine cn F rfl (fun h4 => ?_) (fun h4 => ?_)
      · have hlt : k < 3 := by simp at h4; omega
        have hx := getd (l := rowL 2) (k := k) (by rw [rowL_len]; omega)
        obtain ⟨gr, rfl⟩ := hr25.isSome (by rw [rowL_len]; omega)
        refine wp_skip ?_
        refine th_n ?_
        refine wp_seq ?_
        refine wp_block ?_
        refine rg ?_
        refine st F H rfl rfl rfl (y_ix Try.underlying24 Try.sizeOf47 rfl rfl rfl k rfl hlt) ?_; (try clear F a); intro a F
        refine st F H rfl rfl rfl (y_lda (vs := ((rowL 2).getD k default).cs) rfl Try.isAgg47 Try.sizeOf47 (fun w H => (hr25.sl (E := []) El.wid (fun g hg => H.cell (k := 25) rfl hg) (by simp)).at hx) rfl) ?_; (try clear F a); intro a F
        refine s_alloc 6 F H rfl Try.zeroValue47 rfl ?_; intro g6; (try clear F H a); try clear w
        intro a w F H
        refine s_st (key := 6) F H rfl rfl rfl rfl Try.sizeOf47 rfl rfl rfl ?_; (try clear F H a); try clear w
        intro a w F H
        refine wpList_nil ?_
        refine rg ?_
        refine st F H rfl rfl rfl (y_as rfl) ?_; (try clear F a); intro a F
        refine wpList_nil ?_
        refine rg ?_
        refine st F H rfl rfl rfl (y_ld (key := 1) rfl rfl Try.isAgg30 Try.sizeOf30 rfl) ?_; (try clear F a); intro a F
        refine st F H rfl rfl rfl (y_ld (key := 6) rfl rfl Try.isAgg47 Try.sizeOf47 rfl) ?_; (try clear F a); intro a F
        have hcl := H.blkR
        refine s_call F H rfl rfl (.cons rfl (.cons rfl .nil)) Try.call31 (put_c (lkS k) ((rowL 2).getD k default) (hsk.carry El.wid (by decide) H (List.mem_cons_of_mem _ (List.mem_cons_self ..)))) ?_
        rintro _ a w ⟨ad2, cap2, rfl, hs2⟩ hO F H
        rw [lkS_ok k hlt] at F
        have hs2 := hs2.less hcl
        have H := H.atW
        refine st F H rfl rfl rfl (y_mv rfl) ?_; (try clear F a); intro a F
        refine st F H rfl rfl rfl (y_ext rfl rfl) ?_; (try clear F a); intro a F
        refine st F H rfl rfl rfl (y_ext rfl rfl) ?_; (try clear F a); intro a F
        refine s_st (key := 1) F H rfl rfl rfl rfl Try.sizeOf30 rfl rfl rfl ?_; (try clear F H a); try clear w
        intro a w F H
        refine st F H rfl rfl rfl (y_as rfl) ?_; (try clear F a); intro a F
        refine wpList_nil ?_
        refine rg ?_
        refine st F H rfl rfl rfl (y_mv rfl) ?_; (try clear F a); intro a F
        refine st F H rfl rfl rfl (y_ne rfl rfl) ?_; (try clear F a); intro a F
        refine wpList_nil ?_
        refine cn F rfl (fun h8 => ?_) (fun h8 => ?_)
        · cases h8
        · refine wp_skip ?_
          refine ib_n ?_
          refine th_n ?_
          refine rg1 ?_
          refine st F H rfl rfl rfl (y_add rfl rfl) ?_; (try clear F a); intro a F
          refine st F H rfl rfl rfl (y_mv rfl) ?_; (try clear F a); intro a F
          refine wpList_nil ?_
          refine th_n ?_
          rw [wk (by omega)] at F
          have H3 := H.sel [25, 3, 1] (by decide)
          exact ⟨(k + 1, ad2, cap2), ⟨⟨hlt, hs2.carry El.wid (by decide) H3 (List.mem_cons_of_mem _ (List.mem_cons_of_mem _ (List.mem_cons_self ..)))⟩, F.cut ⟨rfl, rfl, rfl, rfl, rfl, rfl, rfl, trivial⟩, H3.initB.initB⟩, by simp only; omega⟩
      · have hk3 : k = 3 := by simp at h4; omega
        subst hk3
        rw [lkS3] at hsk H
        clear hr25
        refine wp_exit (th_x (th_x (ib_x ?_)))
        refine th_n ?_
        refine wp_seq_k fun K1 hK1 => ?_
        have C1 : ∀ a w, Fr 122 [] [(1, .pointer (some ⟨g1, 0, none⟩)), (2, .int .i64 0), (3, .pointer (some ⟨g3, 0, none⟩)), (4, .int .i64 0), (9, .int .i64 241)] a → Hp [⟨3, some g3, 32, [.int .u32 7, .int .u64 1, .slice none 0 0, .int .i64 2]⟩, ⟨1, some g1, 30, [.int .u32 lk3.a, .int .u64 lk3.b, .slice adk lk3.q.length capk, .int .u64 lk3.l, .bool lk3.e]⟩] [⟨[], w0⟩] w → SlE (blks [⟨3, some g3, 32, [.int .u32 7, .int .u64 1, .slice none 0 0, .int .i64 2]⟩, ⟨1, some g1, 30, [.int .u32 lk3.a, .int .u64 lk3.b, .slice adk lk3.q.length capk, .int .u64 lk3.l, .bool lk3.e]⟩]) w adk lk3.q.length capk lk3.q → K1 a w := ?_
        · refine rgd1H [0, 1, 2, 3, 4, 5, 6, 7, 8] [0, 1, 2, 3, 4, 5, 6, 7, 8, 9] [] [8] H mixed ?_
          have H := H.old (Old.drew _)
          have HS := (H.rms [])
          have HT := (H.rms [8])
          refine tk 0 F HS (by kernel_rfl) rfl rfl rfl .no (y_ld (key := 1) rfl rfl Try.isAgg30 Try.sizeOf30 rfl) ?_; (try clear F a); intro a F
          refine two 1 8 (by kernel_rfl) ?_ ?_
          · refine br1 rfl ?_
            refine s_callN 42 F H rfl rfl (.cons rfl .nil) Try.call7 (rowN_c 0 _ (by decide)) ?_
            rintro _ og42 row42 a w ⟨cap42, rfl, hr42⟩ hO F H
            obtain ⟨g42, rfl⟩ := hr42.isSome (by rw [rowL_len]; omega)
            have HS := (H.rms [42])
            have HT := (H.rms [42, 8])
            refine wpList_nil ⟨⟨fun _ _ => HS, fun _ _ => HT⟩, ?_⟩
            refine two 2 8 (by kernel_rfl) ?_ ?_
            · refine br1 rfl ?_
              refine st F H rfl rfl rfl (y_ix Try.underlying24 Try.sizeOf47 rfl rfl rfl 0 rfl (by decide)) ?_; (try clear F a); intro a F
              have HS := (H.rms [42])
              have HT := (H.rms [42, 8])
              refine wpList_nil ⟨⟨fun _ _ => HS, fun _ _ => HT⟩, ?_⟩
              refine two 3 8 (by kernel_rfl) ?_ ?_
              · refine br1 rfl ?_
                refine st F H rfl rfl rfl (y_lda (vs := elEnd.cs) rfl Try.isAgg47 Try.sizeOf47 (fun w H => (hr42.sl (E := []) El.wid (fun g hg => H.cell (k := 42) rfl hg) (by simp)).at (i := 0) (x := elEnd) rfl) rfl) ?_; (try clear F a); intro a F
                have HS := (H.rms [42])
                have HT := (H.rms [42, 8])
                refine wpList_nil ⟨⟨fun _ _ => HS, fun _ _ => HT⟩, ?_⟩
                refine two 4 8 (by kernel_rfl) ?_ ?_
                · refine br1 rfl ?_
                  refine s_call F H rfl rfl (.cons rfl (.cons rfl .nil)) Try.call31 (put_c lk3 elEnd (hsk.carry El.wid (by decide) H (List.mem_cons_of_mem _ (List.mem_cons_self ..)))) ?_
                  rintro _ a w ⟨ad4, cap4, rfl, hs4⟩ hO F H
                  rw [lk_over] at F
                  have HS := (H.rms [42])
                  have HT := (H.rms [42, 8])
                  refine wpList_nil ⟨⟨fun _ _ => HS, fun _ _ => HT⟩, ?_⟩
                  refine tk 5 F HS (by kernel_rfl) rfl rfl rfl .no (y_mv rfl) ?_; (try clear F a); intro a F
                  refine tk 6 F HS (by kernel_rfl) rfl rfl rfl .no (y_ext rfl rfl) ?_; (try clear F a); intro a F
                  refine tk2 7 F HT (by kernel_rfl) rfl rfl rfl .no (y_ext rfl rfl) ?_; (try clear F a); intro a F
                  refine one' 8 (by kernel_rfl) rfl ?_
                  refine s_alloc 8 F H rfl Try.zeroValue30 rfl ?_; intro g8; (try clear F H a); try clear w
                  intro a w F H
                  have HS := (H.rms [42, 8])
                  have HT := (H.rms [42, 8, 8])
                  refine wpList_nil ⟨⟨fun _ _ => HS, fun _ _ => HT⟩, ?_⟩
                  refine one' 9 (by kernel_rfl) rfl ?_
                  refine s_st (key := 8) F H rfl rfl rfl rfl Try.sizeOf30 rfl rfl rfl ?_; (try clear F H a); try clear w
                  intro a w F H
                  have HS := (H.rms [42, 8])
                  have HT := (H.rms [42, 8, 8])
                  refine wpList_nil ⟨⟨fun h => absurd h (by decide), fun _ _ => HT⟩, ?_⟩
                  refine one' 10 (by kernel_rfl) rfl ?_
                  refine st F H rfl rfl rfl (y_as rfl) ?_; (try clear F a); intro a F
                  have HS := (H.rms [42, 8])
                  have HT := (H.rms [42, 8, 8])
                  refine wpList_nil ⟨⟨fun h => absurd h (by decide), fun h => absurd h (by decide)⟩, ?_⟩
                  refine dn (by kernel_rfl) ?_ _
                  refine th_n ?_
                  exact C1 _ _ (F.cut ⟨rfl, rfl, rfl, rfl, rfl, trivial⟩) ((H.sel [3, 1] (by decide)).initB) (hsk.carry El.wid (by decide) (H.sel [3, 1] (by decide)) (List.mem_cons_of_mem _ (List.mem_cons_self ..)))
                · refine br1 rfl ?_
                  refine s_alloc 8 F H rfl Try.zeroValue30 rfl ?_; intro g8; (try clear F H a); try clear w
                  intro a w F H
                  have HS := (H.rms [42, 8])
                  have HT := (H.rms [42, 8, 8])
                  refine wpList_nil ⟨⟨fun _ _ => HS, fun _ _ => HT⟩, ?_⟩
                  refine one' 4 (by kernel_rfl) rfl ?_
                  refine s_call F H rfl rfl (.cons rfl (.cons rfl .nil)) Try.call31 (put_c lk3 elEnd (hsk.carry El.wid (by decide) H (List.mem_cons_of_mem _ (List.mem_cons_self ..)))) ?_
                  rintro _ a w ⟨ad4, cap4, rfl, hs4⟩ hO F H
                  rw [lk_over] at F
                  have HS := (H.rms [42, 8])
                  have HT := (H.rms [42, 8, 8])
                  refine wpList_nil ⟨⟨fun _ _ => HS, fun _ _ => HT⟩, ?_⟩
                  refine one' 5 (by kernel_rfl) rfl ?_
                  refine st F H rfl rfl rfl (y_mv rfl) ?_; (try clear F a); intro a F
                  have HS := (H.rms [42, 8])
                  have HT := (H.rms [42, 8, 8])
                  refine wpList_nil ⟨⟨fun _ _ => HS, fun _ _ => HT⟩, ?_⟩
                  refine tk 6 F HS (by kernel_rfl) rfl rfl rfl .no (y_ext rfl rfl) ?_; (try clear F a); intro a F
                  refine tk2 7 F HT (by kernel_rfl) rfl rfl rfl .no (y_ext rfl rfl) ?_; (try clear F a); intro a F
                  refine one' 9 (by kernel_rfl) rfl ?_
                  refine s_st (key := 8) F H rfl rfl rfl rfl Try.sizeOf30 rfl rfl rfl ?_; (try clear F H a); try clear w
                  intro a w F H
                  have HS := (H.rms [42, 8])
                  have HT := (H.rms [42, 8, 8])
                  refine wpList_nil ⟨⟨fun h => absurd h (by decide), fun _ _ => HT⟩, ?_⟩
                  refine one' 10 (by kernel_rfl) rfl ?_
                  refine st F H rfl rfl rfl (y_as rfl) ?_; (try clear F a); intro a F
                  have HS := (H.rms [42, 8])
                  have HT := (H.rms [42, 8, 8])
                  refine wpList_nil ⟨⟨fun h => absurd h (by decide), fun h => absurd h (by decide)⟩, ?_⟩
                  refine dn (by kernel_rfl) ?_ _
                  refine th_n ?_
                  exact C1 _ _ (F.cut ⟨rfl, rfl, rfl, rfl, rfl, trivial⟩) ((H.sel [3, 1] (by decide)).initB) (hsk.carry El.wid (by decide) (H.sel [3, 1] (by decide)) (List.mem_cons_of_mem _ (List.mem_cons_self ..)))
              · refine br1 rfl ?_
                refine s_alloc 8 F H rfl Try.zeroValue30 rfl ?_; intro g8; (try clear F H a); try clear w
                intro a w F H
                have HS := (H.rms [42, 8])
                have HT := (H.rms [42, 8, 8])
                refine wpList_nil ⟨⟨fun _ _ => HS, fun _ _ => HT⟩, ?_⟩
                refine one' 3 (by kernel_rfl) rfl ?_
                refine st F H rfl rfl rfl (y_lda (vs := elEnd.cs) rfl Try.isAgg47 Try.sizeOf47 (fun w H => (hr42.sl (E := []) El.wid (fun g hg => H.cell (k := 42) rfl hg) (by simp)).at (i := 0) (x := elEnd) rfl) rfl) ?_; (try clear F a); intro a F
                have HS := (H.rms [42, 8])
                have HT := (H.rms [42, 8, 8])
                refine wpList_nil ⟨⟨fun _ _ => HS, fun _ _ => HT⟩, ?_⟩
                refine one' 4 (by kernel_rfl) rfl ?_
                refine s_call F H rfl rfl (.cons rfl (.cons rfl .nil)) Try.call31 (put_c lk3 elEnd (hsk.carry El.wid (by decide) H (List.mem_cons_of_mem _ (List.mem_cons_self ..)))) ?_
                rintro _ a w ⟨ad4, cap4, rfl, hs4⟩ hO F H
                rw [lk_over] at F
                have HS := (H.rms [42, 8])
                have HT := (H.rms [42, 8, 8])
                refine wpList_nil ⟨⟨fun _ _ => HS, fun _ _ => HT⟩, ?_⟩
                refine one' 5 (by kernel_rfl) rfl ?_
                refine st F H rfl rfl rfl (y_mv rfl) ?_; (try clear F a); intro a F
                have HS := (H.rms [42, 8])
                have HT := (H.rms [42, 8, 8])
                refine wpList_nil ⟨⟨fun _ _ => HS, fun _ _ => HT⟩, ?_⟩
                refine tk 6 F HS (by kernel_rfl) rfl rfl rfl .no (y_ext rfl rfl) ?_; (try clear F a); intro a F
                refine tk2 7 F HT (by kernel_rfl) rfl rfl rfl .no (y_ext rfl rfl) ?_; (try clear F a); intro a F
                refine one' 9 (by kernel_rfl) rfl ?_
                refine s_st (key := 8) F H rfl rfl rfl rfl Try.sizeOf30 rfl rfl rfl ?_; (try clear F H a); try clear w
                intro a w F H
                have HS := (H.rms [42, 8])
                have HT := (H.rms [42, 8, 8])
                refine wpList_nil ⟨⟨fun h => absurd h (by decide), fun _ _ => HT⟩, ?_⟩
                refine one' 10 (by kernel_rfl) rfl ?_
                refine st F H rfl rfl rfl (y_as rfl) ?_; (try clear F a); intro a F
                have HS := (H.rms [42, 8])
                have HT := (H.rms [42, 8, 8])
                refine wpList_nil ⟨⟨fun h => absurd h (by decide), fun h => absurd h (by decide)⟩, ?_⟩
                refine dn (by kernel_rfl) ?_ _
                refine th_n ?_
                exact C1 _ _ (F.cut ⟨rfl, rfl, rfl, rfl, rfl, trivial⟩) ((H.sel [3, 1] (by decide)).initB) (hsk.carry El.wid (by decide) (H.sel [3, 1] (by decide)) (List.mem_cons_of_mem _ (List.mem_cons_self ..)))
            · refine br1 rfl ?_
              refine s_alloc 8 F H rfl Try.zeroValue30 rfl ?_; intro g8; (try clear F H a); try clear w
              intro a w F H
              have HS := (H.rms [42, 8])
              have HT := (H.rms [42, 8, 8])
              refine wpList_nil ⟨⟨fun _ _ => HS, fun _ _ => HT⟩, ?_⟩
              refine one' 2 (by kernel_rfl) rfl ?_
              refine st F H rfl rfl rfl (y_ix Try.underlying24 Try.sizeOf47 rfl rfl rfl 0 rfl (by decide)) ?_; (try clear F a); intro a F
              have HS := (H.rms [42, 8])
              have HT := (H.rms [42, 8, 8])
              refine wpList_nil ⟨⟨fun _ _ => HS, fun _ _ => HT⟩, ?_⟩
              refine one' 3 (by kernel_rfl) rfl ?_
              refine st F H rfl rfl rfl (y_lda (vs := elEnd.cs) rfl Try.isAgg47 Try.sizeOf47 (fun w H => (hr42.sl (E := []) El.wid (fun g hg => H.cell (k := 42) rfl hg) (by simp)).at (i := 0) (x := elEnd) rfl) rfl) ?_; (try clear F a); intro a F
              have HS := (H.rms [42, 8])
              have HT := (H.rms [42, 8, 8])
              refine wpList_nil ⟨⟨fun _ _ => HS, fun _ _ => HT⟩, ?_⟩
              refine one' 4 (by kernel_rfl) rfl ?_
              refine s_call F H rfl rfl (.cons rfl (.cons rfl .nil)) Try.call31 (put_c lk3 elEnd (hsk.carry El.wid (by decide) H (List.mem_cons_of_mem _ (List.mem_cons_self ..)))) ?_
              rintro _ a w ⟨ad4, cap4, rfl, hs4⟩ hO F H
              rw [lk_over] at F
              have HS := (H.rms [42, 8])
              have HT := (H.rms [42, 8, 8])
              refine wpList_nil ⟨⟨fun _ _ => HS, fun _ _ => HT⟩, ?_⟩
              refine one' 5 (by kernel_rfl) rfl ?_
              refine st F H rfl rfl rfl (y_mv rfl) ?_; (try clear F a); intro a F
              have HS := (H.rms [42, 8])
              have HT := (H.rms [42, 8, 8])
              refine wpList_nil ⟨⟨fun _ _ => HS, fun _ _ => HT⟩, ?_⟩
              refine tk 6 F HS (by kernel_rfl) rfl rfl rfl .no (y_ext rfl rfl) ?_; (try clear F a); intro a F
              refine tk2 7 F HT (by kernel_rfl) rfl rfl rfl .no (y_ext rfl rfl) ?_; (try clear F a); intro a F
              refine one' 9 (by kernel_rfl) rfl ?_
              refine s_st (key := 8) F H rfl rfl rfl rfl Try.sizeOf30 rfl rfl rfl ?_; (try clear F H a); try clear w
              intro a w F H
              have HS := (H.rms [42, 8])
              have HT := (H.rms [42, 8, 8])
              refine wpList_nil ⟨⟨fun h => absurd h (by decide), fun _ _ => HT⟩, ?_⟩
              refine one' 10 (by kernel_rfl) rfl ?_
              refine st F H rfl rfl rfl (y_as rfl) ?_; (try clear F a); intro a F
              have HS := (H.rms [42, 8])
              have HT := (H.rms [42, 8, 8])
              refine wpList_nil ⟨⟨fun h => absurd h (by decide), fun h => absurd h (by decide)⟩, ?_⟩
              refine dn (by kernel_rfl) ?_ _
              refine th_n ?_
              exact C1 _ _ (F.cut ⟨rfl, rfl, rfl, rfl, rfl, trivial⟩) ((H.sel [3, 1] (by decide)).initB) (hsk.carry El.wid (by decide) (H.sel [3, 1] (by decide)) (List.mem_cons_of_mem _ (List.mem_cons_self ..)))
          · refine br1 rfl ?_
            refine s_alloc 8 F H rfl Try.zeroValue30 rfl ?_; intro g8; (try clear F H a); try clear w
            intro a w F H
            have HS := (H.rms [8])
            have HT := (H.rms [8, 8])
            refine wpList_nil ⟨⟨fun _ _ => HS, fun _ _ => HT⟩, ?_⟩
            refine one' 1 (by kernel_rfl) rfl ?_
            refine s_callN 42 F H rfl rfl (.cons rfl .nil) Try.call7 (rowN_c 0 _ (by decide)) ?_
            rintro _ og42 row42 a w ⟨cap42, rfl, hr42⟩ hO F H
            obtain ⟨g42, rfl⟩ := hr42.isSome (by rw [rowL_len]; omega)
            have HS := (H.rms [8, 42])
            have HT := (H.rms [8, 42, 8])
            refine wpList_nil ⟨⟨fun _ _ => HS, fun _ _ => HT⟩, ?_⟩
            refine one' 2 (by kernel_rfl) rfl ?_
            refine st F H rfl rfl rfl (y_ix Try.underlying24 Try.sizeOf47 rfl rfl rfl 0 rfl (by decide)) ?_; (try clear F a); intro a F
            have HS := (H.rms [8, 42])
            have HT := (H.rms [8, 42, 8])
            refine wpList_nil ⟨⟨fun _ _ => HS, fun _ _ => HT⟩, ?_⟩
            refine one' 3 (by kernel_rfl) rfl ?_
            refine st F H rfl rfl rfl (y_lda (vs := elEnd.cs) rfl Try.isAgg47 Try.sizeOf47 (fun w H => (hr42.sl (E := []) El.wid (fun g hg => H.cell (k := 42) rfl hg) (by simp)).at (i := 0) (x := elEnd) rfl) rfl) ?_; (try clear F a); intro a F
            have HS := (H.rms [8, 42])
            have HT := (H.rms [8, 42, 8])
            refine wpList_nil ⟨⟨fun _ _ => HS, fun _ _ => HT⟩, ?_⟩
            refine one' 4 (by kernel_rfl) rfl ?_
            refine s_call F H rfl rfl (.cons rfl (.cons rfl .nil)) Try.call31 (put_c lk3 elEnd (hsk.carry El.wid (by decide) H (List.mem_cons_of_mem _ (List.mem_cons_self ..)))) ?_
            rintro _ a w ⟨ad4, cap4, rfl, hs4⟩ hO F H
            rw [lk_over] at F
            have HS := (H.rms [8, 42])
            have HT := (H.rms [8, 42, 8])
            refine wpList_nil ⟨⟨fun _ _ => HS, fun _ _ => HT⟩, ?_⟩
            refine one' 5 (by kernel_rfl) rfl ?_
            refine st F H rfl rfl rfl (y_mv rfl) ?_; (try clear F a); intro a F
            have HS := (H.rms [8, 42])
            have HT := (H.rms [8, 42, 8])
            refine wpList_nil ⟨⟨fun _ _ => HS, fun _ _ => HT⟩, ?_⟩
            refine tk 6 F HS (by kernel_rfl) rfl rfl rfl .no (y_ext rfl rfl) ?_; (try clear F a); intro a F
            refine tk2 7 F HT (by kernel_rfl) rfl rfl rfl .no (y_ext rfl rfl) ?_; (try clear F a); intro a F
            refine one' 9 (by kernel_rfl) rfl ?_
            refine s_st (key := 8) F H rfl rfl rfl rfl Try.sizeOf30 rfl rfl rfl ?_; (try clear F H a); try clear w
            intro a w F H
            have HS := (H.rms [8, 42])
            have HT := (H.rms [8, 42, 8])
            refine wpList_nil ⟨⟨fun h => absurd h (by decide), fun _ _ => HT⟩, ?_⟩
            refine one' 10 (by kernel_rfl) rfl ?_
            refine st F H rfl rfl rfl (y_as rfl) ?_; (try clear F a); intro a F
            have HS := (H.rms [8, 42])
            have HT := (H.rms [8, 42, 8])
            refine wpList_nil ⟨⟨fun h => absurd h (by decide), fun h => absurd h (by decide)⟩, ?_⟩
            refine dn (by kernel_rfl) ?_ _
            refine th_n ?_
            exact C1 _ _ (F.cut ⟨rfl, rfl, rfl, rfl, rfl, trivial⟩) ((H.sel [3, 1] (by decide)).initB) (hsk.carry El.wid (by decide) (H.sel [3, 1] (by decide)) (List.mem_cons_of_mem _ (List.mem_cons_self ..)))
        rintro a w F H hsk
        refine hK1 a w ?_
        refine rg ?_
        have H := H.atW
        refine st F H rfl rfl rfl (y_ld (key := 3) rfl rfl Try.isAgg32 Try.sizeOf32 rfl) ?_; (try clear F a); intro a F
        refine s_callV F H rfl rfl (.cons rfl .nil) Try.call32 (ack_c lkR (Sl.nilOf [] _ _ _)) ?_; (try clear F H a); try clear w
        intro a w F H
        rw [lk_ack] at F
        refine st F H rfl rfl rfl (y_mv rfl) ?_; (try clear F a); intro a F
        refine st F H rfl rfl rfl (y_ext rfl rfl) ?_; (try clear F a); intro a F
        refine st F H rfl rfl rfl (y_ext rfl rfl) ?_; (try clear F a); intro a F
        refine s_alloc 10 F H rfl Try.zeroValue114 rfl ?_; intro g10; (try clear F H a); try clear w
        intro a w F H
        refine s_st (key := 10) F H rfl rfl rfl rfl Try.sizeOf114 rfl rfl rfl ?_; (try clear F H a); try clear w
        intro a w F H
        refine st F H rfl rfl rfl (y_as rfl) ?_; (try clear F a); intro a F
        refine wpList_nil ?_
        refine rg ?_
        refine st F H rfl rfl rfl (y_ld (key := 1) rfl rfl Try.isAgg30 Try.sizeOf30 rfl) ?_; (try clear F a); intro a F
        refine s_call F H rfl rfl (.cons rfl .nil) Try.call33 (send_c lk3 (hsk.carry El.wid (by decide) H (List.mem_cons_of_mem _ (List.mem_cons_self ..)))) ?_
        rintro _ a w ⟨ad13, cap13, rfl, hs13⟩ hO F H
        rw [lk_send] at F
        refine st F H rfl rfl rfl (y_mv rfl) ?_; (try clear F a); intro a F
        refine st F H rfl rfl rfl (y_ext rfl rfl) ?_; (try clear F a); intro a F
        refine st F H rfl rfl rfl (y_ext rfl rfl) ?_; (try clear F a); intro a F
        refine st F H rfl rfl rfl (y_as rfl) ?_; (try clear F a); intro a F
        refine st F H rfl rfl rfl (y_as rfl) ?_; (try clear F a); intro a F
        refine wpList_nil ?_
        refine rg ?_
        refine st F H rfl rfl rfl (y_ld (key := 1) rfl rfl Try.isAgg30 Try.sizeOf30 rfl) ?_; (try clear F a); intro a F
        refine st F H rfl rfl rfl (y_ld (key := 10) rfl rfl Try.isAgg114 Try.sizeOf114 rfl) ?_; (try clear F a); intro a F
        have hcl := H.blkR
        refine s_call F H rfl rfl (.cons rfl (.cons rfl .nil)) Try.call34 (acked_c lk3 ⟨2, 7, 1, 2, .zero⟩ (hsk.carry El.wid (by decide) H (List.mem_cons_of_mem _ (List.mem_cons_self ..)))) ?_
        rintro _ a w ⟨ad14, cap14, rfl, hs14⟩ hO F H
        rw [lk_acked] at F hs14
        have hs14 := hs14.less hcl
        have H := H.atW
        refine st F H rfl rfl rfl (y_mv rfl) ?_; (try clear F a); intro a F
        refine st F H rfl rfl rfl (y_ext rfl rfl) ?_; (try clear F a); intro a F
        refine st F H rfl rfl rfl (y_ext rfl rfl) ?_; (try clear F a); intro a F
        refine s_st (key := 1) F H rfl rfl rfl rfl Try.sizeOf30 rfl rfl rfl ?_; (try clear F H a); try clear w
        intro a w F H
        refine st F H rfl rfl rfl (y_as rfl) ?_; (try clear F a); intro a F
        refine wpList_nil ?_
        refine rg ?_
        refine st F H rfl rfl rfl (y_ld (key := 1) rfl rfl Try.isAgg30 Try.sizeOf30 rfl) ?_; (try clear F a); intro a F
        have hcl2 := H.blkR
        refine s_call F H rfl rfl (.cons rfl .nil) Try.call33 (send_c lk4 (hs14.carry El.wid (by decide) H (List.mem_cons_of_mem _ (List.mem_cons_of_mem _ (List.mem_cons_self ..))))) ?_
        rintro _ a w ⟨ad15, cap15, rfl, hs15⟩ hO F H
        rw [lk_send4] at F hs15
        have hs15 := hs15.less hcl2
        have H := H.atW
        obtain ⟨ga, oa, haa, hga⟩ := hs15.addr (by decide)
        refine st F H rfl rfl rfl (y_mv rfl) ?_; (try clear F a); intro a F
        refine st F H rfl rfl rfl (y_ext rfl rfl) ?_; (try clear F a); intro a F
        refine st F H rfl rfl rfl (y_ext rfl rfl) ?_; (try clear F a); intro a F
        refine st F H rfl rfl rfl (y_as rfl) ?_; (try clear F a); intro a F
        refine st F H rfl rfl rfl (y_as rfl) ?_; (try clear F a); intro a F
        refine wpList_nil ?_
        refine rg ?_
        refine st F H rfl rfl rfl (y_mv rfl) ?_; (try clear F a); intro a F
        refine st F H rfl rfl rfl (y_eq rfl rfl) ?_; (try clear F a); intro a F
        refine st F H rfl rfl rfl (y_mv rfl) ?_; (try clear F a); intro a F
        refine gand 2 F H rfl .no rfl rfl rfl rfl (fun hb16_2 K2 hK2 => by
            refine gt F rfl rfl rfl rfl hb16_2 ?_
            refine st F H rfl rfl rfl (y_mv rfl) ?_; (try clear F a); intro a F
            refine gt F rfl rfl rfl rfl hb16_2 ?_
            refine st F H rfl rfl rfl (y_eq rfl rfl) ?_; (try clear F a); intro a F
            exact nl (hK2 _ _ _ F rfl H)) ?_
        (try clear F H a); try clear w
        intro a w F H
        refine st F H rfl rfl rfl (y_mv rfl) ?_; (try clear F a); intro a F
        refine gand 2 F H rfl .no rfl rfl rfl rfl (fun hb16_6 K3 hK3 => by
            refine gt F rfl rfl rfl rfl hb16_6 ?_
            refine st F H rfl rfl rfl (y_mv rfl) ?_; (try clear F a); intro a F
            refine gt F rfl rfl rfl rfl hb16_6 ?_
            refine st F H rfl rfl rfl (y_eq rfl rfl) ?_; (try clear F a); intro a F
            exact nl (hK3 _ _ _ F rfl H)) ?_
        (try clear F H a); try clear w
        intro a w F H
        refine st F H rfl rfl rfl (y_mv rfl) ?_; (try clear F a); intro a F
        refine gand 2 F H rfl .no rfl rfl rfl rfl (fun hb16_10 K4 hK4 => by
            refine gt F rfl rfl rfl rfl hb16_10 ?_
            refine st F H rfl rfl rfl (y_mv rfl) ?_; (try clear F a); intro a F
            refine gt F rfl rfl rfl rfl hb16_10 ?_
            refine st F H rfl rfl rfl (y_eq rfl rfl) ?_; (try clear F a); intro a F
            exact nl (hK4 _ _ _ F rfl H)) ?_
        (try clear F H a); try clear w
        intro a w F H
        refine st F H rfl rfl rfl (y_mv rfl) ?_; (try clear F a); intro a F
        refine gand 2 F H rfl .no rfl rfl rfl rfl (fun hb16_14 K5 hK5 => by
            refine gt F rfl rfl rfl rfl hb16_14 ?_
            refine st F H rfl rfl rfl (y_mv rfl) ?_; (try clear F a); intro a F
            refine gt F rfl rfl rfl rfl hb16_14 ?_
            refine st F H rfl rfl rfl (y_eq rfl rfl) ?_; (try clear F a); intro a F
            exact nl (hK5 _ _ _ F rfl H)) ?_
        (try clear F H a); try clear w
        intro a w F H
        refine st F H rfl rfl rfl (y_mv rfl) ?_; (try clear F a); intro a F
        refine gand 2 F H rfl .no rfl rfl rfl rfl (fun hb16_18 K6 hK6 => by
            refine gt F rfl rfl rfl rfl hb16_18 ?_
            refine st F H rfl rfl rfl (y_mv rfl) ?_; (try clear F a); intro a F
            refine gt F rfl rfl rfl rfl hb16_18 ?_
            refine st F H rfl rfl rfl (y_eq rfl rfl) ?_; (try clear F a); intro a F
            exact nl (hK6 _ _ _ F rfl H)) ?_
        (try clear F H a); try clear w
        intro a w F H
        refine st F H rfl rfl rfl (y_mv rfl) ?_; (try clear F a); intro a F
        refine gand 2 F H rfl .no rfl rfl rfl rfl (fun hb16_22 K7 hK7 => by
            refine gt F rfl rfl rfl rfl hb16_22 ?_
            refine st F H rfl rfl rfl (y_mv rfl) ?_; (try clear F a); intro a F
            refine gt F rfl rfl rfl rfl hb16_22 ?_
            refine st F H rfl rfl rfl (y_eq rfl rfl) ?_; (try clear F a); intro a F
            exact nl (hK7 _ _ _ F rfl H)) ?_
        (try clear F H a); try clear w
        intro a w F H
        refine st F H rfl rfl rfl (y_mv rfl) ?_; (try clear F a); intro a F
        refine gand 3 F H rfl .no rfl rfl rfl rfl (fun hb16_26 K8 hK8 => by
            refine gt F rfl rfl rfl rfl hb16_26 ?_
            refine st F H rfl rfl rfl (y_mv rfl) ?_; (try clear F a); intro a F
            refine gt F rfl rfl rfl rfl hb16_26 ?_
            refine st F H rfl rfl rfl (y_len Try.underlying36 rfl) ?_; (try clear F a); intro a F
            refine gt F rfl rfl rfl rfl hb16_26 ?_
            refine st F H rfl rfl rfl (y_eq rfl rfl) ?_; (try clear F a); intro a F
            exact nl (hK8 _ _ _ F rfl H)) ?_
        (try clear F H a); try clear w
        intro a w F H
        refine st F H rfl rfl rfl (y_mv rfl) ?_; (try clear F a); intro a F
        refine gand 3 F H rfl .no rfl rfl rfl rfl (fun hb16_31 K9 hK9 => by
            refine gt F rfl rfl rfl rfl hb16_31 ?_
            refine st F H rfl rfl rfl (y_fa Try.underlying114 rfl Try.sizeOf28 rfl) ?_; (try clear F a); intro a F
            refine gt F rfl rfl rfl rfl hb16_31 ?_
            refine st F H rfl rfl rfl (y_ld1 (key := 10) rfl rfl Try.isAgg28 rfl) ?_; (try clear F a); intro a F
            refine gt F rfl rfl rfl rfl hb16_31 ?_
            refine st F H rfl rfl rfl (y_eq rfl rfl) ?_; (try clear F a); intro a F
            exact nl (hK9 _ _ _ F rfl H)) ?_
        (try clear F H a); try clear w
        intro a w F H
        refine st F H rfl rfl rfl (y_mv rfl) ?_; (try clear F a); intro a F
        refine gand 3 F H rfl .no rfl rfl rfl rfl (fun hb16_36 K10 hK10 => by
            refine gt F rfl rfl rfl rfl hb16_36 ?_
            refine st F H rfl rfl rfl (y_fa Try.underlying114 rfl Try.sizeOf28 rfl) ?_; (try clear F a); intro a F
            refine gt F rfl rfl rfl rfl hb16_36 ?_
            refine st F H rfl rfl rfl (y_ld1 (key := 10) rfl rfl Try.isAgg28 rfl) ?_; (try clear F a); intro a F
            refine gt F rfl rfl rfl rfl hb16_36 ?_
            refine st F H rfl rfl rfl (y_eq rfl rfl) ?_; (try clear F a); intro a F
            exact nl (hK10 _ _ _ F rfl H)) ?_
        (try clear F H a); try clear w
        intro a w F H
        refine st F H rfl rfl rfl (y_mv rfl) ?_; (try clear F a); intro a F
        refine gand 3 F H rfl .no rfl rfl rfl rfl (fun hb16_41 K11 hK11 => by
            refine gt F rfl rfl rfl rfl hb16_41 ?_
            refine st F H rfl rfl rfl (y_mv rfl) ?_; (try clear F a); intro a F
            refine gt F rfl rfl rfl rfl hb16_41 ?_
            refine st F H rfl rfl rfl (y_len Try.underlying36 rfl) ?_; (try clear F a); intro a F
            refine gt F rfl rfl rfl rfl hb16_41 ?_
            refine st F H rfl rfl rfl (y_eq rfl rfl) ?_; (try clear F a); intro a F
            exact nl (hK11 _ _ _ F rfl H)) ?_
        (try clear F H a); try clear w
        intro a w F H
        refine st F H rfl rfl rfl (y_mv rfl) ?_; (try clear F a); intro a F
        refine gand 5 F H rfl .no rfl rfl rfl rfl (fun hb16_46 K12 hK12 => by
            refine gt F rfl rfl rfl rfl hb16_46 ?_
            refine st F H rfl rfl rfl (y_mv rfl) ?_; (try clear F a); intro a F
            refine gt F rfl rfl rfl rfl hb16_46 ?_
            refine st F H rfl rfl rfl (y_ix Try.underlying36 Try.sizeOf114 rfl rfl haa 1 rfl (by decide)) ?_; (try clear F a); intro a F
            refine gt F rfl rfl rfl rfl hb16_46 ?_
            refine st F H rfl rfl rfl (y_fa Try.underlying114 rfl Try.sizeOf28 rfl) ?_; (try clear F a); intro a F
            refine gt F rfl rfl rfl rfl hb16_46 ?_
            refine st F H rfl rfl rfl (y_ld1a rfl Try.isAgg28 (fun w H => (show Sl _ w 9 Pck.cs (some ⟨ga, oa, none⟩) _ _ lkP from haa ▸ hs15.carry Pck.wid (by decide) H (List.mem_cons_of_mem _ (List.mem_cons_of_mem _ (List.mem_cons_of_mem _ (List.mem_cons_self ..))))).at (i := 1) (x := ⟨1, 7, 2, 0, elAt 1⟩) rfl 2 _ rfl)) ?_; (try clear F a); intro a F
            refine gt F rfl rfl rfl rfl hb16_46 ?_
            refine st F H rfl rfl rfl (y_eq rfl rfl) ?_; (try clear F a); intro a F
            exact nl (hK12 _ _ _ F rfl H)) ?_
        (try clear F H a); try clear w
        intro a w F H
        refine st F H rfl rfl rfl (y_as rfl) ?_; (try clear F a); intro a F
        refine wpList_nil ?_
        refine wp_ret (ret1 F H rfl (rv rfl) ⟨_, rfl, H.b0, ?_⟩)
        (try clear F H a)
        rfl
end Go.Proofs.Ytilakloilkkfmaa
