/-
  headracetop: TopCarried answers true.
-/
import Derived.Test.YtilakloilkkfmaaTopG
namespace Go.Proofs.Ytilakloilkkfmaa
open Go Go.Sx
set_option maxRecDepth 10000
set_option maxHeartbeats 4000000
-- @uses Rec LinkA Clones LinkB LinkC Send NetA NetB NetC TopA TopB TopC TopD TopE TopF Linked TopG
def Wire2 (x : Int × Int) : List Value := [.int .u8 x.1, .int .u8 x.2]
theorem Wire2.wid : Wid 2 Wire2 := fun _ => rfl
/-- the boxes of what is put, and of the pointer: as facts -/
structure Env (g g7 g8 : Nat) (aad : Option Addr) (acap : Nat) (all : List El) (X : List Cel) (w : World) : Prop where
  h8 : w.heap[g8]? = some (.cells [Value.pointer (some ⟨g, 0, none⟩)].toArray 26 (0, 0))
  h7 : w.heap[g7]? = some (.cells [Value.slice aad all.length acap].toArray 24 (0, 0))
  n8 : g8 ∉ blks X
  n7 : g7 ∉ blks X
  al : SlE (blks X) w aad all.length acap all
theorem Env.carry {g g7 g8 : Nat} {aad : Option Addr} {acap : Nat} {all : List El} {X cells : List Cel} {bs : List Base} {w w1 : World} (e : Env g g7 g8 aad acap all X w1) (H : Hp cells bs w) (hb : ⟨blks X, w1⟩ ∈ bs) : Env g g7 g8 aad acap all cells w := by
  have hB := H.bo _ hb
  have hn : ∀ k, k < w1.heap.size → k ∉ blks X → k ∉ blks cells := fun k hk hX hm => by
    obtain ⟨c, hc, hg⟩ := mem_blks.1 hm
    rcases hB.2 c hc k hg with h | h
    · exact hX h
    · simp only at h; omega
  exact ⟨hB.1.get e.h8 e.n8, hB.1.get e.h7 e.n7, hn _ (Array.getElem?_eq_some_iff.1 e.h8).1 e.n8, hn _ (Array.getElem?_eq_some_iff.1 e.h7).1 e.n7, e.al.carry El.wid (by decide) H hb⟩
/-- the wires at the beginning -/
def S0 (sess room : Int) : WS := ⟨⟨sess, 1, [], 0, false⟩, ⟨sess, 1, [], room⟩, 0, [], [], 0, []⟩
def M0 : WMem := ⟨none, 0, [], none, 0, [], none, 0, none, 0, none, 0, []⟩
theorem inv0 {sess room : Int} {all : List El} (P : Par0 sess room all) : Inv sess room all 0 0 0 (S0 sess room) := by
  have hl := P.l; have hr := P.r
  exact ⟨rfl, rfl, rfl, rfl, rfl, Nat.le_refl _, Nat.le_refl _, Nat.le_refl _, Nat.zero_le _, by simp [S0], by simp; omega, by simp [S0, part], by simp [part, S0], by simp [S0], by simp [S0]; omega, by simp [S0],
    ⟨by simp [S0], by simp [S0], by simp [S0], by simp [S0], by simp [S0]⟩, by simp [S0], by simp [S0]⟩
theorem rekey {k g t : Nat} {cs : List Value} {bs : List Base} {w : World} (H : Hp [⟨k, some g, t, cs⟩] bs w) : Hp [⟨9001, some g, t, cs⟩, ⟨9002, none, 114, []⟩, ⟨9003, none, 47, []⟩] bs w := by
  refine ⟨fun c hc g' hg => ?_, by simp, fun b hb => ⟨(H.bo b hb).1, fun c hc g' hg => ?_⟩⟩
  · simp only [List.mem_cons, List.mem_nil_iff, or_false] at hc
    rcases hc with rfl | rfl | rfl
    · exact H.hp _ (List.mem_cons_self ..) g' hg
    · cases hg
    · cases hg
  · simp only [List.mem_cons, List.mem_nil_iff, or_false] at hc
    rcases hc with rfl | rfl | rfl
    · exact (H.bo b hb).2 _ (List.mem_cons_self ..) g' hg
    · cases hg
    · cases hg
theorem topCarried_c (w0 : World) (n room : Int) (hn : 0 ≤ n ∧ n ≤ 255) (hroom : 0 ≤ room ∧ room ≤ 255) {E : List Nat} {lad : Option Addr} {lcap : Nat} (l : List (Int × Int)) (hcm0 : lcap ≤ maxLen) (hnc : l.length ≤ lcap) (hl0 : 0 < l.length → Sl E w0 2 Wire2 lad l.length lcap l) (hlv : ∀ x ∈ l, (0 ≤ x.1 ∧ x.1 ≤ 255) ∧ (0 ≤ x.2 ∧ x.2 ≤ 255)) :
    CallsTo Try.prog 3 [.int .u8 n, .int .u8 room, .slice lad l.length lcap] w0 [] fun v _ => v = .bool true := by
  have hcm := hcm0
  simp only [maxLen] at hcm
  obtain ⟨N, hN⟩ : ∃ N, N = n.toNat % 21 := ⟨_, rfl⟩
  have hNw : IntKind.i64.wrap (n.tmod 21) = (N : Int) := by
    have e : n.tmod 21 = ((n.toNat % 21 : Nat) : Int) := by
      rw [Int.tmod_eq_emod_of_nonneg hn.1]; omega
    rw [e, wi64 (by omega), hN]
  obtain ⟨sess, hsess⟩ : ∃ s, s = IntKind.u32.wrap (1 + IntKind.u32.wrap n) := ⟨_, rfl⟩
  have hsess' : 1 ≤ sess ∧ sess ≤ 2147483647 := by rw [hsess, wu32 (x := n) (by omega), wu32 (by omega)]; omega
  obtain ⟨rm, hrm⟩ : ∃ s, s = IntKind.i64.wrap (1 + IntKind.i64.wrap (room.tmod 8)) := ⟨_, rfl⟩
  have hrm' : 1 ≤ rm ∧ rm ≤ 8 := by
    have h1 : 0 ≤ room.tmod 8 := Int.tmod_nonneg _ hroom.1
    have h2 : room.tmod 8 < 8 := Int.tmod_lt_of_pos _ (by decide)
    rw [hrm, wi64 (x := room.tmod 8) (by omega), wi64 (by omega)]; omega
  have P : Par0 sess rm (rowL N) := ⟨hsess', hrm', rowL_ok N (by omega), by rw [rowL_len]; omega⟩
  refine enter (m := 134) Try.func3 rfl rfl rfl ?_; intro a F
  have H := Hp.start w0 []
  refine rg ?_
  refine st F H rfl rfl rfl (y_as rfl) ?_; (try clear F a); intro a F
  refine wpList_nil ?_
  refine wp_seq ?_
  refine rg ?_
  refine st F H rfl rfl rfl (y_mv rfl) ?_; (try clear F a); intro a F
  refine st F H rfl rfl rfl (y_len Try.underlying22 rfl) ?_; (try clear F a); intro a F
  refine st F H rfl rfl rfl (y_gt rfl rfl) ?_; (try clear F a); intro a F
  refine wpList_nil ?_
  refine cn F rfl (fun h1 => ?_) (fun h1 => ?_)
  · refine rg ?_
    refine s_callV F H rfl rfl .nil Try.call6 (linked_c _) ?_; (try clear F H a); try clear w
    intro a w F H
    refine st F H rfl rfl rfl (y_as rfl) ?_; (try clear F a); intro a F
    refine wpList_nil ?_
    refine wp_ret (th_r (ret1 F H rfl (rv rfl) ⟨_, rfl, H.b0, ?_⟩))
    (try clear F H a)
    all_goals rfl
  · refine wp_skip ?_
    refine th_n ?_
    refine rg ?_
    refine st F H rfl rfl rfl (y_mv rfl) ?_; (try clear F a); intro a F
    refine st F H rfl rfl rfl (y_rem rfl rfl (by decide)) ?_; (try clear F a); intro a F
    refine st F H rfl rfl rfl (y_cvi Try.underlying5 Try.underlying3 rfl) ?_; (try clear F a); intro a F
    rw [hNw] at F
    refine s_callN 23 F H rfl rfl (.cons rfl .nil) Try.call7 (rowN_c N _ (by omega)) ?_
    rintro _ og23 row23 a w ⟨cap23, rfl, hr23⟩ hO F H
    refine s_alloc 7 F H rfl Try.zeroValue24 rfl ?_; intro g7; (try clear F H a); try clear w
    intro a w F H
    refine s_st (key := 7) F H rfl rfl rfl rfl Try.sizeOf24 rfl rfl rfl ?_; (try clear F H a); try clear w
    intro a w F H
    refine wpList_nil ?_
    refine rg ?_
    refine st F H rfl rfl rfl (y_build Try.zeroValue38 Try.underlying38 pl38 rfl .nil rfl) ?_; (try clear F a); intro a F
    refine s_box 25 F H rfl rfl rfl ?_; intro g25; (try clear F H a); try clear w
    intro a w F H
    refine s_alloc 8 F H rfl Try.zeroValue26 rfl ?_; intro g8; (try clear F H a); try clear w
    intro a w F H
    refine s_st (key := 8) F H rfl rfl rfl rfl Try.sizeOf26 rfl rfl rfl ?_; (try clear F H a); try clear w
    intro a w F H
    refine wpList_nil ?_
    refine rg ?_
    refine st F H rfl rfl rfl (y_as rfl) ?_; (try clear F a); intro a F
    refine st F H rfl rfl rfl (y_as rfl) ?_; (try clear F a); intro a F
    refine wpList_nil ?_
    refine rgdH [0, 1, 2, 3, 4, 5, 6, 7] [0, 1, 2, 3, 4, 5, 6, 7, 8, 9, 10] [] [25] H mixed ?_
    have H := H.old (Old.drew _)
    have HS := (H.rms [])
    have HT := (H.rms [25])
    refine tk 0 F HS (by kernel_rfl) rfl rfl rfl .no (y_ld1 (key := 8) rfl rfl Try.isAgg26 rfl) ?_; (try clear F a); intro a F
    refine one' 1 (by kernel_rfl) rfl ?_
    refine st F H rfl rfl rfl (y_mv rfl) ?_; (try clear F a); intro a F
    have HS := (H.rms [])
    have HT := (H.rms [25])
    refine wpList_nil ⟨⟨fun _ _ => HS, fun _ _ => HT⟩, ?_⟩
    refine one' 2 (by kernel_rfl) rfl ?_
    refine st F H rfl rfl rfl (y_cvi Try.underlying5 Try.underlying27 rfl) ?_; (try clear F a); intro a F
    have HS := (H.rms [])
    have HT := (H.rms [25])
    refine wpList_nil ⟨⟨fun _ _ => HS, fun _ _ => HT⟩, ?_⟩
    refine one' 3 (by kernel_rfl) rfl ?_
    refine st F H rfl rfl rfl (y_add rfl rfl) ?_; (try clear F a); intro a F
    have HS := (H.rms [])
    have HT := (H.rms [25])
    refine wpList_nil ⟨⟨fun _ _ => HS, fun _ _ => HT⟩, ?_⟩
    refine one' 4 (by kernel_rfl) rfl ?_
    rw [← hsess] at F
    refine s_callV F H rfl rfl (.cons rfl .nil) Try.call8 (open_c sess _ hsess') ?_; (try clear F H a); try clear w
    intro a w F H
    have HS := (H.rms [])
    have HT := (H.rms [25])
    refine wpList_nil ⟨⟨fun _ _ => HS, fun _ _ => HT⟩, ?_⟩
    refine one' 5 (by kernel_rfl) rfl ?_
    refine st F H rfl rfl rfl (y_mv rfl) ?_; (try clear F a); intro a F
    have HS := (H.rms [])
    have HT := (H.rms [25])
    refine wpList_nil ⟨⟨fun _ _ => HS, fun _ _ => HT⟩, ?_⟩
    refine tk 6 F HS (by kernel_rfl) rfl rfl rfl .no (y_ext rfl rfl) ?_; (try clear F a); intro a F
    refine tk2 7 F HT (by kernel_rfl) rfl rfl rfl .no (y_ext rfl rfl) ?_; (try clear F a); intro a F
    refine one' 8 (by kernel_rfl) rfl ?_
    refine st F H rfl rfl rfl (y_nil rfl) ?_; (try clear F a); intro a F
    have HS := (H.rms [])
    have HT := (H.rms [25])
    refine wpList_nil ⟨⟨fun h => absurd h (by decide), fun _ _ => HT⟩, ?_⟩
    refine one' 9 (by kernel_rfl) rfl ?_
    refine st F H rfl rfl rfl (y_fa Try.underlying38 rfl Try.sizeOf30 rfl) ?_; (try clear F a); intro a F
    have HS := (H.rms [])
    have HT := (H.rms [25])
    refine wpList_nil ⟨⟨fun h => absurd h (by decide), fun _ _ => HT⟩, ?_⟩
    refine one' 10 (by kernel_rfl) rfl ?_
    refine s_st (key := 25) F H rfl rfl rfl rfl Try.sizeOf30 rfl rfl rfl ?_; (try clear F H a); try clear w
    intro a w F H
    have HS := (H.rms [])
    have HT := (H.rms [25])
    refine wpList_nil ⟨⟨fun h => absurd h (by decide), fun _ _ => HT⟩, ?_⟩
    refine one' 11 (by kernel_rfl) rfl ?_
    refine st F H rfl rfl rfl (y_as rfl) ?_; (try clear F a); intro a F
    have HS := (H.rms [])
    have HT := (H.rms [25])
    refine wpList_nil ⟨⟨fun h => absurd h (by decide), fun h => absurd h (by decide)⟩, ?_⟩
    refine dn (by kernel_rfl) ?_ _
    refine rgdH [0, 1, 2, 3, 4, 5, 6, 7, 8, 9, 10, 11] [0, 1, 2, 3, 4, 5, 6, 7, 8, 9, 10, 11, 12, 13, 14] [] [25] H mixed ?_
    have H := H.old (Old.drew _)
    have HS := (H.rms [])
    have HT := (H.rms [25])
    refine tk 0 F HS (by kernel_rfl) rfl rfl rfl .no (y_ld1 (key := 8) rfl rfl Try.isAgg26 rfl) ?_; (try clear F a); intro a F
    refine tk 1 F HS (by kernel_rfl) rfl rfl rfl .no (y_mv rfl) ?_; (try clear F a); intro a F
    refine tk 2 F HS (by kernel_rfl) rfl rfl rfl .no (y_cvi Try.underlying5 Try.underlying27 rfl) ?_; (try clear F a); intro a F
    refine tk 3 F HS (by kernel_rfl) rfl rfl rfl .no (y_add rfl rfl) ?_; (try clear F a); intro a F
    refine one' 4 (by kernel_rfl) rfl ?_
    refine st F H rfl rfl rfl (y_mv rfl) ?_; (try clear F a); intro a F
    have HS := (H.rms [])
    have HT := (H.rms [25])
    refine wpList_nil ⟨⟨fun _ _ => HS, fun _ _ => HT⟩, ?_⟩
    refine one' 5 (by kernel_rfl) rfl ?_
    refine st F H rfl rfl rfl (y_rem rfl rfl (by decide)) ?_; (try clear F a); intro a F
    have HS := (H.rms [])
    have HT := (H.rms [25])
    refine wpList_nil ⟨⟨fun _ _ => HS, fun _ _ => HT⟩, ?_⟩
    refine one' 6 (by kernel_rfl) rfl ?_
    refine st F H rfl rfl rfl (y_cvi Try.underlying5 Try.underlying3 rfl) ?_; (try clear F a); intro a F
    have HS := (H.rms [])
    have HT := (H.rms [25])
    refine wpList_nil ⟨⟨fun _ _ => HS, fun _ _ => HT⟩, ?_⟩
    refine one' 7 (by kernel_rfl) rfl ?_
    refine st F H rfl rfl rfl (y_add rfl rfl) ?_; (try clear F a); intro a F
    have HS := (H.rms [])
    have HT := (H.rms [25])
    refine wpList_nil ⟨⟨fun _ _ => HS, fun _ _ => HT⟩, ?_⟩
    refine one' 8 (by kernel_rfl) rfl ?_
    rw [← hsess, ← hrm] at F
    refine s_callV F H rfl rfl (.cons rfl (.cons rfl .nil)) Try.call9 (listen_c sess rm _ hsess' hrm') ?_; (try clear F H a); try clear w
    intro a w F H
    have HS := (H.rms [])
    have HT := (H.rms [25])
    refine wpList_nil ⟨⟨fun _ _ => HS, fun _ _ => HT⟩, ?_⟩
    refine one' 9 (by kernel_rfl) rfl ?_
    refine st F H rfl rfl rfl (y_mv rfl) ?_; (try clear F a); intro a F
    have HS := (H.rms [])
    have HT := (H.rms [25])
    refine wpList_nil ⟨⟨fun _ _ => HS, fun _ _ => HT⟩, ?_⟩
    refine tk 10 F HS (by kernel_rfl) rfl rfl rfl .no (y_ext rfl rfl) ?_; (try clear F a); intro a F
    refine tk2 11 F HT (by kernel_rfl) rfl rfl rfl .no (y_ext rfl rfl) ?_; (try clear F a); intro a F
    refine one' 12 (by kernel_rfl) rfl ?_
    refine st F H rfl rfl rfl (y_nil rfl) ?_; (try clear F a); intro a F
    have HS := (H.rms [])
    have HT := (H.rms [25])
    refine wpList_nil ⟨⟨fun h => absurd h (by decide), fun _ _ => HT⟩, ?_⟩
    refine one' 13 (by kernel_rfl) rfl ?_
    refine st F H rfl rfl rfl (y_fa Try.underlying38 rfl Try.sizeOf32 rfl) ?_; (try clear F a); intro a F
    have HS := (H.rms [])
    have HT := (H.rms [25])
    refine wpList_nil ⟨⟨fun h => absurd h (by decide), fun _ _ => HT⟩, ?_⟩
    refine one' 14 (by kernel_rfl) rfl ?_
    refine s_st (key := 25) F H rfl rfl rfl rfl Try.sizeOf32 rfl rfl rfl ?_; (try clear F H a); try clear w
    intro a w F H
    have HS := (H.rms [])
    have HT := (H.rms [25])
    refine wpList_nil ⟨⟨fun h => absurd h (by decide), fun _ _ => HT⟩, ?_⟩
    refine one' 15 (by kernel_rfl) rfl ?_
    refine st F H rfl rfl rfl (y_as rfl) ?_; (try clear F a); intro a F
    have HS := (H.rms [])
    have HT := (H.rms [25])
    refine wpList_nil ⟨⟨fun h => absurd h (by decide), fun h => absurd h (by decide)⟩, ?_⟩
    refine dn (by kernel_rfl) ?_ _
    refine wp_seq ?_
    refine rg ?_
    refine st F H rfl rfl rfl (y_mv rfl) ?_; (try clear F a); intro a F
    refine st F H rfl rfl rfl (y_ne rfl rfl) ?_; (try clear F a); intro a F
    refine st F H rfl rfl rfl (y_mv rfl) ?_; (try clear F a); intro a F
    refine gor 2 F H rfl .no rfl rfl rfl rfl (fun hb8_2 K1 hK1 => by
        refine gt F rfl rfl rfl rfl hb8_2 ?_
        refine st F H rfl rfl rfl (y_mv rfl) ?_; (try clear F a); intro a F
        refine gt F rfl rfl rfl rfl hb8_2 ?_
        refine st F H rfl rfl rfl (y_ne rfl rfl) ?_; (try clear F a); intro a F
        exact nl (hK1 _ _ _ F rfl H)) ?_
    (try clear F H a); try clear w
    intro a w F H
    refine wpList_nil ?_
    refine cn F rfl (fun h8 => ?_) (fun h8 => ?_)
    · cases h8
    · refine wp_skip ?_
      refine th_n ?_
      refine rg ?_
      refine st F H rfl rfl rfl (y_fn (.cons rfl (.cons rfl .nil))) ?_; (try clear F a); intro a F
      refine st F H rfl rfl rfl (y_as rfl) ?_; (try clear F a); intro a F
      refine wpList_nil ?_
      refine wp_seq ?_
      refine rg ?_
      refine st F H rfl rfl rfl (y_mv rfl) ?_; (try clear F a); intro a F
      refine st F H rfl rfl rfl (y_len Try.underlying22 rfl) ?_; (try clear F a); intro a F
      refine st F H rfl rfl rfl (y_mv rfl) ?_; (try clear F a); intro a F
      refine wpList_nil ?_
      refine wp_block ?_
      have HW := rekey (H.sel [25] (by decide))
      have n8 : [g8, g25].Nodup := (H.sel [8, 25] (by decide)).nd
      have n7 : [g7, g25].Nodup := (H.sel [7, 25] (by decide)).nd
      have hb25 : blks (M0.cells g25 (S0 sess rm)) = [g25] := rfl
      have h8' := H.cell (k := 8) rfl rfl
      have h7' := H.cell (k := 7) rfl rfl
      have hal : SlE (blks (M0.cells g25 (S0 sess rm))) w (adr og23) (rowL N).length cap23 (rowL N) := hr23.sl El.wid (fun g hg => H.cell (k := 23) rfl hg) (by
        rintro g hg hm
        rw [hb25] at hm
        simp only [List.mem_singleton] at hm
        subst hm
        subst hg
        have h : [g, g].Nodup := (H.sel [23, 25] (by decide)).nd
        simp at h)
      have henv : Env g25 g7 g8 (adr og23) cap23 (rowL N) (M0.cells g25 (S0 sess rm)) w := ⟨h8', h7', by rw [hb25]; simpa using n8, by rw [hb25]; simpa using n7, hal⟩
      have hM0 : M0.Ok (S0 sess rm) (blks (M0.cells g25 (S0 sess rm))) w := ⟨RowOf.nilOf _ _, RowOf.nilOf _ _, Sl.nilOf _ _ _ _, Sl.nilOf _ _ _ _, ⟨Sl.nilOf _ _ _ _, by intro p hp; cases hp⟩, rfl⟩
      have HW2 : Hp (M0.cells g25 (S0 sess rm)) [⟨[], w0⟩] w := HW
      have hl150 : l.length ≤ 150 := by have h := h1; simp at h; omega
      refine lp (fun (q : Nat × WS × WMem × Nat × Nat × Nat) a w => (q.1 ≤ l.length ∧ Inv sess rm (rowL N) q.2.2.2.1 q.2.2.2.2.1 q.2.2.2.2.2 q.2.1 ∧ q.2.2.1.Ok q.2.1 (blks (q.2.2.1.cells g25 q.2.1)) w ∧ Env g25 g7 g8 (adr og23) cap23 (rowL N) (q.2.2.1.cells g25 q.2.1) w ∧ q.2.1.sent ≤ 9 * (q.1 : Int) ∧ q.2.1.went.length ≤ 9 * q.1) ∧
          Fr 134 [] [(7, .pointer (some ⟨g7, 0, none⟩)), (8, .pointer (some ⟨g8, 0, none⟩)), (11, .func (.func 10) #[] #[.pointer (some ⟨g8, 0, none⟩), .pointer (some ⟨g7, 0, none⟩)]), (57, .slice lad l.length lcap), (58, .int .i64 l.length), (59, .int .i64 q.1)] a ∧ Hp (q.2.2.1.cells g25 q.2.1) [⟨[], w0⟩] w) (fun q => l.length - q.1) (0, S0 sess rm, M0, 0, 0, 0)
        ⟨⟨Nat.zero_le _, inv0 P, hM0, henv, by simp [S0], by simp [S0]⟩, F.cut ⟨rfl, rfl, rfl, rfl, rfl, rfl, trivial⟩, HW2⟩ (fun q a w hI => ?_)
      clear F H HW HW2 hM0 henv hal h7' h8' hr23
      obtain ⟨q, S, M, B, h, t⟩ := q
      obtain ⟨⟨hq, I, hM, henv, hsq, hwq⟩, F, H⟩ := hI
      simp only at hq I hM henv hsq hwq F H
      have H := H.atW
      refine rg ?_
      refine st F H rfl rfl rfl (y_lt rfl rfl) ?_; (try clear F a); intro a F
      refine wpList_nil ?_
      refine wp_seq ?_
      refine cn F rfl (fun h12 => ?_) (fun h12 => ?_)
      · have hlt : q < l.length := by simpa using h12
        have hl := hl0 (by omega)
        obtain ⟨x, hx⟩ : ∃ x, l[q]? = some x := ⟨_, List.getElem?_eq_getElem hlt⟩
        have hxv := hlv x (List.mem_of_getElem? hx)
        obtain ⟨ga, oa, haa, hga⟩ := hl.addr (by omega)
        subst haa
        obtain ⟨B', h', t', hI', hs', hw'⟩ := step_inv P I x.1 x.2 (by omega) (by omega)
        refine wp_skip ?_
        refine th_n ?_
        refine wp_seq ?_
        refine wp_block ?_
        refine rg ?_
        refine st F H rfl rfl rfl (y_ix Try.underlying22 Try.sizeOf49 rfl rfl rfl q rfl hlt) ?_; (try clear F a); intro a F
        refine st F H rfl rfl rfl (y_lda (vs := Wire2 x) rfl Try.isAgg49 Try.sizeOf49 (fun w H => (hl.old H.b0.nil).at hx) rfl) ?_; (try clear F a); intro a F
        refine s_alloc 13 F H rfl Try.zeroValue49 rfl ?_; intro g13; (try clear F H a); try clear w
        intro a w F H
        refine s_st (key := 13) F H rfl rfl rfl rfl Try.sizeOf49 rfl rfl rfl ?_; (try clear F H a); try clear w
        intro a w F H
        refine wpList_nil ?_
        refine rg ?_
        refine st F H rfl rfl rfl (y_ld1a rfl Try.isAgg26 (fun w H => by rw [cell_of_blk (henv.carry H (List.mem_cons_of_mem _ (List.mem_cons_self ..))).h8]; rfl)) ?_; (try clear F a); intro a F
        refine st F H rfl rfl rfl (y_ld (key := 13) rfl rfl Try.isAgg49 Try.sizeOf49 rfl) ?_; (try clear F a); intro a F
        refine st F H rfl rfl rfl (y_ld1a rfl Try.isAgg24 (fun w H => by rw [cell_of_blk (henv.carry H (List.mem_cons_of_mem _ (List.mem_cons_self ..))).h7]; rfl)) ?_; (try clear F a); intro a F
        refine s_wires F H rfl rfl (.cons rfl (.cons rfl (.cons rfl .nil))) Try.call11 rfl (fun hH3 => step_c g25 S M _ x.1 x.2 hH3 (hM.carry (H.sel [9001, 9002, 9003] (by decide)) (List.mem_cons_of_mem _ (List.mem_cons_self ..))) ((henv.carry (H.sel [9001, 9002, 9003] (by decide)) (List.mem_cons_of_mem _ (List.mem_cons_self ..))).al) P I hxv.1.1 hxv.2 (by omega) (by omega)) ?_
        rintro _ M1 a w rfl hM1 F H
        have henv1 := henv.carry H (List.mem_cons_of_mem _ (List.mem_cons_self ..))
        have H := H.atW
        refine st F H rfl rfl rfl (y_not rfl) ?_; (try clear F a); intro a F
        refine st F H rfl rfl rfl (y_mv rfl) ?_; (try clear F a); intro a F
        refine gor 3 F H rfl .no rfl rfl rfl rfl (fun hb14_5 K2 hK2 => by
            refine gt F rfl rfl rfl rfl hb14_5 ?_
            refine st F H rfl rfl rfl (y_mv rfl) ?_; (try clear F a); intro a F
            refine gt F rfl rfl rfl rfl hb14_5 ?_
            refine s_callV F H rfl rfl .nil Try.call10 (begins_c g25 g7 g8 _ M1 _ H.only hM1 henv1.al henv1.h8 henv1.h7 (by rw [hI'.tk, List.length_take, Nat.min_eq_left (by have := hI'.th; have := hI'.hp; have := hI'.pl; omega)]) (by rw [hI'.tk, List.length_take]; have := hI'.th; have := hI'.hp; omega) hI'.pl) ?_; (try clear F H a); try clear w
            intro a w F H
            refine gt F rfl rfl rfl rfl hb14_5 ?_
            refine st F H rfl rfl rfl (y_not rfl) ?_; (try clear F a); intro a F
            exact nl (hK2 _ _ _ F rfl H)) ?_
        (try clear F H a); try clear w
        intro a w F H
        refine wpList_nil ?_
        refine cn F rfl (fun h14 => ?_) (fun h14 => ?_)
        · cases h14
        · refine wp_skip ?_
          refine ib_n ?_
          refine th_n ?_
          refine rg1 ?_
          refine st F H rfl rfl rfl (y_add rfl rfl) ?_; (try clear F a); intro a F
          refine st F H rfl rfl rfl (y_mv rfl) ?_; (try clear F a); intro a F
          refine wpList_nil ?_
          refine th_n ?_
          rw [wk (by omega)] at F
          have hb1 : (stepS (rowL N) S x.1 x.2).sent ≤ 9 * ((q + 1 : Nat) : Int) := by omega
          have hb2 : (stepS (rowL N) S x.1 x.2).went.length ≤ 9 * (q + 1) := by omega
          exact ⟨(q + 1, stepS (rowL N) S x.1 x.2, M1, B', h', t'), ⟨⟨hlt, hI', hM1.carry H (List.mem_cons_of_mem _ (List.mem_cons_of_mem _ (List.mem_cons_self ..))), henv1.carry H (List.mem_cons_of_mem _ (List.mem_cons_of_mem _ (List.mem_cons_self ..))), hb1, hb2⟩, F.cut ⟨rfl, rfl, rfl, rfl, rfl, rfl, trivial⟩, H.initB.initB⟩, by simp only; omega⟩
      · refine wp_exit (th_x (th_x (ib_x ?_)))
        refine th_n ?_
        refine wp_seq ?_
        refine rg ?_
        refine st F H rfl rfl rfl (y_as rfl) ?_; (try clear F a); intro a F
        refine wpList_nil ?_
        refine wp_block ?_
        have hL : (rowL N).length ≤ 21 := P.l.2
        obtain ⟨m0, hm0, hm44⟩ : ∃ m, Pot (rowL N).length B h t S m ∧ m ≤ 44 := by
          by_cases hcs : S.cs = []
          · exact ⟨_, .inr (.inl ⟨hcs, rfl⟩), by omega⟩
          · exact ⟨_, .inl ⟨hcs, rfl⟩, by omega⟩
        refine lp (fun (z : Nat × WS × WMem × Nat × Nat × Nat × Nat) a w => (Inv sess rm (rowL N) z.2.2.2.1 z.2.2.2.2.1 z.2.2.2.2.2.1 z.2.1 ∧ Pot (rowL N).length z.2.2.2.1 z.2.2.2.2.1 z.2.2.2.2.2.1 z.2.1 z.2.2.2.2.2.2 ∧ z.1 + z.2.2.2.2.2.2 ≤ 44 ∧ z.2.2.1.Ok z.2.1 (blks (z.2.2.1.cells g25 z.2.1)) w ∧ Env g25 g7 g8 (adr og23) cap23 (rowL N) (z.2.2.1.cells g25 z.2.1) w ∧ z.2.1.sent ≤ 1350 + 9 * (z.1 : Int) ∧ z.2.1.went.length ≤ 1350 + 9 * z.1) ∧
            Fr 134 [] [(7, .pointer (some ⟨g7, 0, none⟩)), (8, .pointer (some ⟨g8, 0, none⟩)), (11, .func (.func 10) #[] #[.pointer (some ⟨g8, 0, none⟩), .pointer (some ⟨g7, 0, none⟩)]), (14, .int .i64 z.1)] a ∧ Hp (z.2.2.1.cells g25 z.2.1) [⟨[], w0⟩] w) (fun z => z.2.2.2.2.2.2) (0, S, M, B, h, t, m0)
          ⟨⟨I, hm0, by simp only; omega, hM, henv, by simp only; omega, by simp only; omega⟩, F.cut ⟨rfl, rfl, rfl, rfl, trivial⟩, H.initB⟩ (fun z a w hI => ?_)
        clear F H hM henv hm0 hm44 I hsq hwq h12 hq q
        obtain ⟨k, S, M, B, h, t, m⟩ := z
        obtain ⟨⟨I, hm, hkm, hM, henv, hsq, hwq⟩, F, H⟩ := hI
        simp only at I hm hkm hM henv hsq hwq F H
        have H := H.atW
        refine wp_seq ?_
        refine rgq H mixed (by kernel_rfl) ?_
        refine stq F rfl rfl rfl (y_ld1a rfl Try.isAgg26 (fun w H => by rw [cell_of_blk (henv.carry H (List.mem_cons_of_mem _ (List.mem_cons_self ..))).h8]; rfl)) ?_; (try clear F a); intro a F
        refine stq F rfl rfl rfl (y_nil rfl) ?_; (try clear F a); intro a F
        refine stq F rfl rfl rfl (y_fa Try.underlying38 rfl Try.sizeOf24 rfl) ?_; (try clear F a); intro a F
        refine stq F rfl rfl rfl (y_ld1 (key := 9001) rfl rfl Try.isAgg24 rfl) ?_; (try clear F a); intro a F
        refine stq F rfl rfl rfl (y_len Try.underlying24 rfl) ?_; (try clear F a); intro a F
        refine stq F rfl rfl rfl (y_ld1a rfl Try.isAgg24 (fun w H => by rw [cell_of_blk (henv.carry H (List.mem_cons_of_mem _ (List.mem_cons_self ..))).h7]; rfl)) ?_; (try clear F a); intro a F
        refine stq F rfl rfl rfl (y_len Try.underlying24 rfl) ?_; (try clear F a); intro a F
        refine stq F rfl rfl rfl (y_lt rfl rfl) ?_; (try clear F a); intro a F
        refine nlq (fun w H => ?_)
        refine cn F rfl (fun h18 => ?_) (fun h18 => ?_)
        · have hlt : S.taken.length < (rowL N).length := by have hh := h18; simp at hh; omega
          have htl : S.taken.length = t := by rw [I.tk, List.length_take]; have := I.th; have := I.hp; have := I.pl; omega
          have e1 : stepS (rowL N) S 0 0 = round1 (rowL N) S := if_pos (by decide)
          have e2 : stepS (rowL N) (round1 (rowL N) S) 2 0 = round2 (rowL N) S := (if_neg (by decide)).trans ((if_neg (by decide)).trans (if_pos (by decide)))
          have e3 : stepS (rowL N) (round2 (rowL N) S) 1 0 = round3 (rowL N) S := (if_neg (by decide)).trans (if_pos (by decide))
          have hp1 := put_inv P I
          have I1 : Inv sess rm (rowL N) B h t (round1 (rowL N) S) := hp1.2.1
          have s1 : (round1 (rowL N) S).sent = S.sent := hp1.2.2.2.2.1
          have w1 : (round1 (rowL N) S).went = S.went := hp1.2.2.2.1
          obtain ⟨I2, s2, w2, _⟩ := round2_inv P I (by omega) (by omega)
          obtain ⟨I3, s3, w3⟩ := round3_inv P I (by omega) (by omega)
          obtain ⟨B5, h5', t5, m5, I5, hm5, hmm, s5, w5⟩ := round_pot P I (by omega) (by omega) hm (by omega)
          refine wp_skip ?_
          refine th_n ?_
          refine wp_seq ?_
          refine wp_block ?_
          refine wp_seq ?_
          refine rg ?_
          refine st F H rfl rfl rfl (y_mv rfl) ?_; (try clear F a); intro a F
          refine st F H rfl rfl rfl (y_gt rfl rfl) ?_; (try clear F a); intro a F
          rw [show decide ((200 : Int) < (k : Int)) = false by simp; omega] at F
          refine st F H rfl rfl rfl (y_mv rfl) ?_; (try clear F a); intro a F
          refine gt F rfl rfl rfl rfl rfl ?_
          refine st F H rfl rfl rfl (y_ld1a rfl Try.isAgg26 (fun w H => by rw [cell_of_blk (henv.carry H (List.mem_cons_of_mem _ (List.mem_cons_self ..))).h8]; rfl)) ?_; (try clear F a); intro a F
          refine gt F rfl rfl rfl rfl rfl ?_
          refine st F H rfl rfl rfl (y_build Try.zeroValue49 Try.underlying49 pl49 rfl .nil rfl) ?_; (try clear F a); intro a F
          refine gt F rfl rfl rfl rfl rfl ?_
          refine st F H rfl rfl rfl (y_ld1a rfl Try.isAgg24 (fun w H => by rw [cell_of_blk (henv.carry H (List.mem_cons_of_mem _ (List.mem_cons_self ..))).h7]; rfl)) ?_; (try clear F a); intro a F
          refine gt F rfl rfl rfl rfl rfl ?_
          refine s_wires F H rfl rfl (.cons rfl (.cons rfl (.cons rfl .nil))) Try.call11 rfl (fun hH3 => step_c g25 S M _ 0 0 hH3 (hM.carry (H.sel [9001, 9002, 9003] (by decide)) (List.mem_cons_of_mem _ (List.mem_cons_self ..))) ((henv.carry (H.sel [9001, 9002, 9003] (by decide)) (List.mem_cons_of_mem _ (List.mem_cons_self ..))).al) P I (by decide) (by decide) (by omega) (by omega)) ?_
          rintro _ M1 a w rfl hM1 F H
          rw [e1] at hM1 H
          have henv1 := henv.carry H (List.mem_cons_of_mem _ (List.mem_cons_self ..))
          have H := H.atW
          refine gt F rfl rfl rfl rfl rfl ?_
          refine st F H rfl rfl rfl (y_not rfl) ?_; (try clear F a); intro a F
          refine st F H rfl rfl rfl (y_pick rfl rfl rfl) ?_; (try clear F a); intro a F
          refine st F H rfl rfl rfl (y_mv rfl) ?_; (try clear F a); intro a F
          refine gt F rfl rfl rfl rfl rfl ?_
          refine st F H rfl rfl rfl (y_ld1a rfl Try.isAgg26 (fun w H => by rw [cell_of_blk (henv1.carry H (List.mem_cons_of_mem _ (List.mem_cons_of_mem _ (List.mem_cons_self ..)))).h8]; rfl)) ?_; (try clear F a); intro a F
          refine gt F rfl rfl rfl rfl rfl ?_
          refine st F H rfl rfl rfl (y_build Try.zeroValue49 Try.underlying49 pl49 rfl (.cons rfl .nil) rfl) ?_; (try clear F a); intro a F
          refine gt F rfl rfl rfl rfl rfl ?_
          refine st F H rfl rfl rfl (y_ld1a rfl Try.isAgg24 (fun w H => by rw [cell_of_blk (henv1.carry H (List.mem_cons_of_mem _ (List.mem_cons_of_mem _ (List.mem_cons_self ..)))).h7]; rfl)) ?_; (try clear F a); intro a F
          refine gt F rfl rfl rfl rfl rfl ?_
          refine s_wires F H rfl rfl (.cons rfl (.cons rfl (.cons rfl .nil))) Try.call11 rfl (fun hH3 => step_c g25 (round1 (rowL N) S) M1 _ 2 0 hH3 (hM1.carry (H.sel [9001, 9002, 9003] (by decide)) (List.mem_cons_of_mem _ (List.mem_cons_of_mem _ (List.mem_cons_self ..)))) ((henv1.carry (H.sel [9001, 9002, 9003] (by decide)) (List.mem_cons_of_mem _ (List.mem_cons_of_mem _ (List.mem_cons_self ..)))).al) P I1 (by decide) (by decide) (by omega) (by rw [w1]; omega)) ?_
          rintro _ M2 a w rfl hM2 F H
          rw [e2] at hM2 H
          have henv2 := henv1.carry H (List.mem_cons_of_mem _ (List.mem_cons_of_mem _ (List.mem_cons_self ..)))
          have H := H.atW
          refine gt F rfl rfl rfl rfl rfl ?_
          refine st F H rfl rfl rfl (y_not rfl) ?_; (try clear F a); intro a F
          refine st F H rfl rfl rfl (y_pick rfl rfl rfl) ?_; (try clear F a); intro a F
          refine st F H rfl rfl rfl (y_mv rfl) ?_; (try clear F a); intro a F
          refine gt F rfl rfl rfl rfl rfl ?_
          refine st F H rfl rfl rfl (y_ld1a rfl Try.isAgg26 (fun w H => by rw [cell_of_blk (henv2.carry H (List.mem_cons_of_mem _ (List.mem_cons_of_mem _ (List.mem_cons_of_mem _ (List.mem_cons_self ..))))).h8]; rfl)) ?_; (try clear F a); intro a F
          refine gt F rfl rfl rfl rfl rfl ?_
          refine st F H rfl rfl rfl (y_build Try.zeroValue49 Try.underlying49 pl49 rfl (.cons rfl .nil) rfl) ?_; (try clear F a); intro a F
          refine gt F rfl rfl rfl rfl rfl ?_
          refine st F H rfl rfl rfl (y_ld1a rfl Try.isAgg24 (fun w H => by rw [cell_of_blk (henv2.carry H (List.mem_cons_of_mem _ (List.mem_cons_of_mem _ (List.mem_cons_of_mem _ (List.mem_cons_self ..))))).h7]; rfl)) ?_; (try clear F a); intro a F
          refine gt F rfl rfl rfl rfl rfl ?_
          refine s_wires F H rfl rfl (.cons rfl (.cons rfl (.cons rfl .nil))) Try.call11 rfl (fun hH3 => step_c g25 (round2 (rowL N) S) M2 _ 1 0 hH3 (hM2.carry (H.sel [9001, 9002, 9003] (by decide)) (List.mem_cons_of_mem _ (List.mem_cons_of_mem _ (List.mem_cons_of_mem _ (List.mem_cons_self ..))))) ((henv2.carry (H.sel [9001, 9002, 9003] (by decide)) (List.mem_cons_of_mem _ (List.mem_cons_of_mem _ (List.mem_cons_of_mem _ (List.mem_cons_self ..))))).al) P I2 (by decide) (by decide) (by omega) (by omega)) ?_
          rintro _ M3 a w rfl hM3 F H
          rw [e3] at hM3 H
          have henv3 := henv2.carry H (List.mem_cons_of_mem _ (List.mem_cons_of_mem _ (List.mem_cons_of_mem _ (List.mem_cons_self ..))))
          have H := H.initB.initB.initB
          refine gt F rfl rfl rfl rfl rfl ?_
          refine st F H rfl rfl rfl (y_not rfl) ?_; (try clear F a); intro a F
          refine st F H rfl rfl rfl (y_pick rfl rfl rfl) ?_; (try clear F a); intro a F
          refine wpList_nil ?_
          refine cn F rfl (fun h20 => ?_) (fun h20 => ?_)
          · cases h20
          · refine wp_skip ?_
            refine th_n ?_
            refine wp_seq ?_
            refine rg ?_
            refine st F H rfl rfl rfl (y_as rfl) ?_; (try clear F a); intro a F
            refine wpList_nil ?_
            refine wp_block ?_
            obtain ⟨R3, hR3⟩ : ∃ R, R = round3 (rowL N) S := ⟨_, rfl⟩
            have hRE : roundE (rowL N) S = (takeStep (drain R3.cs.length R3)).1 := by rw [hR3]; rfl
            rw [← hR3] at hM3 henv3 H I3 s3 w3
            have hC : R3.cs.length ≤ 60 := I3.net.len
            refine lp (fun (z : Nat × WMem × Nat × Nat) a w => (z.1 ≤ R3.cs.length ∧ Inv sess rm (rowL N) z.2.2.1 z.2.2.2 t (drain z.1 R3) ∧ (drain z.1 R3).sent = R3.sent ∧ (drain z.1 R3).went = R3.went ∧ z.2.1.Ok (drain z.1 R3) (blks (z.2.1.cells g25 (drain z.1 R3))) w ∧ Env g25 g7 g8 (adr og23) cap23 (rowL N) (z.2.1.cells g25 (drain z.1 R3)) w) ∧
                Fr 134 [] [(7, .pointer (some ⟨g7, 0, none⟩)), (8, .pointer (some ⟨g8, 0, none⟩)), (11, .func (.func 10) #[] #[.pointer (some ⟨g8, 0, none⟩), .pointer (some ⟨g7, 0, none⟩)]), (14, .int .i64 k), (15, .int .i64 z.1)] a ∧ Hp (z.2.1.cells g25 (drain z.1 R3)) [⟨[], w0⟩] w) (fun z => R3.cs.length - z.1) (0, M3, B, h)
              ⟨⟨Nat.zero_le _, I3, rfl, rfl, hM3, henv3⟩, F.cut ⟨rfl, rfl, rfl, rfl, rfl, trivial⟩, H⟩ (fun z a w hI => ?_)
            clear F H hM3 henv3 hM henv hM1 hM2 henv1 henv2 I3
            obtain ⟨jj, Mj, Bj, hj⟩ := z
            obtain ⟨⟨hjC, Ij, hsj, hwj, hMj, henvj⟩, F, H⟩ := hI
            simp only at hjC Ij hsj hwj hMj henvj F H
            have H := H.atW
            have hlj : Mj.ps.length = R3.cs.length - jj := by
              have e : (Mj.ps.map Par.c).length = _ := congrArg List.length hMj.pc
              rw [List.length_map, drain_cs, List.length_drop] at e
              exact e
            refine wp_seq ?_
            refine rg ?_
            refine st F H rfl rfl rfl (y_ld1a rfl Try.isAgg26 (fun w H => by rw [cell_of_blk (henvj.carry H (List.mem_cons_of_mem _ (List.mem_cons_self ..))).h8]; rfl)) ?_; (try clear F a); intro a F
            refine st F H rfl rfl rfl (y_nil rfl) ?_; (try clear F a); intro a F
            refine st F H rfl rfl rfl (y_fa Try.underlying38 rfl Try.sizeOf35 rfl) ?_; (try clear F a); intro a F
            refine st F H rfl rfl rfl (y_fa Try.underlying35 rfl Try.sizeOf33 rfl) ?_; (try clear F a); intro a F
            refine st F H rfl rfl rfl (y_ld1 (key := 9001) rfl rfl Try.isAgg33 rfl) ?_; (try clear F a); intro a F
            refine st F H rfl rfl rfl (y_len Try.underlying33 rfl) ?_; (try clear F a); intro a F
            refine st F H rfl rfl rfl (y_gt rfl rfl) ?_; (try clear F a); intro a F
            refine wpList_nil ?_
            refine cn F rfl (fun h23 => ?_) (fun h23 => ?_)
            · have hjlt : jj < R3.cs.length := by have hh := h23; simp at hh; omega
              obtain ⟨hcb, B2, h2, _, _, I2j, g4, g5, _, _⟩ := comes_inv P Ij 0 false
              rw [← drain_succ] at I2j g4 g5
              refine wp_skip ?_
              refine th_n ?_
              refine wp_seq ?_
              refine wp_block ?_
              refine rg ?_
              refine st F H rfl rfl rfl (y_mv rfl) ?_; (try clear F a); intro a F
              refine st F H rfl rfl rfl (y_gt rfl rfl) ?_; (try clear F a); intro a F
              rw [show decide ((200 : Int) < (jj : Int)) = false by simp; omega] at F
              refine st F H rfl rfl rfl (y_mv rfl) ?_; (try clear F a); intro a F
              refine gt F rfl rfl rfl rfl rfl ?_
              refine st F H rfl rfl rfl (y_ld1a rfl Try.isAgg26 (fun w H => by rw [cell_of_blk (henvj.carry H (List.mem_cons_of_mem _ (List.mem_cons_self ..))).h8]; rfl)) ?_; (try clear F a); intro a F
              refine gt F rfl rfl rfl rfl rfl ?_
              refine s_wires F H rfl rfl (.cons rfl (.cons rfl (.cons rfl .nil))) Try.call12 rfl (fun hH3 => comesAll_c g25 (drain jj R3) Mj _ 0 false hH3 (hMj.carry (H.sel [9001, 9002, 9003] (by decide)) (List.mem_cons_of_mem _ (List.mem_cons_self ..))) Ij.net Ij.csOk) ?_
              rintro _ M4 a w rfl hM4 F H
              rw [hcb] at F
              rw [← drain_succ] at hM4 H
              have henv4 := henvj.carry H (List.mem_cons_of_mem _ (List.mem_cons_self ..))
              refine gt F rfl rfl rfl rfl rfl ?_
              refine st F H rfl rfl rfl (y_not rfl) ?_; (try clear F a); intro a F
              refine st F H rfl rfl rfl (y_pick rfl rfl rfl) ?_; (try clear F a); intro a F
              refine wpList_nil ?_
              refine cn F rfl (fun h25 => ?_) (fun h25 => ?_)
              · cases h25
              · refine wp_skip ?_
                refine ib_n ?_
                refine th_n ?_
                refine rg1 ?_
                refine st F H rfl rfl rfl (y_mv rfl) ?_; (try clear F a); intro a F
                refine st F H rfl rfl rfl (y_add rfl rfl) ?_; (try clear F a); intro a F
                refine st F H rfl rfl rfl (y_as rfl) ?_; (try clear F a); intro a F
                refine wpList_nil ?_
                refine th_n ?_
                rw [wk (by omega)] at F
                exact ⟨(jj + 1, M4, B2, h2), ⟨⟨hjlt, I2j, g5.trans hsj, g4.trans hwj, hM4, henv4⟩, F.cut ⟨rfl, rfl, rfl, rfl, rfl, trivial⟩, H.initB⟩, by simp only; omega⟩
            · have hjj : jj = R3.cs.length := by
                have hh : ¬ ((0 : Int) < (Mj.ps.length : Int)) := by simpa only [decide_eq_false_iff_not] using h23
                omega
              subst hjj
              have e6 : stepS (rowL N) (drain R3.cs.length R3) 6 0 = roundE (rowL N) S := by
                rw [hRE]
                exact (if_neg (by decide)).trans ((if_neg (by decide)).trans ((if_neg (by decide)).trans ((if_neg (by decide)).trans (if_neg (by decide)))))
              refine wp_exit (th_x (th_x (ib_x ?_)))
              refine th_n ?_
              refine rg ?_
              refine st F H rfl rfl rfl (y_ld1a rfl Try.isAgg26 (fun w H => by rw [cell_of_blk (henvj.carry H (List.mem_cons_of_mem _ (List.mem_cons_self ..))).h8]; rfl)) ?_; (try clear F a); intro a F
              refine st F H rfl rfl rfl (y_build Try.zeroValue49 Try.underlying49 pl49 rfl (.cons rfl .nil) rfl) ?_; (try clear F a); intro a F
              refine st F H rfl rfl rfl (y_ld1a rfl Try.isAgg24 (fun w H => by rw [cell_of_blk (henvj.carry H (List.mem_cons_of_mem _ (List.mem_cons_self ..))).h7]; rfl)) ?_; (try clear F a); intro a F
              refine s_wires F H rfl rfl (.cons rfl (.cons rfl (.cons rfl .nil))) Try.call11 rfl (fun hH3 => step_c g25 (drain R3.cs.length R3) Mj _ 6 0 hH3 (hMj.carry (H.sel [9001, 9002, 9003] (by decide)) (List.mem_cons_of_mem _ (List.mem_cons_self ..))) ((henvj.carry (H.sel [9001, 9002, 9003] (by decide)) (List.mem_cons_of_mem _ (List.mem_cons_self ..))).al) P Ij (by decide) (by decide) (by rw [hsj]; omega) (by rw [hwj]; omega)) ?_
              rintro _ M5 a w rfl hM5 F H
              rw [e6] at hM5 H
              have henv5 := henvj.carry H (List.mem_cons_of_mem _ (List.mem_cons_self ..))
              have H := H.atW
              refine st F H rfl rfl rfl (y_not rfl) ?_; (try clear F a); intro a F
              refine st F H rfl rfl rfl (y_mv rfl) ?_; (try clear F a); intro a F
              refine gor 3 F H rfl .no rfl rfl rfl rfl (fun hb27_5 K3 hK3 => by
                  refine gt F rfl rfl rfl rfl hb27_5 ?_
                  refine st F H rfl rfl rfl (y_mv rfl) ?_; (try clear F a); intro a F
                  refine gt F rfl rfl rfl rfl hb27_5 ?_
                  refine s_callV F H rfl rfl .nil Try.call10 (begins_c g25 g7 g8 _ M5 _ H.only hM5 henv5.al henv5.h8 henv5.h7 (by rw [I5.tk, List.length_take, Nat.min_eq_left (by have := I5.th; have := I5.hp; have := I5.pl; omega)]) (by rw [I5.tk, List.length_take]; have := I5.th; have := I5.hp; omega) I5.pl) ?_; (try clear F H a); try clear w
                  intro a w F H
                  refine gt F rfl rfl rfl rfl hb27_5 ?_
                  refine st F H rfl rfl rfl (y_not rfl) ?_; (try clear F a); intro a F
                  exact nl (hK3 _ _ _ F rfl H)) ?_
              (try clear F H a); try clear w
              intro a w F H
              refine wpList_nil ?_
              refine cn F rfl (fun h27 => ?_) (fun h27 => ?_)
              · cases h27
              · refine wp_skip ?_
                refine ib_n ?_
                refine th_n ?_
                refine rg1 ?_
                refine st F H rfl rfl rfl (y_mv rfl) ?_; (try clear F a); intro a F
                refine st F H rfl rfl rfl (y_add rfl rfl) ?_; (try clear F a); intro a F
                refine st F H rfl rfl rfl (y_as rfl) ?_; (try clear F a); intro a F
                refine wpList_nil ?_
                refine th_n ?_
                rw [wk (by omega)] at F
                have hb1 : (roundE (rowL N) S).sent ≤ 1350 + 9 * ((k + 1 : Nat) : Int) := by omega
                have hb2 : (roundE (rowL N) S).went.length ≤ 1350 + 9 * (k + 1) := by omega
                exact ⟨(k + 1, roundE (rowL N) S, M5, B5, h5', t5, m5), ⟨⟨I5, hm5, by simp only; omega, hM5.carry H (List.mem_cons_of_mem _ (List.mem_cons_of_mem _ (List.mem_cons_self ..))), henv5.carry H (List.mem_cons_of_mem _ (List.mem_cons_of_mem _ (List.mem_cons_self ..))), hb1, hb2⟩, F.cut ⟨rfl, rfl, rfl, rfl, trivial⟩, H.initB.initB⟩, by simp only; omega⟩
        · refine wp_exit (th_x (th_x (ib_x ?_)))
          refine th_n ?_
          refine rg ?_
          refine s_callV F H rfl rfl .nil Try.call6 (linked_c _) ?_; (try clear F H a); try clear w
          intro a w F H
          refine st F H rfl rfl rfl (y_as rfl) ?_; (try clear F a); intro a F
          refine wpList_nil ?_
          refine wp_ret (ret1 F H rfl (rv rfl) ⟨_, rfl, H.b0, ?_⟩)
          (try clear F H a)
          all_goals rfl
end Go.Proofs.Ytilakloilkkfmaa
