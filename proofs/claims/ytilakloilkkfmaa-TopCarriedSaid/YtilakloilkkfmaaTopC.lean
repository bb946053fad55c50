/-
  headracetop: a parcel comes.
-/
import Derived.Test.YtilakloilkkfmaaTopB
namespace Go.Proofs.Ytilakloilkkfmaa
open Go Go.Sx
set_option maxRecDepth 10000
-- @uses Rec LinkA Clones LinkB LinkC Send NetA NetB NetC TopA TopB
theorem pickN_c {E : List Nat} {w0 : World} {ad : Option Addr} {cap : Nat} {ps : List Par} {sent : Int} (k : Int) (hs : NetS E w0 ad cap ps) (hok : NetOk sent (ps.map Par.c)) (h : ¬ ps.length = 0) :
    CallsTo Try.prog 38 [.agg #[.int .u64 sent, .slice ad ps.length cap], .int .i64 k] w0 [] fun v _ => v = .tuple #[.int .u64 (ps.getD (k.toNat % ps.length) default).c.n, .bool true] :=
  (pick_c k hs hok).mono fun v w' _ e => by rw [if_neg h] at e; exact e
theorem pickE_c {E : List Nat} {w0 : World} {ad : Option Addr} {cap : Nat} {ps : List Par} {sent : Int} (k : Int) (hs : NetS E w0 ad cap ps) (hok : NetOk sent (ps.map Par.c)) (h : ps.length = 0) :
    CallsTo Try.prog 38 [.agg #[.int .u64 sent, .slice ad ps.length cap], .int .i64 k] w0 [] fun v _ => v = .tuple #[.int .u64 0, .bool false] :=
  (pick_c k hs hok).mono fun v w' _ e => by rw [if_pos h] at e; exact e
theorem comesE_c (g : Nat) (S : WS) (M : WMem) (w0 : World) (k : Int) (stays : Bool) (hH : Hp (M.cells g S) [] w0) (hM : M.Ok S (blks (M.cells g S)) w0) (hok : NetOk S.sent S.cs) (h0 : S.cs.length = 0) :
    CallsTo Try.prog 12 [.pointer (some ⟨g, 0, none⟩), .int .i64 k, .bool stays] w0 (blks (M.cells g S)) fun v w' => v = .bool true ∧ RetW g (M.cells g S) w0 S w' := by
  have hl : M.ps.length = 0 := by rw [← h0, ← hM.pc]; simp
  refine enter (m := 114) Try.func12 rfl rfl rfl ?_; intro a F
  have H : Hp (M.cells g S) [⟨blks (M.cells g S), w0⟩] w0 := hH.atW
  refine rg ?_
  refine st F H rfl rfl rfl (y_as rfl) ?_; (try clear F a); intro a F
  refine wpList_nil ?_
  refine rg ?_
  refine st F H rfl rfl rfl (y_mv rfl) ?_; (try clear F a); intro a F
  refine st F H rfl rfl rfl (y_nil rfl) ?_; (try clear F a); intro a F
  refine st F H rfl rfl rfl (y_fa Try.underlying38 rfl Try.sizeOf35 rfl) ?_; (try clear F a); intro a F
  refine st F H rfl rfl rfl (y_ld (key := 9001) rfl rfl Try.isAgg35 Try.sizeOf35 rfl) ?_; (try clear F a); intro a F
  refine st F H rfl rfl rfl (y_mv rfl) ?_; (try clear F a); intro a F
  refine s_callV F H rfl rfl (.cons rfl (.cons rfl .nil)) Try.call38 (pickE_c k ((hM.carry H (List.mem_cons_self ..)).nn) (by rw [hM.pc]; exact hok) hl) ?_; (try clear F H a); try clear w
  intro a w F H
  refine st F H rfl rfl rfl (y_mv rfl) ?_; (try clear F a); intro a F
  refine st F H rfl rfl rfl (y_ext rfl rfl) ?_; (try clear F a); intro a F
  refine st F H rfl rfl rfl (y_ext rfl rfl) ?_; (try clear F a); intro a F
  refine st F H rfl rfl rfl (y_as rfl) ?_; (try clear F a); intro a F
  refine st F H rfl rfl rfl (y_as rfl) ?_; (try clear F a); intro a F
  refine wpList_nil ?_
  refine wp_seq ?_
  refine rg ?_
  refine st F H rfl rfl rfl (y_mv rfl) ?_; (try clear F a); intro a F
  refine st F H rfl rfl rfl (y_not rfl) ?_; (try clear F a); intro a F
  refine wpList_nil ?_
  refine cn F rfl (fun h2 => ?_) (fun h2 => ?_)
  · refine rg ?_
    refine st F H rfl rfl rfl (y_mv rfl) ?_; (try clear F a); intro a F
    refine st F H rfl rfl rfl (y_nil rfl) ?_; (try clear F a); intro a F
    refine st F H rfl rfl rfl (y_fa Try.underlying38 rfl Try.sizeOf35 rfl) ?_; (try clear F a); intro a F
    refine st F H rfl rfl rfl (y_fa Try.underlying35 rfl Try.sizeOf33 rfl) ?_; (try clear F a); intro a F
    refine st F H rfl rfl rfl (y_ld1 (key := 9001) rfl rfl Try.isAgg33 rfl) ?_; (try clear F a); intro a F
    refine st F H rfl rfl rfl (y_len Try.underlying33 rfl) ?_; (try clear F a); intro a F
    refine st F H rfl rfl rfl (y_eq rfl rfl) ?_; (try clear F a); intro a F
    refine st F H rfl rfl rfl (y_as rfl) ?_; (try clear F a); intro a F
    refine wpList_nil ?_
    refine wp_ret (th_r (ret1 F H rfl (rv rfl) ⟨_, rfl, H.b0, ?_⟩))
    exact ⟨by rw [hl]; rfl, M, H, hM.carry H (List.mem_cons_self ..)⟩
  · cases h2
theorem orIdx {b0 b1 : Int} (h0 : 0 ≤ b0 ∧ b0 ≤ 255) (h1 : 0 ≤ b1 ∧ b1 ≤ 255) :
    IntKind.i64.wrap (((IntKind.i64.wrap (IntKind.i64.wrap b0 * 2 ^ 8) % 2 ^ IntKind.i64.bits).toNat ||| (IntKind.i64.wrap b1 % 2 ^ IntKind.i64.bits).toNat : Nat)) = ((b0 * 256 + b1).toNat : Nat) := by
  have hb : (2 : Int) ^ IntKind.i64.bits = 18446744073709551616 := rfl
  rw [wi64 (x := b0) (by omega), wi64 (x := b1) (by omega), wi64 (x := b0 * 2 ^ 8) (by omega), hb]
  have e1 : (b0 * 2 ^ 8 % 18446744073709551616).toNat = 2 ^ 8 * b0.toNat := by omega
  have e2 : (b1 % 18446744073709551616).toNat = b1.toNat := by omega
  rw [e1, e2, ← Nat.two_pow_add_eq_or_of_lt (i := 8) (by omega : b1.toNat < 2 ^ 8), wi64 (by omega)]
  omega
/-- the wires behind a parcel that comes -/
def comesN (S : WS) (J : Nat) (stays : Bool) (t : Int) (pk : Pck) : WS :=
  if t = 5 then { S with cs := if stays = true then S.cs else S.cs.take J ++ S.cs.drop (J + 1), r := (hearR S.r pk).1 }
  else { S with cs := if stays = true then S.cs else S.cs.take J ++ S.cs.drop (J + 1), s := (ackS S.s pk).1 }
def comesE (S : WS) (t : Int) (pk : Pck) : Int := if t = 5 then (hearR S.r pk).2 else (ackS S.s pk).2
theorem comes_c (g : Nat) (S : WS) (M : WMem) (w0 : World) (k : Int) (stays : Bool) (hH : Hp (M.cells g S) [] w0) (hM : M.Ok S (blks (M.cells g S)) w0) (hok : NetOk S.sent S.cs) (h0 : ¬ S.cs.length = 0)
    (c : PC) (hc0 : S.cs[k.toNat % S.cs.length]? = some c) (b0 b1 : Int) (hb : c.b = [b0, b1]) (hb0 : 0 ≤ b0 ∧ b0 ≤ 255) (hb1 : 0 ≤ b1 ∧ b1 ≤ 255) (pk : Pck) (hpk : S.went[(b0 * 256 + b1).toNat]? = some pk) :
    CallsTo Try.prog 12 [.pointer (some ⟨g, 0, none⟩), .int .i64 k, .bool stays] w0 (blks (M.cells g S)) fun v w' => v = .bool (comesE S c.t pk == 0) ∧ RetW g (M.cells g S) w0 (comesN S (k.toNat % S.cs.length) stays c.t pk) w' := by
  have hl : M.ps.length = S.cs.length := by rw [← hM.pc]; simp
  obtain ⟨J, hJ⟩ : ∃ J, J = k.toNat % S.cs.length := ⟨_, rfl⟩
  have hJl : J < S.cs.length := by rw [hJ]; exact Nat.mod_lt _ (by omega)
  have hp0 := getd (l := M.ps) (k := J) (by omega)
  obtain ⟨p0, hp0e⟩ : ∃ p0, p0 = M.ps.getD J default := ⟨_, rfl⟩
  rw [← hp0e] at hp0
  have hpc : p0.c = c := by
    have : (M.ps.map Par.c)[J]? = some p0.c := by rw [List.getElem?_map, hp0]; rfl
    rw [hM.pc, hJ, hc0] at this
    exact (Option.some.inj this).symm
  have hil := (List.getElem?_eq_some_iff.1 hpk).1
  obtain ⟨gw, hgw⟩ := hM.rw.isSome (by omega)
  have hwa : adr M.ogw = some ⟨gw, 0, none⟩ := by rw [hgw]; rfl
  rw [← hJ]
  refine enter (m := 114) Try.func12 rfl rfl rfl ?_; intro a F
  have H : Hp (M.cells g S) [⟨blks (M.cells g S), w0⟩] w0 := hH.atW
  refine rg ?_
  refine st F H rfl rfl rfl (y_as rfl) ?_; (try clear F a); intro a F
  refine wpList_nil ?_
  refine rg ?_
  refine st F H rfl rfl rfl (y_mv rfl) ?_; (try clear F a); intro a F
  refine st F H rfl rfl rfl (y_nil rfl) ?_; (try clear F a); intro a F
  refine st F H rfl rfl rfl (y_fa Try.underlying38 rfl Try.sizeOf35 rfl) ?_; (try clear F a); intro a F
  refine st F H rfl rfl rfl (y_ld (key := 9001) rfl rfl Try.isAgg35 Try.sizeOf35 rfl) ?_; (try clear F a); intro a F
  refine st F H rfl rfl rfl (y_mv rfl) ?_; (try clear F a); intro a F
  refine s_callV F H rfl rfl (.cons rfl (.cons rfl .nil)) Try.call38 (pickN_c k ((hM.carry H (List.mem_cons_self ..)).nn) (by rw [hM.pc]; exact hok) (by omega)) ?_; (try clear F H a); try clear w
  intro a w F H
  refine st F H rfl rfl rfl (y_mv rfl) ?_; (try clear F a); intro a F
  refine st F H rfl rfl rfl (y_ext rfl rfl) ?_; (try clear F a); intro a F
  refine st F H rfl rfl rfl (y_ext rfl rfl) ?_; (try clear F a); intro a F
  refine st F H rfl rfl rfl (y_as rfl) ?_; (try clear F a); intro a F
  refine st F H rfl rfl rfl (y_as rfl) ?_; (try clear F a); intro a F
  refine wpList_nil ?_
  refine wp_seq ?_
  refine rg ?_
  refine st F H rfl rfl rfl (y_mv rfl) ?_; (try clear F a); intro a F
  refine st F H rfl rfl rfl (y_not rfl) ?_; (try clear F a); intro a F
  refine wpList_nil ?_
  refine cn F rfl (fun h2 => ?_) (fun h2 => ?_)
  · cases h2
  · refine wp_skip ?_
    refine th_n ?_
    refine rg ?_
    rw [show M.ps.getD (k.toNat % M.ps.length) default = p0 by rw [hl, ← hJ, hp0e]] at F
    refine st F H rfl rfl rfl (y_mv rfl) ?_; (try clear F a); intro a F
    refine st F H rfl rfl rfl (y_nil rfl) ?_; (try clear F a); intro a F
    refine st F H rfl rfl rfl (y_fa Try.underlying38 rfl Try.sizeOf35 rfl) ?_; (try clear F a); intro a F
    refine st F H rfl rfl rfl (y_ld (key := 9001) rfl rfl Try.isAgg35 Try.sizeOf35 rfl) ?_; (try clear F a); intro a F
    refine st F H rfl rfl rfl (y_mv rfl) ?_; (try clear F a); intro a F
    refine st F H rfl rfl rfl (y_mv rfl) ?_; (try clear F a); intro a F
    have hcl := H.blkR
    refine s_call F H rfl rfl (.cons rfl (.cons rfl (.cons rfl .nil))) Try.call41 (come_c J p0 stays ((hM.carry H (List.mem_cons_self ..)).nn) (by rw [hM.pc]; exact hok) hp0) ?_
    rintro _ a w ⟨ad6, cap6, ps6, q6, rfl, hn6, hq6, hqb6, hc6⟩ hO F H
    have hn6 := hn6.less hcl
    have hqb6 := hqb6.less hcl
    have H := H.atW
    have hqc : q6.c = c := hq6.trans hpc
    have hqb : q6.c.b = [b0, b1] := by rw [hqc]; exact hb
    obtain ⟨gb, ob, hqa, hgb⟩ := hqb6.addr (by rw [hqb]; simp)
    refine st F H rfl rfl rfl (y_mv rfl) ?_; (try clear F a); intro a F
    refine st F H rfl rfl rfl (y_ext rfl rfl) ?_; (try clear F a); intro a F
    refine st F H rfl rfl rfl (y_ext rfl rfl) ?_; (try clear F a); intro a F
    refine st F H rfl rfl rfl (y_ext rfl rfl) ?_; (try clear F a); intro a F
    refine s_alloc 9 F H rfl Try.zeroValue35 rfl ?_; intro g9; (try clear F H a); try clear w
    intro a w F H
    refine s_alloc 10 F H rfl Try.zeroValue131 rfl ?_; intro g10; (try clear F H a); try clear w
    intro a w F H
    refine s_st (key := 9) F H rfl rfl rfl rfl Try.sizeOf35 rfl rfl rfl ?_; (try clear F H a); try clear w
    intro a w F H
    refine s_st (key := 10) F H rfl rfl rfl rfl Try.sizeOf131 rfl rfl rfl ?_; (try clear F H a); try clear w
    intro a w F H
    refine st F H rfl rfl rfl (y_as rfl) ?_; (try clear F a); intro a F
    refine wpList_nil ?_
    refine wp_seq ?_
    refine rg ?_
    refine st F H rfl rfl rfl (y_mv rfl) ?_; (try clear F a); intro a F
    refine st F H rfl rfl rfl (y_ne rfl rfl) ?_; (try clear F a); intro a F
    refine st F H rfl rfl rfl (y_mv rfl) ?_; (try clear F a); intro a F
    refine gor 4 F H rfl .no rfl rfl rfl rfl (fun hb5_2 K1 hK1 => by
        refine gt F rfl rfl rfl rfl hb5_2 ?_
        refine st F H rfl rfl rfl (y_fa Try.underlying131 rfl Try.sizeOf129 rfl) ?_; (try clear F a); intro a F
        refine gt F rfl rfl rfl rfl hb5_2 ?_
        refine st F H rfl rfl rfl (y_ld1 (key := 10) rfl rfl Try.isAgg129 rfl) ?_; (try clear F a); intro a F
        refine gt F rfl rfl rfl rfl hb5_2 ?_
        refine st F H rfl rfl rfl (y_len Try.underlying129 rfl) ?_; (try clear F a); intro a F
        refine gt F rfl rfl rfl rfl hb5_2 ?_
        refine st F H rfl rfl rfl (y_ne rfl rfl) ?_; (try clear F a); intro a F
        exact nl (hK1 _ _ _ F rfl H)) ?_
    (try clear F H a); try clear w
    intro a w F H
    refine wpList_nil ?_
    refine cn F rfl (fun h5 => ?_) (fun h5 => ?_)
    · rw [hqb] at h5; cases h5
    · refine wp_skip ?_
      refine th_n ?_
      refine rgq H mixed (by kernel_rfl) ?_
      refine stq F rfl rfl rfl (y_fa Try.underlying131 rfl Try.sizeOf129 rfl) ?_; (try clear F a); intro a F
      refine stq F rfl rfl rfl (y_ld1 (key := 10) rfl rfl Try.isAgg129 rfl) ?_; (try clear F a); intro a F
      refine stq F rfl rfl rfl (y_ix Try.underlying129 Try.sizeOf5 rfl rfl hqa 0 rfl (by rw [hqb]; simp)) ?_; (try clear F a); intro a F
      refine stq F rfl rfl rfl (y_ld1a rfl Try.isAgg5 (fun w H => (show Sl _ w 1 bc (some ⟨gb, ob, none⟩) _ _ _ from hqa ▸ hqb6.carry bc.wid (by decide) H (List.mem_cons_of_mem _ (List.mem_cons_self ..))).at (i := 0) (x := b0) (by rw [hqb]; rfl) 0 _ rfl)) ?_; (try clear F a); intro a F
      refine stq F rfl rfl rfl (y_cvi Try.underlying5 Try.underlying3 rfl) ?_; (try clear F a); intro a F
      refine stq F rfl rfl rfl (y_shl 8 rfl rfl rfl) ?_; (try clear F a); intro a F
      refine stq F rfl rfl rfl (y_fa Try.underlying131 rfl Try.sizeOf129 rfl) ?_; (try clear F a); intro a F
      refine stq F rfl rfl rfl (y_ld1 (key := 10) rfl rfl Try.isAgg129 rfl) ?_; (try clear F a); intro a F
      refine stq F rfl rfl rfl (y_ix Try.underlying129 Try.sizeOf5 rfl rfl hqa 1 rfl (by rw [hqb]; simp)) ?_; (try clear F a); intro a F
      refine stq F rfl rfl rfl (y_ld1a rfl Try.isAgg5 (fun w H => (show Sl _ w 1 bc (some ⟨gb, ob, none⟩) _ _ _ from hqa ▸ hqb6.carry bc.wid (by decide) H (List.mem_cons_of_mem _ (List.mem_cons_self ..))).at (i := 1) (x := b1) (by rw [hqb]; rfl) 0 _ rfl)) ?_; (try clear F a); intro a F
      refine stq F rfl rfl rfl (y_cvi Try.underlying5 Try.underlying3 rfl) ?_; (try clear F a); intro a F
      refine stq F rfl rfl rfl (y_or rfl rfl) ?_; (try clear F a); intro a F
      refine stq F rfl rfl rfl (y_as rfl) ?_; (try clear F a); intro a F
      refine nlq (fun w H => ?_)
      refine wp_seq ?_
      refine rg ?_
      rw [orIdx hb0 hb1] at F
      refine st F H rfl rfl rfl (y_mv rfl) ?_; (try clear F a); intro a F
      refine st F H rfl rfl rfl (y_mv rfl) ?_; (try clear F a); intro a F
      refine st F H rfl rfl rfl (y_nil rfl) ?_; (try clear F a); intro a F
      refine st F H rfl rfl rfl (y_fa Try.underlying38 rfl Try.sizeOf36 rfl) ?_; (try clear F a); intro a F
      refine st F H rfl rfl rfl (y_ld1 (key := 9001) rfl rfl Try.isAgg36 rfl) ?_; (try clear F a); intro a F
      refine st F H rfl rfl rfl (y_len Try.underlying36 rfl) ?_; (try clear F a); intro a F
      refine st F H rfl rfl rfl (y_ge rfl rfl) ?_; (try clear F a); intro a F
      refine wpList_nil ?_
      refine cn F rfl (fun h8 => ?_) (fun h8 => ?_)
      · simp at h8; omega
      · refine wp_skip ?_
        refine th_n ?_
        refine rg ?_
        refine st F H rfl rfl rfl (y_mv rfl) ?_; (try clear F a); intro a F
        refine st F H rfl rfl rfl (y_ld (key := 9) rfl rfl Try.isAgg35 Try.sizeOf35 rfl) ?_; (try clear F a); intro a F
        refine st F H rfl rfl rfl (y_nil rfl) ?_; (try clear F a); intro a F
        refine st F H rfl rfl rfl (y_fa Try.underlying38 rfl Try.sizeOf35 rfl) ?_; (try clear F a); intro a F
        refine s_st (key := 9001) F H rfl rfl rfl rfl Try.sizeOf35 rfl rfl rfl ?_; (try clear F H a); try clear w
        intro a w F H
        refine wpList_nil ?_
        refine wp_seq ?_
        refine rg ?_
        refine st F H rfl rfl rfl (y_fa Try.underlying131 rfl Try.sizeOf3 rfl) ?_; (try clear F a); intro a F
        refine st F H rfl rfl rfl (y_ld1 (key := 10) rfl rfl Try.isAgg3 rfl) ?_; (try clear F a); intro a F
        refine st F H rfl rfl rfl (y_eq rfl rfl) ?_; (try clear F a); intro a F
        refine wpList_nil ?_
        refine cn F rfl (fun h11 => ?_) (fun h11 => ?_)
        · refine rgd1H [0, 1, 2, 3, 4, 5, 6, 7, 8, 9, 10, 11, 12, 13, 14, 15] [0, 1, 2, 3, 4, 5, 6, 7, 8, 9, 10, 11, 12, 13, 14, 15, 16, 17, 18] [] [9001] H mixed ?_
          have H := H.old (Old.drew _)
          have HS := (H.rms [])
          have HT := (H.rms [9001])
          refine tk 0 F HS (by kernel_rfl) rfl rfl rfl .no (y_mv rfl) ?_; (try clear F a); intro a F
          refine tk 1 F HS (by kernel_rfl) rfl rfl rfl .no (y_mv rfl) ?_; (try clear F a); intro a F
          refine tk 2 F HS (by kernel_rfl) rfl rfl rfl .no (y_nil rfl) ?_; (try clear F a); intro a F
          refine tk 3 F HS (by kernel_rfl) rfl rfl rfl .no (y_fa Try.underlying38 rfl Try.sizeOf32 rfl) ?_; (try clear F a); intro a F
          refine tk 4 F HS (by kernel_rfl) rfl rfl rfl .no (y_ld (key := 9001) rfl rfl Try.isAgg32 Try.sizeOf32 rfl) ?_; (try clear F a); intro a F
          refine tk 5 F HS (by kernel_rfl) rfl rfl rfl .no (y_mv rfl) ?_; (try clear F a); intro a F
          refine tk 6 F HS (by kernel_rfl) rfl rfl rfl .no (y_nil rfl) ?_; (try clear F a); intro a F
          refine tk 7 F HS (by kernel_rfl) rfl rfl rfl .no (y_fa Try.underlying38 rfl Try.sizeOf36 rfl) ?_; (try clear F a); intro a F
          refine tk 8 F HS (by kernel_rfl) rfl rfl rfl .no (y_ld1 (key := 9001) rfl rfl Try.isAgg36 rfl) ?_; (try clear F a); intro a F
          refine one' 9 (by kernel_rfl) rfl ?_
          refine st F H rfl rfl rfl (y_mv rfl) ?_; (try clear F a); intro a F
          have HS := (H.rms [])
          have HT := (H.rms [9001])
          refine wpList_nil ⟨⟨fun _ _ => HS, fun _ _ => HT⟩, ?_⟩
          refine one' 10 (by kernel_rfl) rfl ?_
          refine st F H rfl rfl rfl (y_ix Try.underlying36 Try.sizeOf114 rfl rfl hwa (b0 * 256 + b1).toNat rfl hil) ?_; (try clear F a); intro a F
          have HS := (H.rms [])
          have HT := (H.rms [9001])
          refine wpList_nil ⟨⟨fun _ _ => HS, fun _ _ => HT⟩, ?_⟩
          refine one' 11 (by kernel_rfl) rfl ?_
          refine st F H rfl rfl rfl (y_lda (vs := pk.cs) rfl Try.isAgg114 Try.sizeOf114 (fun w H => by
            have h := hM.rw.sl (E := []) Pck.wid (fun g hg => H.cell (k := 9002) rfl hg) (by simp)
            rw [hwa] at h
            exact h.at hpk) rfl) ?_; (try clear F a); intro a F
          have HS := (H.rms [])
          have HT := (H.rms [9001])
          refine wpList_nil ⟨⟨fun _ _ => HS, fun _ _ => HT⟩, ?_⟩
          refine one' 12 (by kernel_rfl) rfl ?_
          have hcl2 := H.blkR
          refine s_call F H rfl rfl (.cons rfl (.cons rfl .nil)) Try.call42 (hear_c S.r pk ((hM.carry H (List.mem_cons_self ..)).rr)) ?_
          rintro _ a w ⟨adh, caph, rfl, hsh⟩ hO F H
          have hsh := hsh.less hcl2
          have H := H.atW
          have HS := (H.rms []).initB
          have HT := (H.rms [9001]).initB
          refine wpList_nil ⟨⟨fun _ _ => HS, fun _ _ => HT⟩, ?_⟩
          refine one' 13 (by kernel_rfl) rfl ?_
          refine st F H rfl rfl rfl (y_mv rfl) ?_; (try clear F a); intro a F
          have HS := (H.rms []).initB
          have HT := (H.rms [9001]).initB
          refine wpList_nil ⟨⟨fun _ _ => HS, fun _ _ => HT⟩, ?_⟩
          refine tk 14 F HS (by kernel_rfl) rfl rfl rfl .no (y_ext rfl rfl) ?_; (try clear F a); intro a F
          refine tk2 15 F HT (by kernel_rfl) rfl rfl rfl .no (y_ext rfl rfl) ?_; (try clear F a); intro a F
          refine one' 16 (by kernel_rfl) rfl ?_
          refine st F H rfl rfl rfl (y_nil rfl) ?_; (try clear F a); intro a F
          have HS := (H.rms []).initB
          have HT := (H.rms [9001]).initB
          refine wpList_nil ⟨⟨fun h => absurd h (by decide), fun _ _ => HT⟩, ?_⟩
          refine one' 17 (by kernel_rfl) rfl ?_
          refine st F H rfl rfl rfl (y_fa Try.underlying38 rfl Try.sizeOf32 rfl) ?_; (try clear F a); intro a F
          have HS := (H.rms []).initB
          have HT := (H.rms [9001]).initB
          refine wpList_nil ⟨⟨fun h => absurd h (by decide), fun _ _ => HT⟩, ?_⟩
          refine one' 18 (by kernel_rfl) rfl ?_
          refine s_st (key := 9001) F H rfl rfl rfl rfl Try.sizeOf32 rfl rfl rfl ?_; (try clear F H a); try clear w
          intro a w F H
          have HS := (H.rms []).initB
          have HT := (H.rms [9001]).initB
          refine wpList_nil ⟨⟨fun h => absurd h (by decide), fun _ _ => HT⟩, ?_⟩
          refine one' 19 (by kernel_rfl) rfl ?_
          refine st F H rfl rfl rfl (y_as rfl) ?_; (try clear F a); intro a F
          have HS := (H.rms []).initB
          have HT := (H.rms [9001]).initB
          refine wpList_nil ⟨⟨fun h => absurd h (by decide), fun h => absurd h (by decide)⟩, ?_⟩
          refine dn (by kernel_rfl) ?_ _
          refine th_n ?_
          refine rg ?_
          refine st F H rfl rfl rfl (y_mv rfl) ?_; (try clear F a); intro a F
          refine st F H rfl rfl rfl (y_eq rfl rfl) ?_; (try clear F a); intro a F
          refine st F H rfl rfl rfl (y_as rfl) ?_; (try clear F a); intro a F
          refine wpList_nil ?_
          refine wp_ret (ret1 F H rfl (rv rfl) ⟨_, rfl, H.b0, ?_⟩)
          have ht : c.t = 5 := by have h := h11; rw [hqc] at h; simpa using h
          show _ ∧ _
          rw [show comesN S J stays c.t pk = { S with cs := if stays = true then S.cs else S.cs.take J ++ S.cs.drop (J + 1), r := (hearR S.r pk).1 } from if_pos ht, show comesE S c.t pk = (hearR S.r pk).2 from if_pos ht]
          have H3 := H.sel [9001, 9002, 9003] (by decide)
          have H4 := H3.to (c' := WMem.cells g { S with cs := if stays = true then S.cs else S.cs.take J ++ S.cs.drop (J + 1), r := (hearR S.r pk).1 } { M with na := ad6, nc := cap6, ps := ps6, ra := adh, rc := caph }) rfl
          have hc2 := hM.carry H4 (List.mem_cons_self ..)
          have hn2 := hn6.carry H4 (List.mem_cons_of_mem _ (List.mem_cons_self ..))
          have hs2 := hsh.carry El.wid (by decide) H4 (List.mem_cons_of_mem _ (List.mem_cons_of_mem _ (List.mem_cons_self ..)))
          exact ⟨rfl, _, H4.initB.initB, ⟨hM.rw, hM.rt, hc2.ss, hs2, hn2, by rw [hc6, hM.pc]⟩⟩
        · refine rgd1H [0, 1, 2, 3, 4, 5, 6, 7, 8, 9, 10, 11, 12, 13, 14, 15] [0, 1, 2, 3, 4, 5, 6, 7, 8, 9, 10, 11, 12, 13, 14, 15, 16, 17, 18] [] [9001] H mixed ?_
          have H := H.old (Old.drew _)
          have HS := (H.rms [])
          have HT := (H.rms [9001])
          refine tk 0 F HS (by kernel_rfl) rfl rfl rfl .no (y_mv rfl) ?_; (try clear F a); intro a F
          refine tk 1 F HS (by kernel_rfl) rfl rfl rfl .no (y_mv rfl) ?_; (try clear F a); intro a F
          refine tk 2 F HS (by kernel_rfl) rfl rfl rfl .no (y_nil rfl) ?_; (try clear F a); intro a F
          refine tk 3 F HS (by kernel_rfl) rfl rfl rfl .no (y_fa Try.underlying38 rfl Try.sizeOf30 rfl) ?_; (try clear F a); intro a F
          refine tk 4 F HS (by kernel_rfl) rfl rfl rfl .no (y_ld (key := 9001) rfl rfl Try.isAgg30 Try.sizeOf30 rfl) ?_; (try clear F a); intro a F
          refine tk 5 F HS (by kernel_rfl) rfl rfl rfl .no (y_mv rfl) ?_; (try clear F a); intro a F
          refine tk 6 F HS (by kernel_rfl) rfl rfl rfl .no (y_nil rfl) ?_; (try clear F a); intro a F
          refine tk 7 F HS (by kernel_rfl) rfl rfl rfl .no (y_fa Try.underlying38 rfl Try.sizeOf36 rfl) ?_; (try clear F a); intro a F
          refine tk 8 F HS (by kernel_rfl) rfl rfl rfl .no (y_ld1 (key := 9001) rfl rfl Try.isAgg36 rfl) ?_; (try clear F a); intro a F
          refine one' 9 (by kernel_rfl) rfl ?_
          refine st F H rfl rfl rfl (y_mv rfl) ?_; (try clear F a); intro a F
          have HS := (H.rms [])
          have HT := (H.rms [9001])
          refine wpList_nil ⟨⟨fun _ _ => HS, fun _ _ => HT⟩, ?_⟩
          refine one' 10 (by kernel_rfl) rfl ?_
          refine st F H rfl rfl rfl (y_ix Try.underlying36 Try.sizeOf114 rfl rfl hwa (b0 * 256 + b1).toNat rfl hil) ?_; (try clear F a); intro a F
          have HS := (H.rms [])
          have HT := (H.rms [9001])
          refine wpList_nil ⟨⟨fun _ _ => HS, fun _ _ => HT⟩, ?_⟩
          refine one' 11 (by kernel_rfl) rfl ?_
          refine st F H rfl rfl rfl (y_lda (vs := pk.cs) rfl Try.isAgg114 Try.sizeOf114 (fun w H => by
            have h := hM.rw.sl (E := []) Pck.wid (fun g hg => H.cell (k := 9002) rfl hg) (by simp)
            rw [hwa] at h
            exact h.at hpk) rfl) ?_; (try clear F a); intro a F
          have HS := (H.rms [])
          have HT := (H.rms [9001])
          refine wpList_nil ⟨⟨fun _ _ => HS, fun _ _ => HT⟩, ?_⟩
          refine one' 12 (by kernel_rfl) rfl ?_
          have hcl2 := H.blkR
          refine s_call F H rfl rfl (.cons rfl (.cons rfl .nil)) Try.call34 (acked_c S.s pk ((hM.carry H (List.mem_cons_self ..)).ss)) ?_
          rintro _ a w ⟨adh, caph, rfl, hsh⟩ hO F H
          have hsh := hsh.less hcl2
          have H := H.atW
          have HS := (H.rms []).initB
          have HT := (H.rms [9001]).initB
          refine wpList_nil ⟨⟨fun _ _ => HS, fun _ _ => HT⟩, ?_⟩
          refine one' 13 (by kernel_rfl) rfl ?_
          refine st F H rfl rfl rfl (y_mv rfl) ?_; (try clear F a); intro a F
          have HS := (H.rms []).initB
          have HT := (H.rms [9001]).initB
          refine wpList_nil ⟨⟨fun _ _ => HS, fun _ _ => HT⟩, ?_⟩
          refine tk 14 F HS (by kernel_rfl) rfl rfl rfl .no (y_ext rfl rfl) ?_; (try clear F a); intro a F
          refine tk2 15 F HT (by kernel_rfl) rfl rfl rfl .no (y_ext rfl rfl) ?_; (try clear F a); intro a F
          refine one' 16 (by kernel_rfl) rfl ?_
          refine st F H rfl rfl rfl (y_nil rfl) ?_; (try clear F a); intro a F
          have HS := (H.rms []).initB
          have HT := (H.rms [9001]).initB
          refine wpList_nil ⟨⟨fun h => absurd h (by decide), fun _ _ => HT⟩, ?_⟩
          refine one' 17 (by kernel_rfl) rfl ?_
          refine st F H rfl rfl rfl (y_fa Try.underlying38 rfl Try.sizeOf30 rfl) ?_; (try clear F a); intro a F
          have HS := (H.rms []).initB
          have HT := (H.rms [9001]).initB
          refine wpList_nil ⟨⟨fun h => absurd h (by decide), fun _ _ => HT⟩, ?_⟩
          refine one' 18 (by kernel_rfl) rfl ?_
          refine s_st (key := 9001) F H rfl rfl rfl rfl Try.sizeOf30 rfl rfl rfl ?_; (try clear F H a); try clear w
          intro a w F H
          have HS := (H.rms []).initB
          have HT := (H.rms [9001]).initB
          refine wpList_nil ⟨⟨fun h => absurd h (by decide), fun _ _ => HT⟩, ?_⟩
          refine one' 19 (by kernel_rfl) rfl ?_
          refine st F H rfl rfl rfl (y_as rfl) ?_; (try clear F a); intro a F
          have HS := (H.rms []).initB
          have HT := (H.rms [9001]).initB
          refine wpList_nil ⟨⟨fun h => absurd h (by decide), fun h => absurd h (by decide)⟩, ?_⟩
          refine dn (by kernel_rfl) ?_ _
          refine th_n ?_
          refine rg ?_
          refine st F H rfl rfl rfl (y_mv rfl) ?_; (try clear F a); intro a F
          refine st F H rfl rfl rfl (y_eq rfl rfl) ?_; (try clear F a); intro a F
          refine st F H rfl rfl rfl (y_as rfl) ?_; (try clear F a); intro a F
          refine wpList_nil ?_
          refine wp_ret (ret1 F H rfl (rv rfl) ⟨_, rfl, H.b0, ?_⟩)
          have ht : ¬ c.t = 5 := by have h := h11; rw [hqc] at h; simpa using h
          show _ ∧ _
          rw [show comesN S J stays c.t pk = { S with cs := if stays = true then S.cs else S.cs.take J ++ S.cs.drop (J + 1), s := (ackS S.s pk).1 } from if_neg ht, show comesE S c.t pk = (ackS S.s pk).2 from if_neg ht]
          have H3 := H.sel [9001, 9002, 9003] (by decide)
          have H4 := H3.to (c' := WMem.cells g { S with cs := if stays = true then S.cs else S.cs.take J ++ S.cs.drop (J + 1), s := (ackS S.s pk).1 } { M with na := ad6, nc := cap6, ps := ps6, sa := adh, sc := caph }) rfl
          have hc2 := hM.carry H4 (List.mem_cons_self ..)
          have hn2 := hn6.carry H4 (List.mem_cons_of_mem _ (List.mem_cons_self ..))
          have hs2 := hsh.carry El.wid (by decide) H4 (List.mem_cons_of_mem _ (List.mem_cons_of_mem _ (List.mem_cons_self ..)))
          exact ⟨rfl, _, H4.initB.initB, ⟨hM.rw, hM.rt, hs2, hc2.rr, hn2, by rw [hc6, hM.pc]⟩⟩
end Go.Proofs.Ytilakloilkkfmaa
