/-
  headracetop: the elements that are put; a packet goes.
-/
import Derived.Test.YtilakloilkkfmaaNetC
import Derived.Test.YtilakloilkkfmaaSend
namespace Go.Proofs.Ytilakloilkkfmaa
open Go Go.Sx
set_option maxRecDepth 10000
-- @uses Rec LinkA Clones LinkB LinkC Send NetA NetB NetC
def elAt (i : Nat) : El := ⟨1, 0, (i : Int).tmod 32, IntKind.i64.wrap ((i : Int) - 9), 0⟩
def elEnd : El := ⟨3, 0, 0, 0, 0⟩
def rowL (n : Nat) : List El := (List.range n).map elAt ++ [elEnd]
theorem rowL_len (n : Nat) : (rowL n).length = n + 1 := by simp [rowL]
theorem rowN_c (n : Nat) (w0 : World) (hn : n ≤ 20) : CallsTo Try.prog 7 [.int .i64 n] w0 [] fun v w' => ∃ og row, (∀ g, og = some g → w0.heap.size ≤ g ∧ w'.heap[g]? = some (.cells row.toArray 47 (0, 0))) ∧ (∃ cap, v = .slice (adr og) (rowL n).length cap ∧ RowOf og 5 El.cs (rowL n) cap row) := by
  refine enter (m := 23) Try.func7 rfl rfl rfl ?_; intro a F
  have H := Hp.start w0 []
  refine rg ?_
  refine st F H rfl rfl rfl (y_as rfl) ?_; (try clear F a); intro a F
  refine wpList_nil ?_
  refine rg ?_
  refine st F H rfl rfl rfl (y_as rfl) ?_; (try clear F a); intro a F
  refine wpList_nil ?_
  refine wp_seq ?_
  refine rg ?_
  refine st F H rfl rfl rfl (y_mv rfl) ?_; (try clear F a); intro a F
  refine st F H rfl rfl rfl (y_mv rfl) ?_; (try clear F a); intro a F
  refine wpList_nil ?_
  refine wp_block ?_
  have H0 := H.add (Old.refl _ _) 17 none 47 [] (fun g h => (by cases h))
  refine lp (fun (k : Nat × Option Nat × Nat × List Value) a w => (k.1 ≤ n ∧ RowOf k.2.1 5 El.cs ((List.range k.1).map elAt) k.2.2.1 k.2.2.2) ∧ Fr 23 [] [(3, .slice (adr k.2.1) k.1 k.2.2.1), (5, .int .i64 n), (6, .int .i64 k.1)] a ∧ Hp [⟨17, k.2.1, 47, k.2.2.2⟩] [⟨[], w0⟩] w) (fun k => n - k.1) (0, none, 0, [])
    ⟨⟨Nat.zero_le _, RowOf.nilOf _ _⟩, F.cut ⟨rfl, rfl, rfl, trivial⟩, H0⟩ (fun k a w hI => ?_)
  clear F H H0
  obtain ⟨k, og, cap, row⟩ := k
  obtain ⟨⟨hk, hr⟩, F, H⟩ := hI
  simp only at hk hr F H
  have hk0 : ((List.range k).map elAt).length = k := by simp
  have hrow : Row og 5 k cap row := by have := hr.r; rw [hk0] at this; exact this
  refine rg ?_
  refine st F H rfl rfl rfl (y_lt rfl rfl) ?_; (try clear F a); intro a F
  refine wpList_nil ?_
  refine wp_seq ?_
  refine cn F rfl (fun h3 => ?_) (fun h3 => ?_)
  · have hlt : k < n := by simpa using h3
    refine wp_skip ?_
    refine th_n ?_
    refine wp_seq ?_
    refine wp_block ?_
    refine rg ?_
    refine st F H rfl rfl rfl (y_mv rfl) ?_; (try clear F a); intro a F
    refine st F H rfl rfl rfl (y_as rfl) ?_; (try clear F a); intro a F
    refine wpList_nil ?_
    refine rg1 ?_
    refine st F H rfl rfl rfl (y_mv rfl) ?_; (try clear F a); intro a F
    refine st F H rfl rfl rfl (y_mv rfl) ?_; (try clear F a); intro a F
    refine st F H rfl rfl rfl (y_rem rfl rfl (by decide)) ?_; (try clear F a); intro a F
    refine st F H rfl rfl rfl (y_mv rfl) ?_; (try clear F a); intro a F
    refine st F H rfl rfl rfl (y_sub rfl rfl) ?_; (try clear F a); intro a F
    refine st F H rfl rfl rfl (y_build Try.zeroValue45 Try.underlying45 pl45 rfl (.cons rfl (.cons rfl .nil)) rfl) ?_; (try clear F a); intro a F
    refine st F H rfl rfl rfl (y_build Try.zeroValue47 Try.underlying47 pl47 rfl (.cons rfl (.cons rfl .nil)) rfl) ?_; (try clear F a); intro a F
    refine s_bs1 99 F H rfl Try.underlying24 Try.sizeOf47 Try.zeroValue47 rfl rfl rfl rfl rfl rfl ?_
    clear F H a; try clear w
    intro g99 a w F H
    refine s_append 17 F H rfl Try.underlying24 ti47 rfl rfl rfl rfl rfl hrow (At.slc (H.cell (k := 99) rfl rfl) (m := 5) rfl) rfl (fun u hu => one1_mem (El.one (elAt k)) u hu) (by omega) (by omega) ?_
    clear F H a
    intro og' cap' row' a w hr' ht' hn' hO F H
    refine st F H rfl rfl rfl (y_as rfl) ?_; (try clear F a); intro a F
    refine wpList_nil ?_
    refine ib_n ?_
    refine th_n ?_
    refine rg1 ?_
    refine st F H rfl rfl rfl (y_add rfl rfl) ?_; (try clear F a); intro a F
    refine st F H rfl rfl rfl (y_mv rfl) ?_; (try clear F a); intro a F
    refine wpList_nil ?_
    refine th_n ?_
    rw [wk (by omega)] at F
    have hR : RowOf og' 5 El.cs ((List.range k).map elAt ++ [elAt k]) cap' row' := hr.push (by rw [hk0]; exact hr') (by rw [hk0]; exact ht')
    exact ⟨(k + 1, og', cap', row'), ⟨⟨hlt, by simpa [List.range_succ] using hR⟩, F.cut ⟨rfl, rfl, rfl, trivial⟩, H.keep [true, false]⟩, by simp only; omega⟩
  · have hkn : k = n := by simp at h3; omega
    subst hkn
    refine wp_exit (th_x (th_x (ib_x ?_)))
    refine th_n ?_
    refine rg ?_
    refine st F H rfl rfl rfl (y_mv rfl) ?_; (try clear F a); intro a F
    refine st F H rfl rfl rfl (y_build Try.zeroValue47 Try.underlying47 pl47 rfl (.cons rfl .nil) rfl) ?_; (try clear F a); intro a F
    refine s_bs1 98 F H rfl Try.underlying24 Try.sizeOf47 Try.zeroValue47 rfl rfl rfl rfl rfl rfl ?_
    clear F H a; try clear w
    intro g98 a w F H
    refine s_append 17 F H rfl Try.underlying24 ti47 rfl rfl rfl rfl rfl hrow (At.slc (H.cell (k := 98) rfl rfl) (m := 5) rfl) rfl (fun u hu => one1_mem (El.one elEnd) u hu) (by omega) (by omega) ?_
    clear F H a
    intro og' cap' row' a w hr' ht' hn' hO F H
    refine st F H rfl rfl rfl (y_as rfl) ?_; (try clear F a); intro a F
    refine wpList_nil ?_
    refine wp_ret (ret1 F H rfl (rv rfl) ⟨_, rfl, H.b0, ?_⟩)
    have hR : RowOf og' 5 El.cs ((List.range k).map elAt ++ [elEnd]) cap' row' := hr.push (by rw [hk0]; exact hr') (by rw [hk0]; exact ht')
    exact ⟨og', row', fun g hg => ⟨H.fresh (k := 17) rfl hg, H.cell (k := 17) rfl hg⟩, cap', by rw [rowL_len], hR⟩
/-- the wires: what they are -/
structure WS where
  s : Snd
  r : Rcv
  sent : Int
  cs : List PC
  went : List Pck
  put : Nat
  taken : List El
/-- and where they are -/
structure WMem where
  ogw : Option Nat
  capw : Nat
  roww : List Value
  ogt : Option Nat
  capt : Nat
  rowt : List Value
  sa : Option Addr
  sc : Nat
  ra : Option Addr
  rc : Nat
  na : Option Addr
  nc : Nat
  ps : List Par
def WMem.cells (g : Nat) (S : WS) (M : WMem) : List Cel :=
  [⟨9001, some g, 38, [.int .u32 S.s.a, .int .u64 S.s.b, .slice M.sa S.s.q.length M.sc, .int .u64 S.s.l, .bool S.s.e, .int .u32 S.r.a, .int .u64 S.r.b, .slice M.ra S.r.q.length M.rc, .int .i64 S.r.r,
    .int .u64 S.sent, .slice M.na M.ps.length M.nc, .slice (adr M.ogw) S.went.length M.capw, .int .i64 S.put, .slice (adr M.ogt) S.taken.length M.capt]⟩, ⟨9002, M.ogw, 114, M.roww⟩, ⟨9003, M.ogt, 47, M.rowt⟩]
structure WMem.Ok (S : WS) (M : WMem) (E : List Nat) (w : World) : Prop where
  rw : RowOf M.ogw 9 Pck.cs S.went M.capw M.roww
  rt : RowOf M.ogt 5 El.cs S.taken M.capt M.rowt
  ss : SlE E w M.sa S.s.q.length M.sc S.s.q
  rr : SlE E w M.ra S.r.q.length M.rc S.r.q
  nn : NetS E w M.na M.nc M.ps
  pc : M.ps.map Par.c = S.cs
/-- the wires behind a call -/
def RetW (g : Nat) (C0 : List Cel) (w0 : World) (S' : WS) (w' : World) : Prop := ∃ M' : WMem, Hp (M'.cells g S') [⟨blks C0, w0⟩] w' ∧ M'.Ok S' (blks (M'.cells g S')) w'
theorem WMem.Ok.carry {S : WS} {M : WMem} {X cells : List Cel} {bs : List Base} {w w1 : World} (h : M.Ok S (blks X) w1) (H : Hp cells bs w) (hb : ⟨blks X, w1⟩ ∈ bs) : M.Ok S (blks cells) w :=
  ⟨h.rw, h.rt, h.ss.carry El.wid (by decide) H hb, h.rr.carry El.wid (by decide) H hb, h.nn.carry H hb, h.pc⟩
section
variable {ops : Array Oper} {rest : List Oper} {Q : Exit → Act → World → Prop} {ty : TypeId} {pos : String} {aft : Array Edge} {n : Nat} {ds : List Deferred} {ρ : Rho} {cells : List Cel} {bs : List Base} {a : Act} {w : World}
/-- a call that turns the wires; other cells are forgotten -/
theorem s_wires {fx : Operand} {xs : List Operand} {f : FuncId} {cs vs : List Value} {ats : Array TypeId} {d g : Nat} {S S' : WS} {M : WMem} {T : Value → Prop} (F : Fr n ds ρ a) (H : Hp cells bs w) (hn : Nat.blt d n = true)
    (hf : ev ρ fx = some (.func (.func f) #[] cs.toArray)) (hx : Args ρ xs vs) (hen : ∀ args w, (callFunc f args).run Try.prog w = .ok (.enter f args) w) (hsel : sel [9001, 9002, 9003] cells = M.cells g S)
    (hc : Hp (M.cells g S) [] w → CallsTo Try.prog f (vs ++ cs) w (blks (M.cells g S)) (fun v w' => T v ∧ RetW g (M.cells g S) w S' w'))
    (k : ∀ v (M' : WMem) a w', T v → M'.Ok S' (blks (M'.cells g S')) w' → Fr n ds ((d, v) :: ρ) a → Hp (M'.cells g S') bs w' → wpList Try.prog ops Q rest a w') :
    wpList Try.prog ops Q (⟨some d, .call { callee := .value fx, args := xs.toArray, argTypes := ats }, ty, pos, aft, none⟩ :: rest) a w := by
  have H3 := (H.sel [9001, 9002, 9003] (by decide)).to hsel
  refine wpList_plain rfl fun K hK => ?_
  unfold Oper.wp
  rw [run_call_fn (fs := []) F hf hx hen, Oper.upon_enter]
  refine Calls.mono (hc H3.only) ?_
  rintro e w' ⟨v, rfl, _, hT, M', hH, hM⟩
  exact hK _ _ (k v M' _ _ hT hM (F.put hn v) (H3.through hH))
end
def idxB (n : Nat) : List Int := [IntKind.u8.wrap ((n : Int).fdiv (2 ^ 8)), IntKind.u8.wrap n]
def goesS (S : WS) (p : Pck) (fr to : Int) : WS := if 60 ≤ S.cs.length then S else { S with cs := S.cs ++ [⟨S.sent + 1, fr, to, idxB S.went.length⟩], sent := S.sent + 1, went := S.went ++ [p] }
theorem goesFull_c (g : Nat) (S : WS) (M : WMem) (w0 : World) (p : Pck) (fr to : Int) (hH : Hp (M.cells g S) [] w0) (hM : M.Ok S (blks (M.cells g S)) w0) (hok : NetOk S.sent S.cs) (hse : S.sent < 4611686018427387904)
    (hft : (1 ≤ fr ∧ fr ≤ 7) ∧ (1 ≤ to ∧ to ≤ 7) ∧ fr ≠ to) (hf : 60 ≤ S.cs.length) :
    CallsTo Try.prog 37 [.pointer (some ⟨g, 0, none⟩), .agg p.cs.toArray, .int .i64 fr, .int .i64 to] w0 (blks (M.cells g S)) fun v w' => v = .bool true ∧ RetW g (M.cells g S) w0 S w' := by
  have hl : M.ps.length = S.cs.length := by rw [← hM.pc]; simp
  have hl6 := hok.len
  refine enter (m := 62) Try.func37 rfl rfl rfl ?_; intro a F
  have H : Hp (M.cells g S) [⟨blks (M.cells g S), w0⟩] w0 := hH.atW
  refine rg ?_
  refine s_box 5 F H rfl rfl rfl ?_; intro g5; (try clear F H a); try clear w
  intro a w F H
  refine st F H rfl rfl rfl (y_as rfl) ?_; (try clear F a); intro a F
  refine wpList_nil ?_
  refine wp_seq_k fun K1 hK1 => ?_
  have C1 : ∀ a w, Fr 62 [] [(0, .pointer (some ⟨g, 0, none⟩)), (11, .int .i64 6)] a → Hp (M.cells g S) [⟨blks (M.cells g S), w0⟩] w → K1 a w := ?_
  · refine rgd1H [0, 1, 2, 3, 4, 5, 6, 7, 8, 9, 10, 11, 12, 13, 14, 15, 16, 17, 18, 19, 20, 21, 22, 23, 24, 25] [0, 1, 2, 3, 4, 5, 6, 7, 8, 9, 10, 11, 12, 13, 14, 15, 16, 17, 18, 19, 20, 21, 22, 23, 24, 25, 26, 27] [] [9] H mixed ?_
    have H := H.old (Old.drew _)
    have HS := (H.rms [])
    have HT := (H.rms [9])
    refine tk 0 F HS (by kernel_rfl) rfl rfl rfl .no (y_mv rfl) ?_; (try clear F a); intro a F
    refine tk 1 F HS (by kernel_rfl) rfl rfl rfl .no (y_nil rfl) ?_; (try clear F a); intro a F
    refine tk 2 F HS (by kernel_rfl) rfl rfl rfl .no (y_fa Try.underlying38 rfl Try.sizeOf35 rfl) ?_; (try clear F a); intro a F
    refine tk 3 F HS (by kernel_rfl) rfl rfl rfl .no (y_ld (key := 9001) rfl rfl Try.isAgg35 Try.sizeOf35 rfl) ?_; (try clear F a); intro a F
    refine tk 4 F HS (by kernel_rfl) rfl rfl rfl .no (y_mv rfl) ?_; (try clear F a); intro a F
    refine tk 5 F HS (by kernel_rfl) rfl rfl rfl .no (y_mv rfl) ?_; (try clear F a); intro a F
    refine tk 6 F HS (by kernel_rfl) rfl rfl rfl .no (y_mv rfl) ?_; (try clear F a); intro a F
    refine tk 7 F HS (by kernel_rfl) rfl rfl rfl .no (y_nil rfl) ?_; (try clear F a); intro a F
    refine tk 8 F HS (by kernel_rfl) rfl rfl rfl .no (y_fa Try.underlying38 rfl Try.sizeOf36 rfl) ?_; (try clear F a); intro a F
    refine tk 9 F HS (by kernel_rfl) rfl rfl rfl .no (y_ld1 (key := 9001) rfl rfl Try.isAgg36 rfl) ?_; (try clear F a); intro a F
    refine tk 10 F HS (by kernel_rfl) rfl rfl rfl .no (y_len Try.underlying36 rfl) ?_; (try clear F a); intro a F
    refine tk 11 F HS (by kernel_rfl) rfl rfl rfl .no (y_shr 8 rfl rfl rfl) ?_; (try clear F a); intro a F
    refine tk 12 F HS (by kernel_rfl) rfl rfl rfl .no (y_cvi Try.underlying3 Try.underlying5 rfl) ?_; (try clear F a); intro a F
    refine tk 13 F HS (by kernel_rfl) rfl rfl rfl .no (y_mv rfl) ?_; (try clear F a); intro a F
    refine tk 14 F HS (by kernel_rfl) rfl rfl rfl .no (y_nil rfl) ?_; (try clear F a); intro a F
    refine tk 15 F HS (by kernel_rfl) rfl rfl rfl .no (y_fa Try.underlying38 rfl Try.sizeOf36 rfl) ?_; (try clear F a); intro a F
    refine tk 16 F HS (by kernel_rfl) rfl rfl rfl .no (y_ld1 (key := 9001) rfl rfl Try.isAgg36 rfl) ?_; (try clear F a); intro a F
    refine tk 17 F HS (by kernel_rfl) rfl rfl rfl .no (y_len Try.underlying36 rfl) ?_; (try clear F a); intro a F
    refine tk 18 F HS (by kernel_rfl) rfl rfl rfl .no (y_cvi Try.underlying3 Try.underlying5 rfl) ?_; (try clear F a); intro a F
    refine two 19 25 (by kernel_rfl) ?_ ?_
    · refine br1 rfl ?_
      refine s_bs 98 (pl := [(0, 1), (1, 1)]) F H rfl Try.underlying129 Try.sizeOf5 Try.zeroValue5 rfl (cs0 := [.int .u8 0, .int .u8 0]) (by apply Array.ext'; simp [List.range_succ, Value.cells]) (.cons rfl (.cons rfl .nil)) (by intro p hp; simp only [List.mem_cons, List.mem_nil_iff, or_false] at hp; rcases hp with rfl | rfl <;> rfl) rfl ?_
      clear F H a; try clear w
      intro g98 a w F H
      have HS := (H.rms [98])
      have HT := (H.rms [98, 9])
      refine wpList_nil ⟨⟨fun _ _ => HS, fun _ _ => HT⟩, ?_⟩
      refine two 20 25 (by kernel_rfl) ?_ ?_
      · refine br1 rfl ?_
        refine s_callV F H rfl rfl (.cons rfl (.cons rfl (.cons rfl (.cons rfl .nil)))) Try.call100 (nsendFull_c fr to (idxB S.went.length) ((hM.carry H (List.mem_cons_self ..)).nn) (by rw [hM.pc]; exact hok) (Sl.ofRow (E := []) (xs := idxB S.went.length) bc.wid (by simp) (H.cell (k := 98) rfl rfl) (by simp [idxB]) (by decide) rfl) hft (by simp [idxB]) hse (by omega)) ?_; (try clear F H a); try clear w
        intro a w F H
        have HS := (H.rms [98])
        have HT := (H.rms [98, 9])
        refine wpList_nil ⟨⟨fun _ _ => HS, fun _ _ => HT⟩, ?_⟩
        refine tk 21 F HS (by kernel_rfl) rfl rfl rfl .no (y_mv rfl) ?_; (try clear F a); intro a F
        refine tk 22 F HS (by kernel_rfl) rfl rfl rfl .no (y_ext rfl rfl) ?_; (try clear F a); intro a F
        refine tk2 23 F HT (by kernel_rfl) rfl rfl rfl .no (y_ext rfl rfl) ?_; (try clear F a); intro a F
        refine tk2 24 F HT (by kernel_rfl) rfl rfl rfl .no (y_ext rfl rfl) ?_; (try clear F a); intro a F
        refine one' 25 (by kernel_rfl) rfl ?_
        refine s_alloc 9 F H rfl Try.zeroValue35 rfl ?_; intro g9; (try clear F H a); try clear w
        intro a w F H
        have HS := (H.rms [98, 9])
        have HT := (H.rms [98, 9, 9])
        refine wpList_nil ⟨⟨fun _ _ => HS, fun _ _ => HT⟩, ?_⟩
        refine one' 26 (by kernel_rfl) rfl ?_
        refine s_st (key := 9) F H rfl rfl rfl rfl Try.sizeOf35 rfl rfl rfl ?_; (try clear F H a); try clear w
        intro a w F H
        have HS := (H.rms [98, 9])
        have HT := (H.rms [98, 9, 9])
        refine wpList_nil ⟨⟨fun h => absurd h (by decide), fun _ _ => HT⟩, ?_⟩
        refine one' 27 (by kernel_rfl) rfl ?_
        refine st F H rfl rfl rfl (y_as rfl) ?_; (try clear F a); intro a F
        have HS := (H.rms [98, 9])
        have HT := (H.rms [98, 9, 9])
        refine wpList_nil ⟨⟨fun h => absurd h (by decide), fun _ _ => HT⟩, ?_⟩
        refine one' 28 (by kernel_rfl) rfl ?_
        refine st F H rfl rfl rfl (y_as rfl) ?_; (try clear F a); intro a F
        have HS := (H.rms [98, 9])
        have HT := (H.rms [98, 9, 9])
        refine wpList_nil ⟨⟨fun h => absurd h (by decide), fun h => absurd h (by decide)⟩, ?_⟩
        refine dn (by kernel_rfl) ?_ _
        refine th_n ?_
        exact C1 _ _ (F.cut ⟨rfl, rfl, trivial⟩) (H.sel [9001, 9002, 9003] (by decide))
      · refine br1 rfl ?_
        refine s_alloc 9 F H rfl Try.zeroValue35 rfl ?_; intro g9; (try clear F H a); try clear w
        intro a w F H
        have HS := (H.rms [98, 9])
        have HT := (H.rms [98, 9, 9])
        refine wpList_nil ⟨⟨fun _ _ => HS, fun _ _ => HT⟩, ?_⟩
        refine one' 20 (by kernel_rfl) rfl ?_
        refine s_callV F H rfl rfl (.cons rfl (.cons rfl (.cons rfl (.cons rfl .nil)))) Try.call100 (nsendFull_c fr to (idxB S.went.length) ((hM.carry H (List.mem_cons_self ..)).nn) (by rw [hM.pc]; exact hok) (Sl.ofRow (E := []) (xs := idxB S.went.length) bc.wid (by simp) (H.cell (k := 98) rfl rfl) (by simp [idxB]) (by decide) rfl) hft (by simp [idxB]) hse (by omega)) ?_; (try clear F H a); try clear w
        intro a w F H
        have HS := (H.rms [98, 9])
        have HT := (H.rms [98, 9, 9])
        refine wpList_nil ⟨⟨fun _ _ => HS, fun _ _ => HT⟩, ?_⟩
        refine one' 21 (by kernel_rfl) rfl ?_
        refine st F H rfl rfl rfl (y_mv rfl) ?_; (try clear F a); intro a F
        have HS := (H.rms [98, 9])
        have HT := (H.rms [98, 9, 9])
        refine wpList_nil ⟨⟨fun _ _ => HS, fun _ _ => HT⟩, ?_⟩
        refine tk 22 F HS (by kernel_rfl) rfl rfl rfl .no (y_ext rfl rfl) ?_; (try clear F a); intro a F
        refine tk2 23 F HT (by kernel_rfl) rfl rfl rfl .no (y_ext rfl rfl) ?_; (try clear F a); intro a F
        refine tk2 24 F HT (by kernel_rfl) rfl rfl rfl .no (y_ext rfl rfl) ?_; (try clear F a); intro a F
        refine one' 26 (by kernel_rfl) rfl ?_
        refine s_st (key := 9) F H rfl rfl rfl rfl Try.sizeOf35 rfl rfl rfl ?_; (try clear F H a); try clear w
        intro a w F H
        have HS := (H.rms [98, 9])
        have HT := (H.rms [98, 9, 9])
        refine wpList_nil ⟨⟨fun h => absurd h (by decide), fun _ _ => HT⟩, ?_⟩
        refine one' 27 (by kernel_rfl) rfl ?_
        refine st F H rfl rfl rfl (y_as rfl) ?_; (try clear F a); intro a F
        have HS := (H.rms [98, 9])
        have HT := (H.rms [98, 9, 9])
        refine wpList_nil ⟨⟨fun h => absurd h (by decide), fun _ _ => HT⟩, ?_⟩
        refine one' 28 (by kernel_rfl) rfl ?_
        refine st F H rfl rfl rfl (y_as rfl) ?_; (try clear F a); intro a F
        have HS := (H.rms [98, 9])
        have HT := (H.rms [98, 9, 9])
        refine wpList_nil ⟨⟨fun h => absurd h (by decide), fun h => absurd h (by decide)⟩, ?_⟩
        refine dn (by kernel_rfl) ?_ _
        refine th_n ?_
        exact C1 _ _ (F.cut ⟨rfl, rfl, trivial⟩) (H.sel [9001, 9002, 9003] (by decide))
    · refine br1 rfl ?_
      refine s_alloc 9 F H rfl Try.zeroValue35 rfl ?_; intro g9; (try clear F H a); try clear w
      intro a w F H
      have HS := (H.rms [9])
      have HT := (H.rms [9, 9])
      refine wpList_nil ⟨⟨fun _ _ => HS, fun _ _ => HT⟩, ?_⟩
      refine one' 19 (by kernel_rfl) rfl ?_
      refine s_bs 98 (pl := [(0, 1), (1, 1)]) F H rfl Try.underlying129 Try.sizeOf5 Try.zeroValue5 rfl (cs0 := [.int .u8 0, .int .u8 0]) (by apply Array.ext'; simp [List.range_succ, Value.cells]) (.cons rfl (.cons rfl .nil)) (by intro p hp; simp only [List.mem_cons, List.mem_nil_iff, or_false] at hp; rcases hp with rfl | rfl <;> rfl) rfl ?_
      clear F H a; try clear w
      intro g98 a w F H
      have HS := (H.rms [9, 98])
      have HT := (H.rms [9, 98, 9])
      refine wpList_nil ⟨⟨fun _ _ => HS, fun _ _ => HT⟩, ?_⟩
      refine one' 20 (by kernel_rfl) rfl ?_
      refine s_callV F H rfl rfl (.cons rfl (.cons rfl (.cons rfl (.cons rfl .nil)))) Try.call100 (nsendFull_c fr to (idxB S.went.length) ((hM.carry H (List.mem_cons_self ..)).nn) (by rw [hM.pc]; exact hok) (Sl.ofRow (E := []) (xs := idxB S.went.length) bc.wid (by simp) (H.cell (k := 98) rfl rfl) (by simp [idxB]) (by decide) rfl) hft (by simp [idxB]) hse (by omega)) ?_; (try clear F H a); try clear w
      intro a w F H
      have HS := (H.rms [9, 98])
      have HT := (H.rms [9, 98, 9])
      refine wpList_nil ⟨⟨fun _ _ => HS, fun _ _ => HT⟩, ?_⟩
      refine one' 21 (by kernel_rfl) rfl ?_
      refine st F H rfl rfl rfl (y_mv rfl) ?_; (try clear F a); intro a F
      have HS := (H.rms [9, 98])
      have HT := (H.rms [9, 98, 9])
      refine wpList_nil ⟨⟨fun _ _ => HS, fun _ _ => HT⟩, ?_⟩
      refine tk 22 F HS (by kernel_rfl) rfl rfl rfl .no (y_ext rfl rfl) ?_; (try clear F a); intro a F
      refine tk2 23 F HT (by kernel_rfl) rfl rfl rfl .no (y_ext rfl rfl) ?_; (try clear F a); intro a F
      refine tk2 24 F HT (by kernel_rfl) rfl rfl rfl .no (y_ext rfl rfl) ?_; (try clear F a); intro a F
      refine one' 26 (by kernel_rfl) rfl ?_
      refine s_st (key := 9) F H rfl rfl rfl rfl Try.sizeOf35 rfl rfl rfl ?_; (try clear F H a); try clear w
      intro a w F H
      have HS := (H.rms [9, 98])
      have HT := (H.rms [9, 98, 9])
      refine wpList_nil ⟨⟨fun h => absurd h (by decide), fun _ _ => HT⟩, ?_⟩
      refine one' 27 (by kernel_rfl) rfl ?_
      refine st F H rfl rfl rfl (y_as rfl) ?_; (try clear F a); intro a F
      have HS := (H.rms [9, 98])
      have HT := (H.rms [9, 98, 9])
      refine wpList_nil ⟨⟨fun h => absurd h (by decide), fun _ _ => HT⟩, ?_⟩
      refine one' 28 (by kernel_rfl) rfl ?_
      refine st F H rfl rfl rfl (y_as rfl) ?_; (try clear F a); intro a F
      have HS := (H.rms [9, 98])
      have HT := (H.rms [9, 98, 9])
      refine wpList_nil ⟨⟨fun h => absurd h (by decide), fun h => absurd h (by decide)⟩, ?_⟩
      refine dn (by kernel_rfl) ?_ _
      refine th_n ?_
      exact C1 _ _ (F.cut ⟨rfl, rfl, trivial⟩) (H.sel [9001, 9002, 9003] (by decide))
  rintro a w F H
  refine hK1 a w ?_
  refine wp_seq ?_
  refine rg ?_
  refine st F H rfl rfl rfl (y_mv rfl) ?_; (try clear F a); intro a F
  refine st F H rfl rfl rfl (y_eq rfl rfl) ?_; (try clear F a); intro a F
  refine wpList_nil ?_
  refine cnT F rfl ?_
  refine rg ?_
  refine st F H rfl rfl rfl (y_mv rfl) ?_; (try clear F a); intro a F
  refine st F H rfl rfl rfl (y_nil rfl) ?_; (try clear F a); intro a F
  refine st F H rfl rfl rfl (y_fa Try.underlying38 rfl Try.sizeOf35 rfl) ?_; (try clear F a); intro a F
  refine st F H rfl rfl rfl (y_fa Try.underlying35 rfl Try.sizeOf33 rfl) ?_; (try clear F a); intro a F
  refine st F H rfl rfl rfl (y_ld1 (key := 9001) rfl rfl Try.isAgg33 rfl) ?_; (try clear F a); intro a F
  refine st F H rfl rfl rfl (y_len Try.underlying33 rfl) ?_; (try clear F a); intro a F
  refine st F H rfl rfl rfl (y_eq rfl rfl) ?_; (try clear F a); intro a F
  refine st F H rfl rfl rfl (y_as rfl) ?_; (try clear F a); intro a F
  refine wpList_nil ?_
  refine wp_ret (th_r (ret1 F H rfl (rv rfl) ⟨_, rfl, H.b0, ?_⟩))
  have hc := hM.carry H (List.mem_cons_self ..)
  have e1 : (60 : Int) = M.ps.length := by omega
  refine ⟨by simp [← e1], M, H, hc⟩
end Go.Proofs.Ytilakloilkkfmaa
