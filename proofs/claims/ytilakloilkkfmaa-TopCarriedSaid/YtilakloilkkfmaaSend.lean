/-
  link: what a sender sends.
-/
import Derived.Test.YtilakloilkkfmaaColl
namespace Go.Proofs.Ytilakloilkkfmaa
open Go Go.Sx Go.RowKit
set_option maxRecDepth 10000
-- @uses Rec LinkA Clones LinkB LinkC
/-- how many a sender may send -/
def cntP (s : Snd) : Nat := min s.q.length (s.l + 1 - s.b).toNat
def pktAt (s : Snd) (i : Nat) : Pck := ⟨1, s.a, s.b + i, 0, s.q.getD i default⟩
def sendP (s : Snd) : List Pck := (List.range (cntP s)).map (pktAt s)
theorem sendP_len (s : Snd) : (sendP s).length = cntP s := by simp [sendP]
theorem sendP_take (s : Snd) {k : Nat} (h : k < cntP s) : (sendP s).take (k + 1) = (sendP s).take k ++ [pktAt s k] := by
  rw [List.take_succ_eq_append_getElem (by rw [sendP_len]; exact h)]
  simp [sendP]
theorem _root_.Go.Sx.Old.bel {w w' : World} (h : Old [] w w') {k : Nat} (hk : k ≤ w.heap.size) : Below k w w' := ⟨h.os, h.tape, h.out, h.sz, fun i hi => h.bl i (by omega) (by simp)⟩
theorem _root_.Go.Sx.Old.grownBy {w w' : World} (h : Old [] w w') : w.grownBy w' none := ⟨h.os, h.tape, h.out, h.sz, fun i hi _ => h.bl i hi (by simp)⟩
theorem packets_stops {E : List Nat} {w0 : World} {ad : Option Addr} {cap g1 : Nat} (s : Snd) (hs : SlE E w0 ad s.q.length cap s.q) (hlen : s.q.length ≤ 8 ∧ 1 ≤ s.b ∧ s.b ≤ 4611686018427387904 ∧ s.l ≤ 4611686018427387904)
    (hg1 : w0.heap[g1]? = some (.cells [Value.int .u32 s.a, .int .u64 s.b, .slice ad s.q.length cap, .int .u64 s.l, .bool s.e].toArray 30 (0, 0))) (W : World) (hW : Below w0.heap.size w0 W) :
    SeqStopsK Fence.wide 4 Try.prog 175 [Value.pointer (some ⟨g1, 0, none⟩)].toArray (fun p : Pck => #[.agg p.cs.toArray]) (Below w0.heap.size) (fun l => l = sendP s) (fun _ => True) (sendP s).length W := by
  intro l J Jx W1 hW1 hJ hJx hY h0
  refine callsIn_wide.2 ?_
  obtain ⟨sa, sb, xs, sl, se⟩ := s
  have hB1 : Below w0.heap.size w0 W1 := hW.trans (hW1.mono hW.size)
  have hold : ∀ {w w'}, Below w0.heap.size w0 w → Old [] w w' → Below w0.heap.size w0 w' := fun hb ho => hb.trans (ho.bel hb.size)
  have hO : ∀ {w}, Below w0.heap.size w0 w → Old [] w0 w := fun hb => Old.below hb
  have hJo : ∀ {pre w w'}, J pre w → Old [] w w' → J pre w' := fun hj ho => hJ _ _ _ none hj ho.grownBy (fun r e => by cases e)
  have hbox : ∀ {w}, Below w0.heap.size w0 w → w.heap[g1]? = some (.cells [Value.int .u32 sa, .int .u64 sb, .slice ad xs.length cap, .int .u64 sl, .bool se].toArray 30 (0, 0)) := fun hb => (hO hb).get hg1 (by simp)
  refine enter (args := [.func (.yield l) #[] #[], .pointer (some ⟨g1, 0, none⟩)]) (m := 34) Try.func175 rfl rfl rfl ?_; intro a F
  have H := Hp.start W1 []
  refine rg ?_
  refine st F H rfl rfl rfl (y_fa Try.underlying30 rfl Try.sizeOf24 rfl) ?_; (try clear F a); intro a F
  refine st F H rfl rfl rfl (y_ld1a rfl Try.isAgg24 (fun w H => by rw [cell_of_blk (hbox (hold hB1 H.b0))]; rfl)) ?_; (try clear F a); intro a F
  refine st F H rfl rfl rfl (y_len Try.underlying24 rfl) ?_; (try clear F a); intro a F
  refine st F H rfl rfl rfl (y_mv rfl) ?_; (try clear F a); intro a F
  refine wpList_nil ?_
  refine wp_block ?_
  refine lp (fun (k : Nat) a w => (k ≤ cntP ⟨sa, sb, xs, sl, se⟩ ∧ J ((sendP ⟨sa, sb, xs, sl, se⟩).take k) w ∧ Below w0.heap.size w0 w) ∧ Fr 34 [] [(0, .func (.yield l) #[] #[]), (1, .pointer (some ⟨g1, 0, none⟩)), (7, .slice ad xs.length cap), (8, .int .i64 xs.length), (9, .int .i64 k)] a) (fun k => cntP ⟨sa, sb, xs, sl, se⟩ - k) 0
    ⟨⟨Nat.zero_le _, h0, hB1⟩, F.cut ⟨rfl, rfl, rfl, rfl, rfl, trivial⟩⟩ (fun k a wq hI => ?_)
  clear F H
  obtain ⟨⟨hk, hJk, hBk⟩, F⟩ := hI
  have H := Hp.start wq []
  simp only at hs hlen
  refine rg ?_
  refine st F H rfl rfl rfl (y_lt rfl rfl) ?_; (try clear F a); intro a F
  refine wpList_nil ?_
  refine wp_seq ?_
  refine cn F rfl (fun h1 => ?_) (fun h1 => ?_)
  · have hlt : k < xs.length := by simpa using h1
    have hx : xs[k]? = some (xs.getD k default) := by rw [List.getD_eq_getElem?_getD, List.getElem?_eq_getElem hlt]; rfl
    obtain ⟨g, o, had, hg⟩ := hs.addr (by omega)
    subst had
    refine wp_skip ?_
    refine th_n ?_
    refine wp_seq ?_
    refine wp_block ?_
    refine rg ?_
    refine st F H rfl rfl rfl (y_mv rfl) ?_; (try clear F a); intro a F
    refine st F H rfl rfl rfl (y_ix Try.underlying24 Try.sizeOf47 rfl rfl rfl k rfl hlt) ?_; (try clear F a); intro a F
    refine st F H rfl rfl rfl (y_lda (vs := (xs.getD k default).cs) rfl Try.isAgg47 Try.sizeOf47 (fun w H => (hs.old (hO (hold hBk H.b0)).nil).at hx) rfl) ?_; (try clear F a); intro a F
    refine s_alloc 4 F H rfl Try.zeroValue47 rfl ?_; intro g4; (try clear F H a); try clear w
    intro a w F H
    refine st F H rfl rfl rfl (y_as rfl) ?_; (try clear F a); intro a F
    refine s_st (key := 4) F H rfl rfl rfl rfl Try.sizeOf47 rfl rfl rfl ?_; (try clear F H a); try clear w
    intro a w F H
    refine wpList_nil ?_
    refine rg ?_
    refine st F H rfl rfl rfl (y_fa Try.underlying30 rfl Try.sizeOf28 rfl) ?_; (try clear F a); intro a F
    refine st F H rfl rfl rfl (y_ld1a rfl Try.isAgg28 (fun w H => by rw [cell_of_blk (hbox (hold hBk H.b0))]; rfl)) ?_; (try clear F a); intro a F
    refine st F H rfl rfl rfl (y_mv rfl) ?_; (try clear F a); intro a F
    refine st F H rfl rfl rfl (y_cvi Try.underlying3 Try.underlying28 rfl) ?_; (try clear F a); intro a F
    refine st F H rfl rfl rfl (y_add rfl rfl) ?_; (try clear F a); intro a F
    refine st F H rfl rfl rfl (y_as rfl) ?_; (try clear F a); intro a F
    refine wpList_nil ?_
    have hn : IntKind.u64.wrap (sb + IntKind.u64.wrap k) = sb + k := by rw [wu64 (x := (k : Int)) (by omega), wu64 (by omega)]
    rw [hn] at F
    have hcn : cntP ⟨sa, sb, xs, sl, se⟩ = min xs.length (sl + 1 - sb).toNat := rfl
    have hJw := hJo hJk H.b0
    have hBw := hold hBk H.b0
    refine wp_seq_k fun K hK => ?_
    have C : ∀ (b : Bool) a w, Fr 34 [] [(0, .func (.yield l) #[] #[]), (1, .pointer (some ⟨g1, 0, none⟩)), (7, .slice (some ⟨g, o, none⟩) xs.length cap), (8, .int .i64 xs.length), (9, .int .i64 k), (32, .bool b)] a →
        ((b = false ∧ k < cntP ⟨sa, sb, xs, sl, se⟩ ∧ J ((sendP ⟨sa, sb, xs, sl, se⟩).take (k + 1)) w ∧ Below w0.heap.size w0 w) ∨ (b = true ∧ ((k = cntP ⟨sa, sb, xs, sl, se⟩ ∧ J ((sendP ⟨sa, sb, xs, sl, se⟩).take k) w) ∨ ∃ pre, Jx pre w))) → K a w := ?_
    · by_cases hlim : sl < sb + k
      · refine rg1 ?_
        refine st F H rfl rfl rfl (y_mv rfl) ?_; (try clear F a); intro a F
        refine st F H rfl rfl rfl (y_fa Try.underlying30 rfl Try.sizeOf28 rfl) ?_; (try clear F a); intro a F
        refine st F H rfl rfl rfl (y_ld1a rfl Try.isAgg28 (fun w H => by rw [cell_of_blk (hbox (hold hBk H.b0))]; rfl)) ?_; (try clear F a); intro a F
        refine st F H rfl rfl rfl (y_gt rfl rfl) ?_; (try clear F a); intro a F
        refine st F H rfl rfl rfl (y_mv rfl) ?_; (try clear F a); intro a F
        refine gor 8 (c := false) F H rfl .no rfl rfl rfl rfl (fun hb => by simp [hlim] at hb) ?_
        intro a w F H
        refine wpList_nil ?_
        rw [show (decide (sl < sb + k) || false) = true by simp [hlim]] at F
        exact C true a w (F.cut ⟨rfl, rfl, rfl, rfl, rfl, rfl, trivial⟩) (.inr ⟨rfl, .inl ⟨by omega, hJo hJk H.b0⟩⟩)
      · have hkc : k < cntP ⟨sa, sb, xs, sl, se⟩ := by omega
        have hgd : decide (sl < sb + k) = false := by simp; omega
        have hYk := hY ((sendP ⟨sa, sb, xs, sl, se⟩).take k) (pktAt ⟨sa, sb, xs, sl, se⟩ k) _ hJw (by rw [List.length_take, sendP_len]; omega)
        refine (wpIn_wide (n := 4)).1 (wpIn_region_lit (plainW 11 ?_))
        refine st F H rfl rfl rfl (y_mv rfl) ?_; (try clear F a); intro a F
        refine st F H rfl rfl rfl (y_fa Try.underlying30 rfl Try.sizeOf28 rfl) ?_; (try clear F a); intro a F
        refine st F H rfl rfl rfl (y_ld1a rfl Try.isAgg28 (fun w H => by rw [cell_of_blk (hbox (hold hBk H.b0))]; rfl)) ?_; (try clear F a); intro a F
        refine st F H rfl rfl rfl (y_gt rfl rfl) ?_; (try clear F a); intro a F
        refine st F H rfl rfl rfl (y_mv rfl) ?_; (try clear F a); intro a F
        refine gt F rfl rfl rfl rfl hgd ?_
        refine st F H rfl rfl rfl (y_mv rfl) ?_; (try clear F a); intro a F
        refine gt F rfl rfl rfl rfl hgd ?_
        refine st F H rfl rfl rfl (y_fa Try.underlying30 rfl Try.sizeOf27 rfl) ?_; (try clear F a); intro a F
        refine gt F rfl rfl rfl rfl hgd ?_
        refine st F H rfl rfl rfl (y_ld1a rfl Try.isAgg27 (fun w H => by rw [cell_of_blk (hbox (hold hBk H.b0))]; rfl)) ?_; (try clear F a); intro a F
        refine gt F rfl rfl rfl rfl hgd ?_
        refine st F H rfl rfl rfl (y_mv rfl) ?_; (try clear F a); intro a F
        refine gt F rfl rfl rfl rfl hgd ?_
        refine st F H rfl rfl rfl (y_ld (key := 4) rfl rfl Try.isAgg47 Try.sizeOf47 rfl) ?_; (try clear F a); intro a F
        refine gt F rfl rfl rfl rfl hgd ?_
        refine st F H rfl rfl rfl (y_build Try.zeroValue114 Try.underlying114 pl114 rfl (.cons rfl (.cons rfl (.cons rfl (.cons rfl .nil)))) rfl) ?_; (try clear F a); intro a F
        refine wpList_nil ?_
        refine s_yield F (.yes rfl rfl rfl hgd) rfl rfl rfl hYk ?_
        rintro e w' (⟨rfl, hJ', hB'⟩ | ⟨rfl, hJx'⟩)
        · refine ⟨_, rfl, fun a F => plainW 2 ?_⟩
          have H := Hp.start w' []
          refine gt F rfl rfl rfl rfl hgd ?_
          refine st F H rfl rfl rfl (y_not rfl) ?_; (try clear F a); intro a F
          refine st F H rfl rfl rfl (y_pick rfl rfl rfl) ?_; (try clear F a); intro a F
          refine wpList_nil ?_
          rw [hgd] at F
          exact C false a w' (F.cut ⟨rfl, rfl, rfl, rfl, rfl, rfl, trivial⟩) (.inl ⟨rfl, hkc, by rw [sendP_take _ hkc]; exact hJ', hBw.trans hB'⟩)
        · refine ⟨_, rfl, fun a F => plainW 2 ?_⟩
          have H := Hp.start w' []
          refine gt F rfl rfl rfl rfl hgd ?_
          refine st F H rfl rfl rfl (y_not rfl) ?_; (try clear F a); intro a F
          refine st F H rfl rfl rfl (y_pick rfl rfl rfl) ?_; (try clear F a); intro a F
          refine wpList_nil ?_
          rw [hgd] at F
          exact C true a w' (F.cut ⟨rfl, rfl, rfl, rfl, rfl, rfl, trivial⟩) (.inr ⟨rfl, .inr ⟨_, hJx'⟩⟩)
    clear F H hJw hBw
    intro b a w F hP
    refine hK a w ?_
    refine cn F rfl (fun h4 => ?_) (fun h4 => ?_)
    · have hb : b = true := h4
      subst hb
      rcases hP with ⟨h, _⟩ | ⟨_, hP⟩
      · cases h
      refine wp_ret (ib_r (th_r (th_r (ib_r (ret0 F rfl ⟨⟨_, rfl⟩, ?_⟩)))))
      rcases hP with ⟨he, hj⟩ | ⟨pre, hj⟩
      · refine .inl ⟨_, rfl, ?_⟩
        rw [he, ← sendP_len, List.take_length] at hj
        exact hj
      · exact .inr ⟨pre, trivial, hj⟩
    · have hb : b = false := h4
      subst hb
      rcases hP with ⟨_, hkc, hj, hB'⟩ | ⟨h, _⟩
      rotate_left
      · cases h
      have H := Hp.start w []
      refine wp_skip ?_
      refine ib_n ?_
      refine th_n ?_
      refine rg1 ?_
      refine st F H rfl rfl rfl (y_add rfl rfl) ?_; (try clear F a); intro a F
      refine st F H rfl rfl rfl (y_mv rfl) ?_; (try clear F a); intro a F
      refine wpList_nil ?_
      refine th_n ?_
      rw [wk (by omega)] at F
      exact ⟨k + 1, ⟨⟨hkc, hj, hB'⟩, F.cut ⟨rfl, rfl, rfl, rfl, rfl, trivial⟩⟩, by omega⟩
  · refine wp_exit (th_x (th_x (ib_x ?_)))
    have hk' : ¬ ((k : Int) < xs.length) := by simpa using h1
    have hcn : cntP ⟨sa, sb, xs, sl, se⟩ = min xs.length (sl + 1 - sb).toNat := rfl
    refine end0 F rfl ⟨⟨_, rfl⟩, .inl ⟨_, rfl, ?_⟩⟩
    rw [show k = (sendP ⟨sa, sb, xs, sl, se⟩).length by rw [sendP_len]; omega, List.take_length] at hJk
    exact hJk
def sendV (s : Snd) : List Pck × Int := if s.bad = true then ([], 240) else (sendP s, 0)
def RetP (w0 : World) (r : List Pck × Int) (v : Value) (w' : World) : Prop :=
  ∃ ad cap, v = .tuple #[.slice ad r.1.length cap, .int .i64 r.2] ∧ Sl (List.range w0.heap.size) w' 9 Pck.cs ad r.1.length cap r.1
theorem send_c {E : List Nat} {w0 : World} {ad : Option Addr} {cap : Nat} (s : Snd) (hs : SlE E w0 ad s.q.length cap s.q) :
    CallsTo Try.prog 33 [s.v ad cap] w0 [] (RetP w0 (sendV s)) := by
  obtain ⟨sa, sb, xs, sl, se⟩ := s
  simp only [Snd.v] at hs ⊢
  refine enter (m := 13) Try.func33 rfl rfl rfl ?_; intro a F
  have H := Hp.start w0 []
  refine rg ?_
  refine s_box 1 F H rfl rfl rfl ?_; intro g1; (try clear F H a); try clear w
  intro a w F H
  refine st F H rfl rfl rfl (y_as rfl) ?_; (try clear F a); intro a F
  refine st F H rfl rfl rfl (y_as rfl) ?_; (try clear F a); intro a F
  refine wpList_nil ?_
  refine wp_seq ?_
  refine rg ?_
  refine st F H rfl rfl rfl (y_ld (key := 1) rfl rfl Try.isAgg30 Try.sizeOf30 rfl) ?_; (try clear F a); intro a F
  refine s_callV F H rfl rfl (.cons rfl .nil) Try.call94 (checkSender_c _ _ _ _ (hs.old H.b0.nil)) ?_; (try clear F H a); try clear w
  intro a w F H
  refine st F H rfl rfl rfl (y_as rfl) ?_; (try clear F a); intro a F
  refine wpList_nil ?_
  refine rg ?_
  refine st F H rfl rfl rfl (y_mv rfl) ?_; (try clear F a); intro a F
  refine st F H rfl rfl rfl (y_ne rfl rfl) ?_; (try clear F a); intro a F
  refine wpList_nil ?_
  refine cn F rfl (fun h2 => ?_) (fun h2 => ?_)
  · have hbad : sndBad sa sb xs sl se = true := by cases h : sndBad sa sb xs sl se <;> simp_all
    refine rg ?_
    refine st F H rfl rfl rfl (y_mv rfl) ?_; (try clear F a); intro a F
    refine st F H rfl rfl rfl (y_as rfl) ?_; (try clear F a); intro a F
    refine st F H rfl rfl rfl (y_as rfl) ?_; (try clear F a); intro a F
    refine wpList_nil ?_
    refine wp_ret (th_r (ret2 F H rfl (rv rfl) (rv rfl) ⟨_, rfl, H.b0, ?_⟩))
    (try clear F H a)
    rw [show sendV ⟨sa, sb, xs, sl, se⟩ = ([], 240) from if_pos hbad]
    refine ⟨none, 0, ?_, Sl.nilOf _ _ _ _⟩
    show Value.tuple #[.slice none 0 0, .int .i64 (if sndBad sa sb xs sl se = true then 240 else 0)] = Value.tuple #[.slice none 0 0, .int .i64 240]
    rw [if_pos hbad]
  · have hbad : sndBad sa sb xs sl se = false := by cases h : sndBad sa sb xs sl se <;> simp_all
    have hlen := sndBad_len hbad
    refine wp_skip ?_
    refine th_n ?_
    refine rg ?_
    refine st F H rfl rfl rfl (y_ld (key := 1) rfl rfl Try.isAgg30 Try.sizeOf30 rfl) ?_; (try clear F a); intro a F
    refine s_in F rfl (.cons rfl .nil) Try.call96 rfl ?_
    refine enter (m := 4) Try.func96 rfl rfl rfl ?_; intro a F
    refine rg ?_
    refine s_box 1001 F H rfl rfl rfl ?_; intro g1001; (try clear F H a); try clear w
    intro a w F H
    refine st F H rfl rfl rfl (y_as rfl) ?_; (try clear F a); intro a F
    refine wpList_nil ?_
    refine rg ?_
    refine st F H rfl rfl rfl (y_fn (.cons rfl .nil)) ?_; (try clear F a); intro a F
    refine st F H rfl rfl rfl (y_as rfl) ?_; (try clear F a); intro a F
    refine wpList_nil ?_
    refine wp_ret (ret1 F H rfl (rv rfl) ⟨_, rfl, fun a F => ?_⟩)
    refine s_callN 12 F H rfl rfl (.cons rfl .nil) Try.call95 (collected95_c (sendP ⟨sa, sb, xs, sl, se⟩) _ 175 [_] (fun _ => True) (by rw [sendP_len]; simp only [cntP]; omega) Try.call175 (fun W hW => packets_stops ⟨sa, sb, xs, sl, se⟩ (hs.old H.b0.nil) hlen (H.cell (k := 1001) rfl rfl) W hW)) ?_
    rintro _ og12 row12 a w ⟨cap1, rfl, hr⟩ hO F H
    refine st F H rfl rfl rfl (y_as rfl) ?_; (try clear F a); intro a F
    refine st F H rfl rfl rfl (y_as rfl) ?_; (try clear F a); intro a F
    refine wpList_nil ?_
    refine wp_ret (ret2 F H rfl (rv rfl) (rv rfl) ⟨_, rfl, H.b0, ?_⟩)
    rw [show sendV ⟨sa, sb, xs, sl, se⟩ = (sendP ⟨sa, sb, xs, sl, se⟩, 0) from if_neg (ntrue hbad)]
    exact ⟨adr og12, cap1, rfl, hr.sl Pck.wid (fun g hg => H.cell (k := 12) rfl hg) (fun g hg => fresh_range (H.fresh (k := 12) rfl hg))⟩
end Go.Proofs.Ytilakloilkkfmaa
