/-
  link: what the ends of a link do.
-/
import Derived.Test.YtilakloilkkfmaaLinkA
import Derived.Test.YtilakloilkkfmaaClones
namespace Go.Proofs.Ytilakloilkkfmaa
open Go Go.Sx
set_option maxRecDepth 10000
-- @uses Rec LinkA Clones
theorem El.one (x : El) : one1 x.cs = true := rfl
structure Snd where
  a : Int
  b : Int
  q : List El
  l : Int
  e : Bool
  deriving DecidableEq, Inhabited
structure Rcv where
  a : Int
  b : Int
  q : List El
  r : Int
  deriving DecidableEq, Inhabited
structure Pck where
  k : Int
  a : Int
  s : Int
  l : Int
  x : El
  deriving DecidableEq, Inhabited
def Snd.v (s : Snd) (ad : Option Addr) (cap : Nat) : Value := .agg #[.int .u32 s.a, .int .u64 s.b, .slice ad s.q.length cap, .int .u64 s.l, .bool s.e]
def Rcv.v (s : Rcv) (ad : Option Addr) (cap : Nat) : Value := .agg #[.int .u32 s.a, .int .u64 s.b, .slice ad s.q.length cap, .int .i64 s.r]
def Pck.cs (p : Pck) : List Value := [.int .i64 p.k, .int .u32 p.a, .int .u64 p.s, .int .u64 p.l, .int .i64 p.x.k, .int .i64 p.x.s, .int .i64 p.x.y, .int .i64 p.x.v, .int .u64 p.x.m]
theorem Pck.wid : Wid 9 Pck.cs := fun _ => rfl
theorem Pck.one (x : Pck) : one1 x.cs = true := rfl
def Snd.bad (s : Snd) : Bool := sndBad s.a s.b s.q s.l s.e
def Rcv.bad (s : Rcv) : Bool := rcvBad s.a s.b s.q s.r
def El.zero : El := ⟨0, 0, 0, 0, 0⟩
def Snd.zero : Snd := ⟨0, 0, [], 0, false⟩
def Rcv.zero : Rcv := ⟨0, 0, [], 0⟩
def RetS (w0 : World) (r : Snd × Int) (v : Value) (w' : World) : Prop :=
  ∃ ad cap, v = .tuple #[r.1.v ad cap, .int .i64 r.2] ∧ SlE (List.range w0.heap.size) w' ad r.1.q.length cap r.1.q
def RetR (w0 : World) (r : Rcv × Int) (v : Value) (w' : World) : Prop :=
  ∃ ad cap, v = .tuple #[r.1.v ad cap, .int .i64 r.2] ∧ SlE (List.range w0.heap.size) w' ad r.1.q.length cap r.1.q
def beh (b : Int) (q : List El) : Int := IntKind.u64.wrap (b + IntKind.u64.wrap q.length)
def putS (s : Snd) (x : El) : Snd × Int :=
  if s.bad = true then (.zero, 240) else if x.ok = false then (.zero, 151) else if s.e = true then (.zero, 241)
  else if (decide ((8 : Int) ≤ s.q.length) || decide (4611686018427387904 < beh s.b s.q)) = true then (.zero, 6) else ({ s with q := s.q ++ [x], e := x.k == 3 }, 0)
theorem ntrue {b : Bool} (h : b = false) : ¬ (b = true) := by rw [h]; decide
theorem fresh_range {w0 : World} {g : Nat} (h : w0.heap.size ≤ g) : g ∉ List.range w0.heap.size := by simp; omega
theorem sndBad_len {a b : Int} {xs : List El} {l : Int} {e : Bool} (h : sndBad a b xs l e = false) : xs.length ≤ 8 ∧ 1 ≤ b ∧ b ≤ 4611686018427387904 ∧ l ≤ 4611686018427387904 := by
  simp [sndBad, rowB] at h; omega
theorem put_c {E : List Nat} {w0 : World} {ad : Option Addr} {cap : Nat} (s : Snd) (x : El) (hs : SlE E w0 ad s.q.length cap s.q) :
    CallsTo Try.prog 31 [s.v ad cap, .agg x.cs.toArray] w0 [] (RetS w0 (putS s x)) := by
  obtain ⟨sa, sb, xs, sl, se⟩ := s
  obtain ⟨xk, xs', xy, xv, xm⟩ := x
  simp only [Snd.v, El.cs] at hs ⊢
  refine enter (m := 11) Try.func31 rfl rfl rfl ?_; intro a F
  have H := Hp.start w0 []
  refine rg ?_
  refine s_box 2 F H rfl rfl rfl ?_; intro g2; (try clear F H a); try clear w
  intro a w F H
  refine s_box 3 F H rfl rfl rfl ?_; intro g3; (try clear F H a); try clear w
  intro a w F H
  refine s_alloc 4 F H rfl Try.zeroValue30 rfl ?_; intro g4; (try clear F H a); try clear w
  intro a w F H
  refine st F H rfl rfl rfl (y_as rfl) ?_; (try clear F a); intro a F
  refine wpList_nil ?_
  refine rg ?_
  refine st F H rfl rfl rfl (y_ld (key := 2) rfl rfl Try.isAgg30 Try.sizeOf30 rfl) ?_; (try clear F a); intro a F
  refine st F H rfl rfl rfl (y_fn (.cons rfl .nil)) ?_; (try clear F a); intro a F
  refine s_in F rfl (.cons rfl (.cons rfl .nil)) Try.call90 rfl ?_
  refine enter (m := 25) Try.func90 rfl rfl rfl ?_; intro a F
  refine rg ?_
  refine s_box 1002 F H rfl rfl rfl ?_; intro g1002; (try clear F H a); try clear w
  intro a w F H
  refine s_alloc 1004 F H rfl Try.zeroValue30 rfl ?_; intro g1004; (try clear F H a); try clear w
  intro a w F H
  refine st F H rfl rfl rfl (y_as rfl) ?_; (try clear F a); intro a F
  refine wpList_nil ?_
  refine wp_seq ?_
  refine rg ?_
  refine st F H rfl rfl rfl (y_ld (key := 1002) rfl rfl Try.isAgg30 Try.sizeOf30 rfl) ?_; (try clear F a); intro a F
  refine s_callV F H rfl rfl (.cons rfl .nil) Try.call94 (checkSender_c _ _ _ _ (hs.old H.b0.nil)) ?_; (try clear F H a); try clear w
  intro a w F H
  refine st F H rfl rfl rfl (y_as rfl) ?_; (try clear F a); intro a F
  refine wpList_nil ?_
  refine rg ?_
  refine st F H rfl rfl rfl (y_mv rfl) ?_; (try clear F a); intro a F
  refine st F H rfl rfl rfl (y_ne rfl rfl) ?_; (try clear F a); intro a F
  refine wpList_nil ?_
  refine cn F rfl (fun h2_1 => ?_) (fun h2_1 => ?_)
  · have hbad : sndBad sa sb xs sl se = true := by cases h : sndBad sa sb xs sl se <;> simp_all
    refine rg ?_
    refine st F H rfl rfl rfl (y_build Try.zeroValue30 Try.underlying30 pl30 rfl .nil rfl) ?_; (try clear F a); intro a F
    refine st F H rfl rfl rfl (y_mv rfl) ?_; (try clear F a); intro a F
    refine s_st (key := 1004) F H rfl rfl rfl rfl Try.sizeOf30 rfl rfl rfl ?_; (try clear F H a); try clear w
    intro a w F H
    refine st F H rfl rfl rfl (y_as rfl) ?_; (try clear F a); intro a F
    refine wpList_nil ?_
    refine wp_ret (th_r (ret2 F H rfl (rva (key := 1004) rfl rfl Try.isAgg30 Try.sizeOf30 rfl) (rv rfl) ⟨_, rfl, fun a F => ?_⟩))
    refine st F H rfl rfl rfl (y_ext rfl rfl) ?_; (try clear F a); intro a F
    refine st F H rfl rfl rfl (y_ext rfl rfl) ?_; (try clear F a); intro a F
    refine s_st (key := 4) F H rfl rfl rfl rfl Try.sizeOf30 rfl rfl rfl ?_; (try clear F H a); try clear w
    intro a w F H
    refine st F H rfl rfl rfl (y_as rfl) ?_; (try clear F a); intro a F
    refine wpList_nil ?_
    refine wp_ret (ret2 F H rfl (rva (key := 4) rfl rfl Try.isAgg30 Try.sizeOf30 rfl) (rv rfl) ⟨_, rfl, H.b0, ?_⟩)
    (try clear F H a)
    rw [show putS ⟨sa, sb, xs, sl, se⟩ ⟨xk, xs', xy, xv, xm⟩ = (Snd.zero, 240) by simp [putS, Snd.bad, hbad]]
    refine ⟨none, 0, ?_, Sl.nilOf _ _ _ _⟩
    show Value.tuple #[Snd.v Snd.zero none 0, .int .i64 (if sndBad sa sb xs sl se = true then 240 else 0)] = Value.tuple #[Snd.v Snd.zero none 0, .int .i64 240]
    rw [if_pos hbad]
  · have hbad : sndBad sa sb xs sl se = false := by cases h : sndBad sa sb xs sl se <;> simp_all
    have hlen := sndBad_len hbad
    refine wp_skip ?_
    refine th_n ?_
    refine rg ?_
    refine st F H rfl rfl rfl (y_fa Try.underlying30 rfl Try.sizeOf24 rfl) ?_; (try clear F a); intro a F
    refine st F H rfl rfl rfl (y_ld1 (key := 1002) rfl rfl Try.isAgg24 rfl) ?_; (try clear F a); intro a F
    refine s_callN 1016 F H rfl rfl (.cons rfl .nil) Try.call173 (clone173_c El.wid El.one (hs.old H.b0.nil) (by omega)) ?_
    rintro _ og1016 row1016 a w ⟨cap1, rfl, hr, hn1⟩ hO F H
    refine st F H rfl rfl rfl (y_fa Try.underlying30 rfl Try.sizeOf24 rfl) ?_; (try clear F a); intro a F
    refine s_st (key := 1002) F H rfl rfl rfl rfl Try.sizeOf24 rfl rfl rfl ?_; (try clear F H a); try clear w
    intro a w F H
    refine wpList_nil ?_
    refine wp_seq ?_
    refine rg ?_
    refine st F H rfl rfl rfl (y_mv rfl) ?_; (try clear F a); intro a F
    refine s_in F rfl (.cons rfl .nil) Try.call91 rfl ?_
    refine enter (m := 45) Try.func91 rfl rfl rfl ?_; intro a F
    refine rg ?_
    refine st F H rfl rfl rfl (y_as rfl) ?_; (try clear F a); intro a F
    refine wpList_nil ?_
    refine wp_seq ?_
    refine rg ?_
    refine st F H rfl rfl rfl (y_ld (key := 3) rfl rfl Try.isAgg47 Try.sizeOf47 rfl) ?_; (try clear F a); intro a F
    refine s_callV F H rfl rfl (.cons rfl .nil) Try.call92 (checkElem_c _ _ _ _ _ _) ?_; (try clear F H a); try clear w
    intro a w F H
    refine st F H rfl rfl rfl (y_as rfl) ?_; (try clear F a); intro a F
    refine wpList_nil ?_
    refine rg ?_
    refine st F H rfl rfl rfl (y_mv rfl) ?_; (try clear F a); intro a F
    refine st F H rfl rfl rfl (y_ne rfl rfl) ?_; (try clear F a); intro a F
    refine wpList_nil ?_
    refine cn F rfl (fun h2_2 => ?_) (fun h2_2 => ?_)
    · have hx : El.ok ⟨xk, xs', xy, xv, xm⟩ = false := by cases h : elemOK xk xs' xy xv xm <;> simp_all [El.ok]
      refine rg ?_
      refine st F H rfl rfl rfl (y_mv rfl) ?_; (try clear F a); intro a F
      refine st F H rfl rfl rfl (y_as rfl) ?_; (try clear F a); intro a F
      refine wpList_nil ?_
      refine wp_ret (th_r (ret1 F H rfl (rv rfl) ⟨_, rfl, fun a F => ?_⟩))
      refine st F H rfl rfl rfl (y_as rfl) ?_; (try clear F a); intro a F
      refine wpList_nil ?_
      refine rg ?_
      refine st F H rfl rfl rfl (y_mv rfl) ?_; (try clear F a); intro a F
      refine st F H rfl rfl rfl (y_ne rfl rfl) ?_; (try clear F a); intro a F
      refine wpList_nil ?_
      refine cn F rfl (fun h6_1 => ?_) (fun h6_1 => ?_)
      · refine rg ?_
        refine st F H rfl rfl rfl (y_build Try.zeroValue30 Try.underlying30 pl30 rfl .nil rfl) ?_; (try clear F a); intro a F
        refine st F H rfl rfl rfl (y_mv rfl) ?_; (try clear F a); intro a F
        refine s_st (key := 1004) F H rfl rfl rfl rfl Try.sizeOf30 rfl rfl rfl ?_; (try clear F H a); try clear w
        intro a w F H
        refine st F H rfl rfl rfl (y_as rfl) ?_; (try clear F a); intro a F
        refine wpList_nil ?_
        refine wp_ret (th_r (ret2 F H rfl (rva (key := 1004) rfl rfl Try.isAgg30 Try.sizeOf30 rfl) (rv rfl) ⟨_, rfl, fun a F => ?_⟩))
        refine st F H rfl rfl rfl (y_ext rfl rfl) ?_; (try clear F a); intro a F
        refine st F H rfl rfl rfl (y_ext rfl rfl) ?_; (try clear F a); intro a F
        refine s_st (key := 4) F H rfl rfl rfl rfl Try.sizeOf30 rfl rfl rfl ?_; (try clear F H a); try clear w
        intro a w F H
        refine st F H rfl rfl rfl (y_as rfl) ?_; (try clear F a); intro a F
        refine wpList_nil ?_
        refine wp_ret (ret2 F H rfl (rva (key := 4) rfl rfl Try.isAgg30 Try.sizeOf30 rfl) (rv rfl) ⟨_, rfl, H.b0, ?_⟩)
        (try clear F H a)
        rw [show putS ⟨sa, sb, xs, sl, se⟩ ⟨xk, xs', xy, xv, xm⟩ = (Snd.zero, 151) by simp [putS, Snd.bad, hbad, hx]]
        refine ⟨none, 0, ?_, Sl.nilOf _ _ _ _⟩
        show Value.tuple #[Snd.v Snd.zero none 0, .int .i64 (if elemOK xk xs' xy xv xm = true then 0 else 151)] = Value.tuple #[Snd.v Snd.zero none 0, .int .i64 151]
        rw [if_neg (by rw [show elemOK xk xs' xy xv xm = false from hx]; decide)]
      · refine wp_skip ?_
        refine th_n ?_
        refine rg ?_
        refine st F H rfl rfl rfl (y_ld (key := 1002) rfl rfl Try.isAgg30 Try.sizeOf30 rfl) ?_; (try clear F a); intro a F
        refine s_st (key := 1004) F H rfl rfl rfl rfl Try.sizeOf30 rfl rfl rfl ?_; (try clear F H a); try clear w
        intro a w F H
        refine st F H rfl rfl rfl (y_as rfl) ?_; (try clear F a); intro a F
        refine wpList_nil ?_
        refine wp_ret (ret2 F H rfl (rva (key := 1004) rfl rfl Try.isAgg30 Try.sizeOf30 rfl) (rv rfl) ⟨_, rfl, fun a F => ?_⟩)
        refine st F H rfl rfl rfl (y_ext rfl rfl) ?_; (try clear F a); intro a F
        refine st F H rfl rfl rfl (y_ext rfl rfl) ?_; (try clear F a); intro a F
        refine s_st (key := 4) F H rfl rfl rfl rfl Try.sizeOf30 rfl rfl rfl ?_; (try clear F H a); try clear w
        intro a w F H
        refine st F H rfl rfl rfl (y_as rfl) ?_; (try clear F a); intro a F
        refine wpList_nil ?_
        refine wp_ret (ret2 F H rfl (rva (key := 4) rfl rfl Try.isAgg30 Try.sizeOf30 rfl) (rv rfl) ⟨_, rfl, H.b0, ?_⟩)
        (try clear F H a)
        rw [show elemOK xk xs' xy xv xm = false from hx] at h6_1; cases h6_1
    · have hx : El.ok ⟨xk, xs', xy, xv, xm⟩ = true := by cases h : elemOK xk xs' xy xv xm <;> simp_all [El.ok]
      refine wp_skip ?_
      refine th_n ?_
      refine wp_seq ?_
      refine wp_block ?_
      refine rg ?_
      refine st F H rfl rfl rfl (y_mv rfl) ?_; (try clear F a); intro a F
      refine st F H rfl rfl rfl (y_nil rfl) ?_; (try clear F a); intro a F
      refine st F H rfl rfl rfl (y_fa Try.underlying30 rfl Try.sizeOf4 rfl) ?_; (try clear F a); intro a F
      refine st F H rfl rfl rfl (y_ld1 (key := 1002) rfl rfl Try.isAgg4 rfl) ?_; (try clear F a); intro a F
      refine st F H rfl rfl rfl (y_as rfl) ?_; (try clear F a); intro a F
      refine wpList_nil ?_
      refine cn F rfl (fun h4_2 => ?_) (fun h4_2 => ?_)
      · refine rg ?_
        refine st F H rfl rfl rfl (y_as rfl) ?_; (try clear F a); intro a F
        refine wpList_nil ?_
        refine wp_ret (ib_r (th_r (ret1 F H rfl (rv rfl) ⟨_, rfl, fun a F => ?_⟩)))
        refine st F H rfl rfl rfl (y_as rfl) ?_; (try clear F a); intro a F
        refine wpList_nil ?_
        refine rg ?_
        refine st F H rfl rfl rfl (y_mv rfl) ?_; (try clear F a); intro a F
        refine st F H rfl rfl rfl (y_ne rfl rfl) ?_; (try clear F a); intro a F
        refine wpList_nil ?_
        refine cnT F rfl ?_
        refine rg ?_
        refine st F H rfl rfl rfl (y_build Try.zeroValue30 Try.underlying30 pl30 rfl .nil rfl) ?_; (try clear F a); intro a F
        refine st F H rfl rfl rfl (y_mv rfl) ?_; (try clear F a); intro a F
        refine s_st (key := 1004) F H rfl rfl rfl rfl Try.sizeOf30 rfl rfl rfl ?_; (try clear F H a); try clear w
        intro a w F H
        refine st F H rfl rfl rfl (y_as rfl) ?_; (try clear F a); intro a F
        refine wpList_nil ?_
        refine wp_ret (th_r (ret2 F H rfl (rva (key := 1004) rfl rfl Try.isAgg30 Try.sizeOf30 rfl) (rv rfl) ⟨_, rfl, fun a F => ?_⟩))
        refine st F H rfl rfl rfl (y_ext rfl rfl) ?_; (try clear F a); intro a F
        refine st F H rfl rfl rfl (y_ext rfl rfl) ?_; (try clear F a); intro a F
        refine s_st (key := 4) F H rfl rfl rfl rfl Try.sizeOf30 rfl rfl rfl ?_; (try clear F H a); try clear w
        intro a w F H
        refine st F H rfl rfl rfl (y_as rfl) ?_; (try clear F a); intro a F
        refine wpList_nil ?_
        refine wp_ret (ret2 F H rfl (rva (key := 4) rfl rfl Try.isAgg30 Try.sizeOf30 rfl) (rv rfl) ⟨_, rfl, H.b0, ?_⟩)
        (try clear F H a)
        rw [show putS ⟨sa, sb, xs, sl, se⟩ ⟨xk, xs', xy, xv, xm⟩ = (Snd.zero, 241) from (if_neg (ntrue hbad)).trans ((if_neg (by simp [hx])).trans (if_pos h4_2))]
        exact ⟨none, 0, rfl, Sl.nilOf _ _ _ _⟩
      · refine rg ?_
        refine st F H rfl rfl rfl (y_mv rfl) ?_; (try clear F a); intro a F
        refine st F H rfl rfl rfl (y_nil rfl) ?_; (try clear F a); intro a F
        refine st F H rfl rfl rfl (y_fa Try.underlying30 rfl Try.sizeOf24 rfl) ?_; (try clear F a); intro a F
        refine st F H rfl rfl rfl (y_ld1 (key := 1002) rfl rfl Try.isAgg24 rfl) ?_; (try clear F a); intro a F
        refine st F H rfl rfl rfl (y_len Try.underlying24 rfl) ?_; (try clear F a); intro a F
        refine st F H rfl rfl rfl (y_ge rfl rfl) ?_; (try clear F a); intro a F
        refine st F H rfl rfl rfl (y_mv rfl) ?_; (try clear F a); intro a F
        refine gor 5 F H rfl .no rfl rfl rfl rfl (fun hb6_6_2 K1 hK1 => by
            refine gt F rfl rfl rfl rfl hb6_6_2 ?_
            refine st F H rfl rfl rfl (y_mv rfl) ?_; (try clear F a); intro a F
            refine gt F rfl rfl rfl rfl hb6_6_2 ?_
            refine st F H rfl rfl rfl (y_nil rfl) ?_; (try clear F a); intro a F
            refine gt F rfl rfl rfl rfl hb6_6_2 ?_
            refine st F H rfl rfl rfl (y_ld (key := 1002) rfl rfl Try.isAgg30 Try.sizeOf30 rfl) ?_; (try clear F a); intro a F
            refine gt F rfl rfl rfl rfl hb6_6_2 ?_
            refine s_callV F H rfl rfl (.cons rfl .nil) Try.call93 (behind_c _ _ _ _ _ _ _ _) ?_; (try clear F H a); try clear w
            intro a w F H
            refine gt F rfl rfl rfl rfl hb6_6_2 ?_
            refine st F H rfl rfl rfl (y_gt rfl rfl) ?_; (try clear F a); intro a F
            exact nl (hK1 _ _ _ F rfl H)) ?_
        (try clear F H a); try clear w
        intro a w F H
        refine st F H rfl rfl rfl (y_as rfl) ?_; (try clear F a); intro a F
        refine wpList_nil ?_
        refine cn F rfl (fun h6_2 => ?_) (fun h6_2 => ?_)
        · refine rg ?_
          refine st F H rfl rfl rfl (y_as rfl) ?_; (try clear F a); intro a F
          refine wpList_nil ?_
          refine wp_ret (ib_r (th_r (ret1 F H rfl (rv rfl) ⟨_, rfl, fun a F => ?_⟩)))
          refine st F H rfl rfl rfl (y_as rfl) ?_; (try clear F a); intro a F
          refine wpList_nil ?_
          refine rg ?_
          refine st F H rfl rfl rfl (y_mv rfl) ?_; (try clear F a); intro a F
          refine st F H rfl rfl rfl (y_ne rfl rfl) ?_; (try clear F a); intro a F
          refine wpList_nil ?_
          refine cnT F rfl ?_
          refine rg ?_
          refine st F H rfl rfl rfl (y_build Try.zeroValue30 Try.underlying30 pl30 rfl .nil rfl) ?_; (try clear F a); intro a F
          refine st F H rfl rfl rfl (y_mv rfl) ?_; (try clear F a); intro a F
          refine s_st (key := 1004) F H rfl rfl rfl rfl Try.sizeOf30 rfl rfl rfl ?_; (try clear F H a); try clear w
          intro a w F H
          refine st F H rfl rfl rfl (y_as rfl) ?_; (try clear F a); intro a F
          refine wpList_nil ?_
          refine wp_ret (th_r (ret2 F H rfl (rva (key := 1004) rfl rfl Try.isAgg30 Try.sizeOf30 rfl) (rv rfl) ⟨_, rfl, fun a F => ?_⟩))
          refine st F H rfl rfl rfl (y_ext rfl rfl) ?_; (try clear F a); intro a F
          refine st F H rfl rfl rfl (y_ext rfl rfl) ?_; (try clear F a); intro a F
          refine s_st (key := 4) F H rfl rfl rfl rfl Try.sizeOf30 rfl rfl rfl ?_; (try clear F H a); try clear w
          intro a w F H
          refine st F H rfl rfl rfl (y_as rfl) ?_; (try clear F a); intro a F
          refine wpList_nil ?_
          refine wp_ret (ret2 F H rfl (rva (key := 4) rfl rfl Try.isAgg30 Try.sizeOf30 rfl) (rv rfl) ⟨_, rfl, H.b0, ?_⟩)
          (try clear F H a)
          rw [show putS ⟨sa, sb, xs, sl, se⟩ ⟨xk, xs', xy, xv, xm⟩ = (Snd.zero, 6) from (if_neg (ntrue hbad)).trans ((if_neg (by simp [hx])).trans ((if_neg (ntrue h4_2)).trans (if_pos h6_2)))]
          exact ⟨none, 0, rfl, Sl.nilOf _ _ _ _⟩
        · refine wp_skip ?_
          refine ib_n ?_
          refine th_n ?_
          refine rgdH [0, 1, 2, 3, 4, 5, 6, 7, 8, 9, 10, 11] [0, 1, 2, 3, 4, 5, 6, 7, 8, 9, 10, 11, 12, 13, 14] [1016] [1016, 1002] H mixed ?_
          have H := H.old (Old.drew _)
          have HS := (H.rms [1016])
          have HT := (H.rms [1016, 1002])
          refine tk 0 F HS (by kernel_rfl) rfl rfl rfl .no (y_mv rfl) ?_; (try clear F a); intro a F
          refine tk 2 F HS (by kernel_rfl) rfl rfl rfl .no (y_mv rfl) ?_; (try clear F a); intro a F
          refine tk 3 F HS (by kernel_rfl) rfl rfl rfl .no (y_nil rfl) ?_; (try clear F a); intro a F
          refine tk 4 F HS (by kernel_rfl) rfl rfl rfl .no (y_fa Try.underlying30 rfl Try.sizeOf24 rfl) ?_; (try clear F a); intro a F
          refine tk 5 F HS (by kernel_rfl) rfl rfl rfl .no (y_ld1 (key := 1002) rfl rfl Try.isAgg24 rfl) ?_; (try clear F a); intro a F
          refine tk 6 F HS (by kernel_rfl) rfl rfl rfl .no (y_ld (key := 3) rfl rfl Try.isAgg47 Try.sizeOf47 rfl) ?_; (try clear F a); intro a F
          refine tk2 1 F HT (by kernel_rfl) rfl rfl rfl .no (y_mv rfl) ?_; (try clear F a); intro a F
          refine tk2 9 F HT (by kernel_rfl) rfl rfl rfl .no (y_fa Try.underlying47 rfl Try.sizeOf3 rfl) ?_; (try clear F a); intro a F
          refine tk2 10 F HT (by kernel_rfl) rfl rfl rfl .no (y_ld1 (key := 3) rfl rfl Try.isAgg3 rfl) ?_; (try clear F a); intro a F
          refine tk2 11 F HT (by kernel_rfl) rfl rfl rfl .no (y_eq rfl rfl) ?_; (try clear F a); intro a F
          refine one' 7 (by kernel_rfl) rfl ?_
          refine s_bs1 99 F H rfl Try.underlying24 Try.sizeOf47 Try.zeroValue47 rfl rfl rfl rfl rfl rfl ?_
          intro g99 a w F H
          have HS := (H.rms [99, 1016])
          have HT := (H.rms [99, 1016, 1002])
          refine wpList_nil ⟨⟨fun _ _ => HS, fun _ _ => HT⟩, ?_⟩
          refine one' 8 (by kernel_rfl) rfl ?_
          refine s_append 1016 F H rfl Try.underlying24 ti47 rfl rfl rfl rfl rfl hr.r (At.slc (H.cell (k := 99) rfl rfl) (m := 5) rfl) rfl (fun u hu => one1_mem (El.one ⟨xk, xs', xy, xv, xm⟩) u hu) (by omega) (by omega) ?_
          intro og' cap' row' a w hr' ht' hn' hO F H
          have HS := (H.rms [99, 1016])
          have HT := (H.rms [99, 1016, 1002])
          refine wpList_nil ⟨⟨fun _ _ => HS, fun _ _ => HT⟩, ?_⟩
          refine one' 12 (by kernel_rfl) rfl ?_
          refine st F H rfl rfl rfl (y_nil rfl) ?_; (try clear F a); intro a F
          have HS := (H.rms [99, 1016])
          have HT := (H.rms [99, 1016, 1002])
          refine wpList_nil ⟨⟨fun h => absurd h (by decide), fun _ _ => HT⟩, ?_⟩
          refine one' 13 (by kernel_rfl) rfl ?_
          refine st F H rfl rfl rfl (y_fa Try.underlying30 rfl Try.sizeOf24 rfl) ?_; (try clear F a); intro a F
          have HS := (H.rms [99, 1016])
          have HT := (H.rms [99, 1016, 1002])
          refine wpList_nil ⟨⟨fun h => absurd h (by decide), fun _ _ => HT⟩, ?_⟩
          refine one' 14 (by kernel_rfl) rfl ?_
          refine s_st (key := 1002) F H rfl rfl rfl rfl Try.sizeOf24 rfl rfl rfl ?_; (try clear F H a); try clear w
          intro a w F H
          have HS := (H.rms [99, 1016])
          have HT := (H.rms [99, 1016, 1002])
          refine wpList_nil ⟨⟨fun h => absurd h (by decide), fun _ _ => HT⟩, ?_⟩
          refine one' 15 (by kernel_rfl) rfl ?_
          refine st F H rfl rfl rfl (y_nil rfl) ?_; (try clear F a); intro a F
          have HS := (H.rms [99, 1016])
          have HT := (H.rms [99, 1016, 1002])
          refine wpList_nil ⟨⟨fun h => absurd h (by decide), fun h => absurd h (by decide)⟩, ?_⟩
          refine one' 16 (by kernel_rfl) rfl ?_
          refine st F H rfl rfl rfl (y_fa Try.underlying30 rfl Try.sizeOf4 rfl) ?_; (try clear F a); intro a F
          have HS := (H.rms [99, 1016])
          have HT := (H.rms [99, 1016, 1002])
          refine wpList_nil ⟨⟨fun h => absurd h (by decide), fun h => absurd h (by decide)⟩, ?_⟩
          refine one' 17 (by kernel_rfl) rfl ?_
          refine s_st (key := 1002) F H rfl rfl rfl rfl Try.sizeOf4 rfl rfl rfl ?_; (try clear F H a); try clear w
          intro a w F H
          have HS := (H.rms [99, 1016])
          have HT := (H.rms [99, 1016, 1002])
          refine wpList_nil ⟨⟨fun h => absurd h (by decide), fun h => absurd h (by decide)⟩, ?_⟩
          refine dn (by kernel_rfl) ?_ _
          refine rg ?_
          refine st F H rfl rfl rfl (y_as rfl) ?_; (try clear F a); intro a F
          refine wpList_nil ?_
          refine wp_ret (ret1 F H rfl (rv rfl) ⟨_, rfl, fun a F => ?_⟩)
          refine st F H rfl rfl rfl (y_as rfl) ?_; (try clear F a); intro a F
          refine wpList_nil ?_
          refine rg ?_
          refine st F H rfl rfl rfl (y_mv rfl) ?_; (try clear F a); intro a F
          refine st F H rfl rfl rfl (y_ne rfl rfl) ?_; (try clear F a); intro a F
          refine wpList_nil ?_
          refine cnF F rfl ?_
          refine wp_skip ?_
          refine th_n ?_
          refine rg ?_
          refine st F H rfl rfl rfl (y_ld (key := 1002) rfl rfl Try.isAgg30 Try.sizeOf30 rfl) ?_; (try clear F a); intro a F
          refine s_st (key := 1004) F H rfl rfl rfl rfl Try.sizeOf30 rfl rfl rfl ?_; (try clear F H a); try clear w
          intro a w F H
          refine st F H rfl rfl rfl (y_as rfl) ?_; (try clear F a); intro a F
          refine wpList_nil ?_
          refine wp_ret (ret2 F H rfl (rva (key := 1004) rfl rfl Try.isAgg30 Try.sizeOf30 rfl) (rv rfl) ⟨_, rfl, fun a F => ?_⟩)
          refine st F H rfl rfl rfl (y_ext rfl rfl) ?_; (try clear F a); intro a F
          refine st F H rfl rfl rfl (y_ext rfl rfl) ?_; (try clear F a); intro a F
          refine s_st (key := 4) F H rfl rfl rfl rfl Try.sizeOf30 rfl rfl rfl ?_; (try clear F H a); try clear w
          intro a w F H
          refine st F H rfl rfl rfl (y_as rfl) ?_; (try clear F a); intro a F
          refine wpList_nil ?_
          refine wp_ret (ret2 F H rfl (rva (key := 4) rfl rfl Try.isAgg30 Try.sizeOf30 rfl) (rv rfl) ⟨_, rfl, H.b0, ?_⟩)
          rw [show putS ⟨sa, sb, xs, sl, se⟩ ⟨xk, xs', xy, xv, xm⟩ = ({ a := sa, b := sb, q := xs ++ [⟨xk, xs', xy, xv, xm⟩], l := sl, e := xk == 3 }, 0) from (if_neg (ntrue hbad)).trans ((if_neg (by simp [hx])).trans ((if_neg (ntrue h4_2)).trans (if_neg (ntrue h6_2))))]
          have hR : RowOf og' 5 El.cs (xs ++ [⟨xk, xs', xy, xv, xm⟩]) cap' row' := hr.push hr' ht'
          exact ⟨adr og', cap', by simp only [Snd.v, List.length_append]; rfl, hR.sl El.wid (fun g hg => H.cell (k := 1016) rfl hg) (fun g hg => fresh_range (H.fresh (k := 1016) rfl hg))⟩
theorem beh_eq {b : Int} {q : List El} (h : q.length ≤ 8) (h1 : 1 ≤ b) (h2 : b ≤ 4611686018427387904) : beh b q = b + q.length := by
  unfold beh; rw [wu64 (x := (q.length : Int)) (by omega), wu64 (by omega)]
def elz (x : El) : Bool := (x.k == 0) && ((x.s == 0) && (x.y == 0) && (x.v == 0)) && (x.m == 0)
def ackOk (s : Snd) (p : Pck) : Bool :=
  (((((p.k == 2) && (p.a == s.a)) && elz p.x) && decide (s.b ≤ p.s)) && decide (p.s ≤ if 4611686018427387904 < beh s.b s.q then 4611686018427387904 else beh s.b s.q)) && decide (p.l ≤ 4611686018427387904)
def ackS (s : Snd) (p : Pck) : Snd × Int :=
  if s.bad = true then (.zero, 240) else if ackOk s p = true then ({ s with b := p.s, q := s.q.take 0 ++ s.q.drop (p.s - s.b).toNat, l := if s.l < p.l then p.l else s.l }, 0) else (s, 0)
theorem acked_c {E : List Nat} {w0 : World} {ad : Option Addr} {cap : Nat} (s : Snd) (p : Pck) (hs : SlE E w0 ad s.q.length cap s.q) :
    CallsTo Try.prog 34 [s.v ad cap, .agg p.cs.toArray] w0 [] (RetS w0 (ackS s p)) := by
  obtain ⟨sa, sb, xs, sl, se⟩ := s
  obtain ⟨pk, pa, ps, pl, ⟨xk, xs', xy, xv, xm⟩⟩ := p
  simp only [Snd.v, Pck.cs] at hs ⊢
  refine enter (m := 11) Try.func34 rfl rfl rfl ?_; intro a F
  have H := Hp.start w0 []
  refine rg ?_
  refine s_box 2 F H rfl rfl rfl ?_; intro g2; (try clear F H a); try clear w
  intro a w F H
  refine s_box 3 F H rfl rfl rfl ?_; intro g3; (try clear F H a); try clear w
  intro a w F H
  refine s_alloc 4 F H rfl Try.zeroValue30 rfl ?_; intro g4; (try clear F H a); try clear w
  intro a w F H
  refine st F H rfl rfl rfl (y_as rfl) ?_; (try clear F a); intro a F
  refine wpList_nil ?_
  refine rg ?_
  refine st F H rfl rfl rfl (y_ld (key := 2) rfl rfl Try.isAgg30 Try.sizeOf30 rfl) ?_; (try clear F a); intro a F
  refine st F H rfl rfl rfl (y_fn (.cons rfl .nil)) ?_; (try clear F a); intro a F
  refine s_in F rfl (.cons rfl (.cons rfl .nil)) Try.call90 rfl ?_
  refine enter (m := 25) Try.func90 rfl rfl rfl ?_; intro a F
  refine rg ?_
  refine s_box 1002 F H rfl rfl rfl ?_; intro g1002; (try clear F H a); try clear w
  intro a w F H
  refine s_alloc 1004 F H rfl Try.zeroValue30 rfl ?_; intro g1004; (try clear F H a); try clear w
  intro a w F H
  refine st F H rfl rfl rfl (y_as rfl) ?_; (try clear F a); intro a F
  refine wpList_nil ?_
  refine wp_seq ?_
  refine rg ?_
  refine st F H rfl rfl rfl (y_ld (key := 1002) rfl rfl Try.isAgg30 Try.sizeOf30 rfl) ?_; (try clear F a); intro a F
  refine s_callV F H rfl rfl (.cons rfl .nil) Try.call94 (checkSender_c _ _ _ _ (hs.old H.b0.nil)) ?_; (try clear F H a); try clear w
  intro a w F H
  refine st F H rfl rfl rfl (y_as rfl) ?_; (try clear F a); intro a F
  refine wpList_nil ?_
  refine rg ?_
  refine st F H rfl rfl rfl (y_mv rfl) ?_; (try clear F a); intro a F
  refine st F H rfl rfl rfl (y_ne rfl rfl) ?_; (try clear F a); intro a F
  refine wpList_nil ?_
  refine cn F rfl (fun h2_1 => ?_) (fun h2_1 => ?_)
  · have hbad : sndBad sa sb xs sl se = true := by cases h : sndBad sa sb xs sl se <;> simp_all
    refine rg ?_
    refine st F H rfl rfl rfl (y_build Try.zeroValue30 Try.underlying30 pl30 rfl .nil rfl) ?_; (try clear F a); intro a F
    refine st F H rfl rfl rfl (y_mv rfl) ?_; (try clear F a); intro a F
    refine s_st (key := 1004) F H rfl rfl rfl rfl Try.sizeOf30 rfl rfl rfl ?_; (try clear F H a); try clear w
    intro a w F H
    refine st F H rfl rfl rfl (y_as rfl) ?_; (try clear F a); intro a F
    refine wpList_nil ?_
    refine wp_ret (th_r (ret2 F H rfl (rva (key := 1004) rfl rfl Try.isAgg30 Try.sizeOf30 rfl) (rv rfl) ⟨_, rfl, fun a F => ?_⟩))
    refine st F H rfl rfl rfl (y_ext rfl rfl) ?_; (try clear F a); intro a F
    refine st F H rfl rfl rfl (y_ext rfl rfl) ?_; (try clear F a); intro a F
    refine s_st (key := 4) F H rfl rfl rfl rfl Try.sizeOf30 rfl rfl rfl ?_; (try clear F H a); try clear w
    intro a w F H
    refine st F H rfl rfl rfl (y_as rfl) ?_; (try clear F a); intro a F
    refine wpList_nil ?_
    refine wp_ret (ret2 F H rfl (rva (key := 4) rfl rfl Try.isAgg30 Try.sizeOf30 rfl) (rv rfl) ⟨_, rfl, H.b0, ?_⟩)
    (try clear F H a)
    rw [show ackS ⟨sa, sb, xs, sl, se⟩ ⟨pk, pa, ps, pl, ⟨xk, xs', xy, xv, xm⟩⟩ = (Snd.zero, 240) from if_pos hbad]
    refine ⟨none, 0, ?_, Sl.nilOf _ _ _ _⟩
    show Value.tuple #[Snd.v Snd.zero none 0, .int .i64 (if sndBad sa sb xs sl se = true then 240 else 0)] = Value.tuple #[Snd.v Snd.zero none 0, .int .i64 240]
    rw [if_pos hbad]
  · have hbad : sndBad sa sb xs sl se = false := by cases h : sndBad sa sb xs sl se <;> simp_all
    have hlen := sndBad_len hbad
    have hbeh := beh_eq hlen.1 hlen.2.1 hlen.2.2.1
    refine wp_skip ?_
    refine th_n ?_
    refine rg ?_
    refine st F H rfl rfl rfl (y_fa Try.underlying30 rfl Try.sizeOf24 rfl) ?_; (try clear F a); intro a F
    refine st F H rfl rfl rfl (y_ld1 (key := 1002) rfl rfl Try.isAgg24 rfl) ?_; (try clear F a); intro a F
    refine s_callN 1016 F H rfl rfl (.cons rfl .nil) Try.call173 (clone173_c El.wid El.one (hs.old H.b0.nil) (by omega)) ?_
    rintro _ og1016 row1016 a w ⟨cap1, rfl, hr, hn1⟩ hO F H
    refine st F H rfl rfl rfl (y_fa Try.underlying30 rfl Try.sizeOf24 rfl) ?_; (try clear F a); intro a F
    refine s_st (key := 1002) F H rfl rfl rfl rfl Try.sizeOf24 rfl rfl rfl ?_; (try clear F H a); try clear w
    intro a w F H
    refine wpList_nil ?_
    refine wp_seq ?_
    refine rg ?_
    refine st F H rfl rfl rfl (y_mv rfl) ?_; (try clear F a); intro a F
    refine s_in F rfl (.cons rfl .nil) Try.call97 rfl ?_
    refine enter (m := 79) Try.func97 rfl rfl rfl ?_; intro a F
    refine rg ?_
    refine st F H rfl rfl rfl (y_as rfl) ?_; (try clear F a); intro a F
    refine wpList_nil ?_
    refine rgq H mixed (by kernel_rfl) ?_
    refine stq F rfl rfl rfl (y_fa Try.underlying114 rfl Try.sizeOf3 rfl) ?_; (try clear F a); intro a F
    refine stq F rfl rfl rfl (y_ld1 (key := 3) rfl rfl Try.isAgg3 rfl) ?_; (try clear F a); intro a F
    refine stq F rfl rfl rfl (y_eq rfl rfl) ?_; (try clear F a); intro a F
    refine stq F rfl rfl rfl (y_mv rfl) ?_; (try clear F a); intro a F
    refine gandq 7 F rfl .no rfl rfl rfl rfl (fun hb1_3_2 K1 hK1 => by
        refine gtq F rfl rfl rfl rfl hb1_3_2 ?_
        refine stq F rfl rfl rfl (y_fa Try.underlying114 rfl Try.sizeOf27 rfl) ?_; (try clear F a); intro a F
        refine gtq F rfl rfl rfl rfl hb1_3_2 ?_
        refine stq F rfl rfl rfl (y_ld1 (key := 3) rfl rfl Try.isAgg27 rfl) ?_; (try clear F a); intro a F
        refine gtq F rfl rfl rfl rfl hb1_3_2 ?_
        refine stq F rfl rfl rfl (y_mv rfl) ?_; (try clear F a); intro a F
        refine gtq F rfl rfl rfl rfl hb1_3_2 ?_
        refine stq F rfl rfl rfl (y_nil rfl) ?_; (try clear F a); intro a F
        refine gtq F rfl rfl rfl rfl hb1_3_2 ?_
        refine stq F rfl rfl rfl (y_fa Try.underlying30 rfl Try.sizeOf27 rfl) ?_; (try clear F a); intro a F
        refine gtq F rfl rfl rfl rfl hb1_3_2 ?_
        refine stq F rfl rfl rfl (y_ld1 (key := 1002) rfl rfl Try.isAgg27 rfl) ?_; (try clear F a); intro a F
        refine gtq F rfl rfl rfl rfl hb1_3_2 ?_
        refine stq F rfl rfl rfl (y_eq rfl rfl) ?_; (try clear F a); intro a F
        exact nlq (hK1 _ _ F rfl)) ?_
    (try clear F a); intro a F
    refine stq F rfl rfl rfl (y_mv rfl) ?_; (try clear F a); intro a F
    refine gandq 4 F rfl .no rfl rfl rfl rfl (fun hb1_12_2 K2 hK2 => by
        refine gtq F rfl rfl rfl rfl hb1_12_2 ?_
        refine stq F rfl rfl rfl (y_fa Try.underlying114 rfl Try.sizeOf47 rfl) ?_; (try clear F a); intro a F
        refine gtq F rfl rfl rfl rfl hb1_12_2 ?_
        refine stq F rfl rfl rfl (y_ld (key := 3) rfl rfl Try.isAgg47 Try.sizeOf47 rfl) ?_; (try clear F a); intro a F
        refine gtq F rfl rfl rfl rfl hb1_12_2 ?_
        refine stq F rfl rfl rfl (y_build Try.zeroValue47 Try.underlying47 pl47 rfl .nil rfl) ?_; (try clear F a); intro a F
        refine gtq F rfl rfl rfl rfl hb1_12_2 ?_
        refine stq F rfl rfl rfl (y_eql_t47 rfl rfl) ?_; (try clear F a); intro a F
        exact nlq (hK2 _ _ F rfl)) ?_
    (try clear F a); intro a F
    refine stq F rfl rfl rfl (y_as rfl) ?_; (try clear F a); intro a F
    refine nlq (fun w H => ?_)
    refine wp_seq ?_
    refine rgq H mixed (by kernel_rfl) ?_
    refine stq F rfl rfl rfl (y_mv rfl) ?_; (try clear F a); intro a F
    refine stq F rfl rfl rfl (y_mv rfl) ?_; (try clear F a); intro a F
    refine gandq 7 F rfl .no rfl rfl rfl rfl (fun hb2_1_2 K3 hK3 => by
        refine gtq F rfl rfl rfl rfl hb2_1_2 ?_
        refine stq F rfl rfl rfl (y_fa Try.underlying114 rfl Try.sizeOf28 rfl) ?_; (try clear F a); intro a F
        refine gtq F rfl rfl rfl rfl hb2_1_2 ?_
        refine stq F rfl rfl rfl (y_ld1 (key := 3) rfl rfl Try.isAgg28 rfl) ?_; (try clear F a); intro a F
        refine gtq F rfl rfl rfl rfl hb2_1_2 ?_
        refine stq F rfl rfl rfl (y_mv rfl) ?_; (try clear F a); intro a F
        refine gtq F rfl rfl rfl rfl hb2_1_2 ?_
        refine stq F rfl rfl rfl (y_nil rfl) ?_; (try clear F a); intro a F
        refine gtq F rfl rfl rfl rfl hb2_1_2 ?_
        refine stq F rfl rfl rfl (y_fa Try.underlying30 rfl Try.sizeOf28 rfl) ?_; (try clear F a); intro a F
        refine gtq F rfl rfl rfl rfl hb2_1_2 ?_
        refine stq F rfl rfl rfl (y_ld1 (key := 1002) rfl rfl Try.isAgg28 rfl) ?_; (try clear F a); intro a F
        refine gtq F rfl rfl rfl rfl hb2_1_2 ?_
        refine stq F rfl rfl rfl (y_ge rfl rfl) ?_; (try clear F a); intro a F
        exact nlq (hK3 _ _ F rfl)) ?_
    (try clear F a); intro a F
    refine stq F rfl rfl rfl (y_mv rfl) ?_; (try clear F a); intro a F
    refine gandq 8 F rfl .no rfl rfl rfl rfl (fun hb2_10_2 K4 hK4 => by
        refine gtq F rfl rfl rfl rfl hb2_10_2 ?_
        refine stq F rfl rfl rfl (y_fa Try.underlying114 rfl Try.sizeOf28 rfl) ?_; (try clear F a); intro a F
        refine gtq F rfl rfl rfl rfl hb2_10_2 ?_
        refine stq F rfl rfl rfl (y_ld1 (key := 3) rfl rfl Try.isAgg28 rfl) ?_; (try clear F a); intro a F
        refine gtq F rfl rfl rfl rfl hb2_10_2 ?_
        refine stq F rfl rfl rfl (y_mv rfl) ?_; (try clear F a); intro a F
        refine gtq F rfl rfl rfl rfl hb2_10_2 ?_
        refine stq F rfl rfl rfl (y_nil rfl) ?_; (try clear F a); intro a F
        refine gtq F rfl rfl rfl rfl hb2_10_2 ?_
        refine stq F rfl rfl rfl (y_ld (key := 1002) rfl rfl Try.isAgg30 Try.sizeOf30 rfl) ?_; (try clear F a); intro a F
        refine gtq F rfl rfl rfl rfl hb2_10_2 ?_
        refine callq F rfl rfl (.cons rfl .nil) Try.call93 (fun w H => behind_c _ _ _ _ _ _ _ _) ?_; (try clear F a); intro a F
        refine gtq F rfl rfl rfl rfl hb2_10_2 ?_
        refine stq F rfl rfl rfl (y_min rfl rfl) ?_; (try clear F a); intro a F
        refine gtq F rfl rfl rfl rfl hb2_10_2 ?_
        refine stq F rfl rfl rfl (y_le rfl rfl) ?_; (try clear F a); intro a F
        exact nlq (hK4 _ _ F rfl)) ?_
    (try clear F a); intro a F
    refine stq F rfl rfl rfl (y_mv rfl) ?_; (try clear F a); intro a F
    refine gandq 3 F rfl .no rfl rfl rfl rfl (fun hb2_20_2 K5 hK5 => by
        refine gtq F rfl rfl rfl rfl hb2_20_2 ?_
        refine stq F rfl rfl rfl (y_fa Try.underlying114 rfl Try.sizeOf28 rfl) ?_; (try clear F a); intro a F
        refine gtq F rfl rfl rfl rfl hb2_20_2 ?_
        refine stq F rfl rfl rfl (y_ld1 (key := 3) rfl rfl Try.isAgg28 rfl) ?_; (try clear F a); intro a F
        refine gtq F rfl rfl rfl rfl hb2_20_2 ?_
        refine stq F rfl rfl rfl (y_le rfl rfl) ?_; (try clear F a); intro a F
        exact nlq (hK5 _ _ F rfl)) ?_
    (try clear F a); intro a F
    refine nlq (fun w H => ?_)
    refine cn F rfl (fun h2_2 => ?_) (fun h2_2 => ?_)
    · have hok : ackOk ⟨sa, sb, xs, sl, se⟩ ⟨pk, pa, ps, pl, ⟨xk, xs', xy, xv, xm⟩⟩ = true := h2_2
      have hps : sb ≤ ps ∧ ps ≤ 4611686018427387904 ∧ ps ≤ sb + xs.length := by
        have := hok
        simp only [ackOk, Bool.and_eq_true, decide_eq_true_eq, hbeh] at this
        obtain ⟨⟨⟨_, h1⟩, h2⟩, _⟩ := this
        split at h2 <;> omega
      have hj : IntKind.i64.wrap (IntKind.u64.wrap (ps - sb)) = (((ps - sb).toNat : Nat) : Int) := by rw [wu64 (by omega), wi64 (by omega)]; omega
      refine rgdH [0, 1, 2, 3, 4, 5, 6, 7, 8, 9, 10, 11, 12, 13] [] [1016] [1016] H mixed ?_
      have H := H.old (Old.drew _)
      have HS := (H.rms [1016])
      refine tk 0 F HS (by kernel_rfl) rfl rfl rfl .no (y_mv rfl) ?_; (try clear F a); intro a F
      refine tk 1 F HS (by kernel_rfl) rfl rfl rfl .no (y_mv rfl) ?_; (try clear F a); intro a F
      refine tk 2 F HS (by kernel_rfl) rfl rfl rfl .no (y_nil rfl) ?_; (try clear F a); intro a F
      refine tk 3 F HS (by kernel_rfl) rfl rfl rfl .no (y_fa Try.underlying30 rfl Try.sizeOf24 rfl) ?_; (try clear F a); intro a F
      refine tk 4 F HS (by kernel_rfl) rfl rfl rfl .no (y_ld1 (key := 1002) rfl rfl Try.isAgg24 rfl) ?_; (try clear F a); intro a F
      refine tk 5 F HS (by kernel_rfl) rfl rfl rfl .no (y_fa Try.underlying114 rfl Try.sizeOf28 rfl) ?_; (try clear F a); intro a F
      refine tk 6 F HS (by kernel_rfl) rfl rfl rfl .no (y_ld1 (key := 3) rfl rfl Try.isAgg28 rfl) ?_; (try clear F a); intro a F
      refine one' 7 (by kernel_rfl) rfl ?_
      refine st F H rfl rfl rfl (y_mv rfl) ?_; (try clear F a); intro a F
      have HS := (H.rms [1016])
      refine wpList_nil ⟨⟨fun _ _ => HS, fun h => absurd h (by decide)⟩, ?_⟩
      refine one' 8 (by kernel_rfl) rfl ?_
      refine st F H rfl rfl rfl (y_nil rfl) ?_; (try clear F a); intro a F
      have HS := (H.rms [1016])
      refine wpList_nil ⟨⟨fun _ _ => HS, fun h => absurd h (by decide)⟩, ?_⟩
      refine one' 9 (by kernel_rfl) rfl ?_
      refine st F H rfl rfl rfl (y_fa Try.underlying30 rfl Try.sizeOf28 rfl) ?_; (try clear F a); intro a F
      have HS := (H.rms [1016])
      refine wpList_nil ⟨⟨fun _ _ => HS, fun h => absurd h (by decide)⟩, ?_⟩
      refine one' 10 (by kernel_rfl) rfl ?_
      refine st F H rfl rfl rfl (y_ld1 (key := 1002) rfl rfl Try.isAgg28 rfl) ?_; (try clear F a); intro a F
      have HS := (H.rms [1016])
      refine wpList_nil ⟨⟨fun _ _ => HS, fun h => absurd h (by decide)⟩, ?_⟩
      refine one' 11 (by kernel_rfl) rfl ?_
      refine st F H rfl rfl rfl (y_sub rfl rfl) ?_; (try clear F a); intro a F
      have HS := (H.rms [1016])
      refine wpList_nil ⟨⟨fun _ _ => HS, fun h => absurd h (by decide)⟩, ?_⟩
      refine one' 12 (by kernel_rfl) rfl ?_
      refine st F H rfl rfl rfl (y_cvi Try.underlying28 Try.underlying3 rfl) ?_; (try clear F a); intro a F
      have HS := (H.rms [1016])
      refine wpList_nil ⟨⟨fun _ _ => HS, fun h => absurd h (by decide)⟩, ?_⟩
      refine one' 13 (by kernel_rfl) rfl ?_
      rw [hj] at F
      refine s_callM 1016 F H rfl rfl (.cons rfl (.cons rfl (.cons rfl .nil))) Try.call98 rfl (fun hg => delete98_c (i := 0) El.wid El.one hr (Nat.zero_le _) (by omega) hg) ?_
      rintro _ row' a w ⟨rfl, hd⟩ hO F H
      have HS := (H.rms [1016])
      refine wpList_nil ⟨⟨fun _ _ => HS, fun h => absurd h (by decide)⟩, ?_⟩
      refine one' 14 (by kernel_rfl) rfl ?_
      refine st F H rfl rfl rfl (y_nil rfl) ?_; (try clear F a); intro a F
      have HS := (H.rms [1016])
      refine wpList_nil ⟨⟨fun h => absurd h (by decide), fun h => absurd h (by decide)⟩, ?_⟩
      refine one' 15 (by kernel_rfl) rfl ?_
      refine st F H rfl rfl rfl (y_fa Try.underlying30 rfl Try.sizeOf24 rfl) ?_; (try clear F a); intro a F
      have HS := (H.rms [1016])
      refine wpList_nil ⟨⟨fun h => absurd h (by decide), fun h => absurd h (by decide)⟩, ?_⟩
      refine one' 16 (by kernel_rfl) rfl ?_
      refine s_st (key := 1002) F H rfl rfl rfl rfl Try.sizeOf24 rfl rfl rfl ?_; (try clear F H a); try clear w
      intro a w F H
      have HS := (H.rms [1016])
      refine wpList_nil ⟨⟨fun h => absurd h (by decide), fun h => absurd h (by decide)⟩, ?_⟩
      refine dn (by kernel_rfl) ?_ _
      refine rgd1H [0, 1, 2, 3, 4, 5, 6, 7, 8, 9, 10] [0, 1, 2, 3, 4, 5, 6, 7, 8, 9, 10, 11, 12, 13] [] [1002] H mixed ?_
      have H := H.old (Old.drew _)
      have HS := (H.rms [])
      have HT := (H.rms [1002])
      refine tk 0 F HS (by kernel_rfl) rfl rfl rfl .no (y_mv rfl) ?_; (try clear F a); intro a F
      refine tk 2 F HS (by kernel_rfl) rfl rfl rfl .no (y_fa Try.underlying114 rfl Try.sizeOf28 rfl) ?_; (try clear F a); intro a F
      refine tk 3 F HS (by kernel_rfl) rfl rfl rfl .no (y_ld1 (key := 3) rfl rfl Try.isAgg28 rfl) ?_; (try clear F a); intro a F
      refine tk2 1 F HT (by kernel_rfl) rfl rfl rfl .no (y_mv rfl) ?_; (try clear F a); intro a F
      refine tk2 4 F HT (by kernel_rfl) rfl rfl rfl .no (y_mv rfl) ?_; (try clear F a); intro a F
      refine tk2 5 F HT (by kernel_rfl) rfl rfl rfl .no (y_nil rfl) ?_; (try clear F a); intro a F
      refine tk2 6 F HT (by kernel_rfl) rfl rfl rfl .no (y_fa Try.underlying30 rfl Try.sizeOf28 rfl) ?_; (try clear F a); intro a F
      refine tk 7 F HS (by kernel_rfl) rfl rfl rfl .no (y_ld1 (key := 1002) rfl rfl Try.isAgg28 rfl) ?_; (try clear F a); intro a F
      refine tk2 8 F HT (by kernel_rfl) rfl rfl rfl .no (y_fa Try.underlying114 rfl Try.sizeOf28 rfl) ?_; (try clear F a); intro a F
      refine tk2 9 F HT (by kernel_rfl) rfl rfl rfl .no (y_ld1 (key := 3) rfl rfl Try.isAgg28 rfl) ?_; (try clear F a); intro a F
      refine tk2 10 F HT (by kernel_rfl) rfl rfl rfl .no (y_max rfl rfl) ?_; (try clear F a); intro a F
      refine one' 11 (by kernel_rfl) rfl ?_
      refine st F H rfl rfl rfl (y_nil rfl) ?_; (try clear F a); intro a F
      have HS := (H.rms [])
      have HT := (H.rms [1002])
      refine wpList_nil ⟨⟨fun h => absurd h (by decide), fun _ _ => HT⟩, ?_⟩
      refine one' 12 (by kernel_rfl) rfl ?_
      refine st F H rfl rfl rfl (y_fa Try.underlying30 rfl Try.sizeOf28 rfl) ?_; (try clear F a); intro a F
      have HS := (H.rms [])
      have HT := (H.rms [1002])
      refine wpList_nil ⟨⟨fun h => absurd h (by decide), fun _ _ => HT⟩, ?_⟩
      refine one' 13 (by kernel_rfl) rfl ?_
      refine s_st (key := 1002) F H rfl rfl rfl rfl Try.sizeOf28 rfl rfl rfl ?_; (try clear F H a); try clear w
      intro a w F H
      have HS := (H.rms [])
      have HT := (H.rms [1002])
      refine wpList_nil ⟨⟨fun h => absurd h (by decide), fun _ _ => HT⟩, ?_⟩
      refine one' 14 (by kernel_rfl) rfl ?_
      refine st F H rfl rfl rfl (y_nil rfl) ?_; (try clear F a); intro a F
      have HS := (H.rms [])
      have HT := (H.rms [1002])
      refine wpList_nil ⟨⟨fun h => absurd h (by decide), fun h => absurd h (by decide)⟩, ?_⟩
      refine one' 15 (by kernel_rfl) rfl ?_
      refine st F H rfl rfl rfl (y_fa Try.underlying30 rfl Try.sizeOf28 rfl) ?_; (try clear F a); intro a F
      have HS := (H.rms [])
      have HT := (H.rms [1002])
      refine wpList_nil ⟨⟨fun h => absurd h (by decide), fun h => absurd h (by decide)⟩, ?_⟩
      refine one' 16 (by kernel_rfl) rfl ?_
      refine s_st (key := 1002) F H rfl rfl rfl rfl Try.sizeOf28 rfl rfl rfl ?_; (try clear F H a); try clear w
      intro a w F H
      have HS := (H.rms [])
      have HT := (H.rms [1002])
      refine wpList_nil ⟨⟨fun h => absurd h (by decide), fun h => absurd h (by decide)⟩, ?_⟩
      refine dn (by kernel_rfl) ?_ _
      refine th_n ?_
      refine rg ?_
      refine st F H rfl rfl rfl (y_as rfl) ?_; (try clear F a); intro a F
      refine wpList_nil ?_
      refine wp_ret (ret1 F H rfl (rv rfl) ⟨_, rfl, fun a F => ?_⟩)
      refine st F H rfl rfl rfl (y_as rfl) ?_; (try clear F a); intro a F
      refine wpList_nil ?_
      refine rg ?_
      refine st F H rfl rfl rfl (y_mv rfl) ?_; (try clear F a); intro a F
      refine st F H rfl rfl rfl (y_ne rfl rfl) ?_; (try clear F a); intro a F
      refine wpList_nil ?_
      refine cnF F rfl ?_
      refine wp_skip ?_
      refine th_n ?_
      refine rg ?_
      refine st F H rfl rfl rfl (y_ld (key := 1002) rfl rfl Try.isAgg30 Try.sizeOf30 rfl) ?_; (try clear F a); intro a F
      refine s_st (key := 1004) F H rfl rfl rfl rfl Try.sizeOf30 rfl rfl rfl ?_; (try clear F H a); try clear w
      intro a w F H
      refine st F H rfl rfl rfl (y_as rfl) ?_; (try clear F a); intro a F
      refine wpList_nil ?_
      refine wp_ret (ret2 F H rfl (rva (key := 1004) rfl rfl Try.isAgg30 Try.sizeOf30 rfl) (rv rfl) ⟨_, rfl, fun a F => ?_⟩)
      refine st F H rfl rfl rfl (y_ext rfl rfl) ?_; (try clear F a); intro a F
      refine st F H rfl rfl rfl (y_ext rfl rfl) ?_; (try clear F a); intro a F
      refine s_st (key := 4) F H rfl rfl rfl rfl Try.sizeOf30 rfl rfl rfl ?_; (try clear F H a); try clear w
      intro a w F H
      refine st F H rfl rfl rfl (y_as rfl) ?_; (try clear F a); intro a F
      refine wpList_nil ?_
      refine wp_ret (ret2 F H rfl (rva (key := 4) rfl rfl Try.isAgg30 Try.sizeOf30 rfl) (rv rfl) ⟨_, rfl, H.b0, ?_⟩)
      rw [show ackS ⟨sa, sb, xs, sl, se⟩ ⟨pk, pa, ps, pl, ⟨xk, xs', xy, xv, xm⟩⟩ = (⟨sa, ps, xs.take 0 ++ xs.drop (ps - sb).toNat, if sl < pl then pl else sl, se⟩, 0) from (if_neg (ntrue hbad)).trans (if_pos hok)]
      exact ⟨adr og1016, cap1, rfl, hd.sl El.wid (fun g hg => H.cell (k := 1016) rfl hg) (fun g hg => fresh_range (H.fresh (k := 1016) rfl hg))⟩
    · have hok : ackOk ⟨sa, sb, xs, sl, se⟩ ⟨pk, pa, ps, pl, ⟨xk, xs', xy, xv, xm⟩⟩ = false := h2_2
      refine wp_skip ?_
      refine th_n ?_
      refine rg ?_
      refine st F H rfl rfl rfl (y_as rfl) ?_; (try clear F a); intro a F
      refine wpList_nil ?_
      refine wp_ret (ret1 F H rfl (rv rfl) ⟨_, rfl, fun a F => ?_⟩)
      refine st F H rfl rfl rfl (y_as rfl) ?_; (try clear F a); intro a F
      refine wpList_nil ?_
      refine rg ?_
      refine st F H rfl rfl rfl (y_mv rfl) ?_; (try clear F a); intro a F
      refine st F H rfl rfl rfl (y_ne rfl rfl) ?_; (try clear F a); intro a F
      refine wpList_nil ?_
      refine cnF F rfl ?_
      refine wp_skip ?_
      refine th_n ?_
      refine rg ?_
      refine st F H rfl rfl rfl (y_ld (key := 1002) rfl rfl Try.isAgg30 Try.sizeOf30 rfl) ?_; (try clear F a); intro a F
      refine s_st (key := 1004) F H rfl rfl rfl rfl Try.sizeOf30 rfl rfl rfl ?_; (try clear F H a); try clear w
      intro a w F H
      refine st F H rfl rfl rfl (y_as rfl) ?_; (try clear F a); intro a F
      refine wpList_nil ?_
      refine wp_ret (ret2 F H rfl (rva (key := 1004) rfl rfl Try.isAgg30 Try.sizeOf30 rfl) (rv rfl) ⟨_, rfl, fun a F => ?_⟩)
      refine st F H rfl rfl rfl (y_ext rfl rfl) ?_; (try clear F a); intro a F
      refine st F H rfl rfl rfl (y_ext rfl rfl) ?_; (try clear F a); intro a F
      refine s_st (key := 4) F H rfl rfl rfl rfl Try.sizeOf30 rfl rfl rfl ?_; (try clear F H a); try clear w
      intro a w F H
      refine st F H rfl rfl rfl (y_as rfl) ?_; (try clear F a); intro a F
      refine wpList_nil ?_
      refine wp_ret (ret2 F H rfl (rva (key := 4) rfl rfl Try.isAgg30 Try.sizeOf30 rfl) (rv rfl) ⟨_, rfl, H.b0, ?_⟩)
      rw [show ackS ⟨sa, sb, xs, sl, se⟩ ⟨pk, pa, ps, pl, ⟨xk, xs', xy, xv, xm⟩⟩ = (⟨sa, sb, xs, sl, se⟩, 0) from (if_neg (ntrue hbad)).trans (if_neg (ntrue hok))]
      exact ⟨adr og1016, cap1, rfl, hr.sl El.wid (fun g hg => H.cell (k := 1016) rfl hg) (fun g hg => fresh_range (H.fresh (k := 1016) rfl hg))⟩
theorem rcvBad_len {a b : Int} {xs : List El} {r : Int} (h : rcvBad a b xs r = false) : (xs.length : Int) ≤ r ∧ 1 ≤ r ∧ r ≤ 8 ∧ 1 ≤ b ∧ b ≤ 4611686018427387905 := by
  simp [rcvBad, rowB] at h; omega
def hearOk (s : Rcv) (p : Pck) : Bool :=
  ((((((p.k == 1) && (p.a == s.a)) && (p.l == 0)) && ((if p.x.ok = true then (0 : Int) else 151) == 0)) && (p.s == s.b)) && decide (p.s ≤ 4611686018427387904) && decide ((s.q.length : Int) < s.r)) && !(endsB s.q)
def hearR (s : Rcv) (p : Pck) : Rcv × Int :=
  if s.bad = true then (.zero, 240) else if hearOk s p = true then ({ s with q := s.q ++ [p.x], b := IntKind.u64.wrap (s.b + 1) }, 0) else (s, 0)
theorem hear_c {E : List Nat} {w0 : World} {ad : Option Addr} {cap : Nat} (s : Rcv) (p : Pck) (hs : SlE E w0 ad s.q.length cap s.q) :
    CallsTo Try.prog 42 [s.v ad cap, .agg p.cs.toArray] w0 [] (RetR w0 (hearR s p)) := by
  obtain ⟨sa, sb, xs, sr⟩ := s
  obtain ⟨pk, pa, ps, pl, ⟨xk, xs', xy, xv, xm⟩⟩ := p
  simp only [Rcv.v, Pck.cs] at hs ⊢
  refine enter (m := 11) Try.func42 rfl rfl rfl ?_; intro a F
  have H := Hp.start w0 []
  refine rg ?_
  refine s_box 2 F H rfl rfl rfl ?_; intro g2; (try clear F H a); try clear w
  intro a w F H
  refine s_box 3 F H rfl rfl rfl ?_; intro g3; (try clear F H a); try clear w
  intro a w F H
  refine s_alloc 4 F H rfl Try.zeroValue32 rfl ?_; intro g4; (try clear F H a); try clear w
  intro a w F H
  refine st F H rfl rfl rfl (y_as rfl) ?_; (try clear F a); intro a F
  refine wpList_nil ?_
  refine rg ?_
  refine st F H rfl rfl rfl (y_ld (key := 2) rfl rfl Try.isAgg32 Try.sizeOf32 rfl) ?_; (try clear F a); intro a F
  refine st F H rfl rfl rfl (y_fn (.cons rfl .nil)) ?_; (try clear F a); intro a F
  refine s_in F rfl (.cons rfl (.cons rfl .nil)) Try.call102 rfl ?_
  refine enter (m := 25) Try.func102 rfl rfl rfl ?_; intro a F
  refine rg ?_
  refine s_box 1002 F H rfl rfl rfl ?_; intro g1002; (try clear F H a); try clear w
  intro a w F H
  refine s_alloc 1004 F H rfl Try.zeroValue32 rfl ?_; intro g1004; (try clear F H a); try clear w
  intro a w F H
  refine st F H rfl rfl rfl (y_as rfl) ?_; (try clear F a); intro a F
  refine wpList_nil ?_
  refine wp_seq ?_
  refine rg ?_
  refine st F H rfl rfl rfl (y_ld (key := 1002) rfl rfl Try.isAgg32 Try.sizeOf32 rfl) ?_; (try clear F a); intro a F
  refine s_callV F H rfl rfl (.cons rfl .nil) Try.call36 (checkReceiver_c _ _ _ (hs.old H.b0.nil)) ?_; (try clear F H a); try clear w
  intro a w F H
  refine st F H rfl rfl rfl (y_as rfl) ?_; (try clear F a); intro a F
  refine wpList_nil ?_
  refine rg ?_
  refine st F H rfl rfl rfl (y_mv rfl) ?_; (try clear F a); intro a F
  refine st F H rfl rfl rfl (y_ne rfl rfl) ?_; (try clear F a); intro a F
  refine wpList_nil ?_
  refine cn F rfl (fun h2_1 => ?_) (fun h2_1 => ?_)
  · have hbad : rcvBad sa sb xs sr = true := by cases h : rcvBad sa sb xs sr <;> simp_all
    refine rg ?_
    refine st F H rfl rfl rfl (y_build Try.zeroValue32 Try.underlying32 pl32 rfl .nil rfl) ?_; (try clear F a); intro a F
    refine st F H rfl rfl rfl (y_mv rfl) ?_; (try clear F a); intro a F
    refine s_st (key := 1004) F H rfl rfl rfl rfl Try.sizeOf32 rfl rfl rfl ?_; (try clear F H a); try clear w
    intro a w F H
    refine st F H rfl rfl rfl (y_as rfl) ?_; (try clear F a); intro a F
    refine wpList_nil ?_
    refine wp_ret (th_r (ret2 F H rfl (rva (key := 1004) rfl rfl Try.isAgg32 Try.sizeOf32 rfl) (rv rfl) ⟨_, rfl, fun a F => ?_⟩))
    refine st F H rfl rfl rfl (y_ext rfl rfl) ?_; (try clear F a); intro a F
    refine st F H rfl rfl rfl (y_ext rfl rfl) ?_; (try clear F a); intro a F
    refine s_st (key := 4) F H rfl rfl rfl rfl Try.sizeOf32 rfl rfl rfl ?_; (try clear F H a); try clear w
    intro a w F H
    refine st F H rfl rfl rfl (y_as rfl) ?_; (try clear F a); intro a F
    refine wpList_nil ?_
    refine wp_ret (ret2 F H rfl (rva (key := 4) rfl rfl Try.isAgg32 Try.sizeOf32 rfl) (rv rfl) ⟨_, rfl, H.b0, ?_⟩)
    (try clear F H a)
    rw [show hearR ⟨sa, sb, xs, sr⟩ ⟨pk, pa, ps, pl, ⟨xk, xs', xy, xv, xm⟩⟩ = (Rcv.zero, 240) from if_pos hbad]
    refine ⟨none, 0, ?_, Sl.nilOf _ _ _ _⟩
    show Value.tuple #[Rcv.v Rcv.zero none 0, .int .i64 (if rcvBad sa sb xs sr = true then 240 else 0)] = Value.tuple #[Rcv.v Rcv.zero none 0, .int .i64 240]
    rw [if_pos hbad]
  · have hbad : rcvBad sa sb xs sr = false := by cases h : rcvBad sa sb xs sr <;> simp_all
    have hlen := rcvBad_len hbad
    refine wp_skip ?_
    refine th_n ?_
    refine rg ?_
    refine st F H rfl rfl rfl (y_fa Try.underlying32 rfl Try.sizeOf24 rfl) ?_; (try clear F a); intro a F
    refine st F H rfl rfl rfl (y_ld1 (key := 1002) rfl rfl Try.isAgg24 rfl) ?_; (try clear F a); intro a F
    refine s_callN 1016 F H rfl rfl (.cons rfl .nil) Try.call173 (clone173_c El.wid El.one (hs.old H.b0.nil) (by omega)) ?_
    rintro _ og1016 row1016 a w ⟨cap1, rfl, hr, hn1⟩ hO F H
    refine st F H rfl rfl rfl (y_fa Try.underlying32 rfl Try.sizeOf24 rfl) ?_; (try clear F a); intro a F
    refine s_st (key := 1002) F H rfl rfl rfl rfl Try.sizeOf24 rfl rfl rfl ?_; (try clear F H a); try clear w
    intro a w F H
    refine wpList_nil ?_
    refine wp_seq ?_
    refine rg ?_
    refine st F H rfl rfl rfl (y_mv rfl) ?_; (try clear F a); intro a F
    refine s_in F rfl (.cons rfl .nil) Try.call109 rfl ?_
    refine enter (m := 82) Try.func109 rfl rfl rfl ?_; intro a F
    refine rg ?_
    refine st F H rfl rfl rfl (y_as rfl) ?_; (try clear F a); intro a F
    refine wpList_nil ?_
    refine rgq H mixed (by kernel_rfl) ?_
    refine stq F rfl rfl rfl (y_fa Try.underlying114 rfl Try.sizeOf3 rfl) ?_; (try clear F a); intro a F
    refine stq F rfl rfl rfl (y_ld1 (key := 3) rfl rfl Try.isAgg3 rfl) ?_; (try clear F a); intro a F
    refine stq F rfl rfl rfl (y_eq rfl rfl) ?_; (try clear F a); intro a F
    refine stq F rfl rfl rfl (y_mv rfl) ?_; (try clear F a); intro a F
    refine gandq 7 F rfl .no rfl rfl rfl rfl (fun hb1_3_2 K1 hK1 => by
        refine gtq F rfl rfl rfl rfl hb1_3_2 ?_
        refine stq F rfl rfl rfl (y_fa Try.underlying114 rfl Try.sizeOf27 rfl) ?_; (try clear F a); intro a F
        refine gtq F rfl rfl rfl rfl hb1_3_2 ?_
        refine stq F rfl rfl rfl (y_ld1 (key := 3) rfl rfl Try.isAgg27 rfl) ?_; (try clear F a); intro a F
        refine gtq F rfl rfl rfl rfl hb1_3_2 ?_
        refine stq F rfl rfl rfl (y_mv rfl) ?_; (try clear F a); intro a F
        refine gtq F rfl rfl rfl rfl hb1_3_2 ?_
        refine stq F rfl rfl rfl (y_nil rfl) ?_; (try clear F a); intro a F
        refine gtq F rfl rfl rfl rfl hb1_3_2 ?_
        refine stq F rfl rfl rfl (y_fa Try.underlying32 rfl Try.sizeOf27 rfl) ?_; (try clear F a); intro a F
        refine gtq F rfl rfl rfl rfl hb1_3_2 ?_
        refine stq F rfl rfl rfl (y_ld1 (key := 1002) rfl rfl Try.isAgg27 rfl) ?_; (try clear F a); intro a F
        refine gtq F rfl rfl rfl rfl hb1_3_2 ?_
        refine stq F rfl rfl rfl (y_eq rfl rfl) ?_; (try clear F a); intro a F
        exact nlq (hK1 _ _ F rfl)) ?_
    (try clear F a); intro a F
    refine stq F rfl rfl rfl (y_mv rfl) ?_; (try clear F a); intro a F
    refine gandq 3 F rfl .no rfl rfl rfl rfl (fun hb1_12_2 K2 hK2 => by
        refine gtq F rfl rfl rfl rfl hb1_12_2 ?_
        refine stq F rfl rfl rfl (y_fa Try.underlying114 rfl Try.sizeOf28 rfl) ?_; (try clear F a); intro a F
        refine gtq F rfl rfl rfl rfl hb1_12_2 ?_
        refine stq F rfl rfl rfl (y_ld1 (key := 3) rfl rfl Try.isAgg28 rfl) ?_; (try clear F a); intro a F
        refine gtq F rfl rfl rfl rfl hb1_12_2 ?_
        refine stq F rfl rfl rfl (y_eq rfl rfl) ?_; (try clear F a); intro a F
        exact nlq (hK2 _ _ F rfl)) ?_
    (try clear F a); intro a F
    refine stq F rfl rfl rfl (y_mv rfl) ?_; (try clear F a); intro a F
    refine gandq 4 F rfl .no rfl rfl rfl rfl (fun hb1_17_2 K3 hK3 => by
        refine gtq F rfl rfl rfl rfl hb1_17_2 ?_
        refine stq F rfl rfl rfl (y_fa Try.underlying114 rfl Try.sizeOf47 rfl) ?_; (try clear F a); intro a F
        refine gtq F rfl rfl rfl rfl hb1_17_2 ?_
        refine stq F rfl rfl rfl (y_ld (key := 3) rfl rfl Try.isAgg47 Try.sizeOf47 rfl) ?_; (try clear F a); intro a F
        refine gtq F rfl rfl rfl rfl hb1_17_2 ?_
        refine callq F rfl rfl (.cons rfl .nil) Try.call92 (fun w H => checkElem_c _ _ _ _ _ _) ?_; (try clear F a); intro a F
        refine gtq F rfl rfl rfl rfl hb1_17_2 ?_
        refine stq F rfl rfl rfl (y_eq rfl rfl) ?_; (try clear F a); intro a F
        exact nlq (hK3 _ _ F rfl)) ?_
    (try clear F a); intro a F
    refine stq F rfl rfl rfl (y_as rfl) ?_; (try clear F a); intro a F
    refine nlq (fun w H => ?_)
    refine wp_seq ?_
    refine rgq H mixed (by kernel_rfl) ?_
    refine stq F rfl rfl rfl (y_mv rfl) ?_; (try clear F a); intro a F
    refine stq F rfl rfl rfl (y_mv rfl) ?_; (try clear F a); intro a F
    refine gandq 7 F rfl .no rfl rfl rfl rfl (fun hb2_1_2 K4 hK4 => by
        refine gtq F rfl rfl rfl rfl hb2_1_2 ?_
        refine stq F rfl rfl rfl (y_fa Try.underlying114 rfl Try.sizeOf28 rfl) ?_; (try clear F a); intro a F
        refine gtq F rfl rfl rfl rfl hb2_1_2 ?_
        refine stq F rfl rfl rfl (y_ld1 (key := 3) rfl rfl Try.isAgg28 rfl) ?_; (try clear F a); intro a F
        refine gtq F rfl rfl rfl rfl hb2_1_2 ?_
        refine stq F rfl rfl rfl (y_mv rfl) ?_; (try clear F a); intro a F
        refine gtq F rfl rfl rfl rfl hb2_1_2 ?_
        refine stq F rfl rfl rfl (y_nil rfl) ?_; (try clear F a); intro a F
        refine gtq F rfl rfl rfl rfl hb2_1_2 ?_
        refine stq F rfl rfl rfl (y_fa Try.underlying32 rfl Try.sizeOf28 rfl) ?_; (try clear F a); intro a F
        refine gtq F rfl rfl rfl rfl hb2_1_2 ?_
        refine stq F rfl rfl rfl (y_ld1 (key := 1002) rfl rfl Try.isAgg28 rfl) ?_; (try clear F a); intro a F
        refine gtq F rfl rfl rfl rfl hb2_1_2 ?_
        refine stq F rfl rfl rfl (y_eq rfl rfl) ?_; (try clear F a); intro a F
        exact nlq (hK4 _ _ F rfl)) ?_
    (try clear F a); intro a F
    refine stq F rfl rfl rfl (y_mv rfl) ?_; (try clear F a); intro a F
    refine gandq 3 F rfl .no rfl rfl rfl rfl (fun hb2_10_2 K5 hK5 => by
        refine gtq F rfl rfl rfl rfl hb2_10_2 ?_
        refine stq F rfl rfl rfl (y_fa Try.underlying114 rfl Try.sizeOf28 rfl) ?_; (try clear F a); intro a F
        refine gtq F rfl rfl rfl rfl hb2_10_2 ?_
        refine stq F rfl rfl rfl (y_ld1 (key := 3) rfl rfl Try.isAgg28 rfl) ?_; (try clear F a); intro a F
        refine gtq F rfl rfl rfl rfl hb2_10_2 ?_
        refine stq F rfl rfl rfl (y_le rfl rfl) ?_; (try clear F a); intro a F
        exact nlq (hK5 _ _ F rfl)) ?_
    (try clear F a); intro a F
    refine stq F rfl rfl rfl (y_mv rfl) ?_; (try clear F a); intro a F
    refine gandq 10 F rfl .no rfl rfl rfl rfl (fun hb2_15_2 K6 hK6 => by
        refine gtq F rfl rfl rfl rfl hb2_15_2 ?_
        refine stq F rfl rfl rfl (y_mv rfl) ?_; (try clear F a); intro a F
        refine gtq F rfl rfl rfl rfl hb2_15_2 ?_
        refine stq F rfl rfl rfl (y_nil rfl) ?_; (try clear F a); intro a F
        refine gtq F rfl rfl rfl rfl hb2_15_2 ?_
        refine stq F rfl rfl rfl (y_fa Try.underlying32 rfl Try.sizeOf24 rfl) ?_; (try clear F a); intro a F
        refine gtq F rfl rfl rfl rfl hb2_15_2 ?_
        refine stq F rfl rfl rfl (y_ld1 (key := 1002) rfl rfl Try.isAgg24 rfl) ?_; (try clear F a); intro a F
        refine gtq F rfl rfl rfl rfl hb2_15_2 ?_
        refine stq F rfl rfl rfl (y_len Try.underlying24 rfl) ?_; (try clear F a); intro a F
        refine gtq F rfl rfl rfl rfl hb2_15_2 ?_
        refine stq F rfl rfl rfl (y_mv rfl) ?_; (try clear F a); intro a F
        refine gtq F rfl rfl rfl rfl hb2_15_2 ?_
        refine stq F rfl rfl rfl (y_nil rfl) ?_; (try clear F a); intro a F
        refine gtq F rfl rfl rfl rfl hb2_15_2 ?_
        refine stq F rfl rfl rfl (y_fa Try.underlying32 rfl Try.sizeOf3 rfl) ?_; (try clear F a); intro a F
        refine gtq F rfl rfl rfl rfl hb2_15_2 ?_
        refine stq F rfl rfl rfl (y_ld1 (key := 1002) rfl rfl Try.isAgg3 rfl) ?_; (try clear F a); intro a F
        refine gtq F rfl rfl rfl rfl hb2_15_2 ?_
        refine stq F rfl rfl rfl (y_lt rfl rfl) ?_; (try clear F a); intro a F
        exact nlq (hK6 _ _ F rfl)) ?_
    (try clear F a); intro a F
    refine stq F rfl rfl rfl (y_mv rfl) ?_; (try clear F a); intro a F
    refine gandq 6 F rfl .no rfl rfl rfl rfl (fun hb2_27_2 K7 hK7 => by
        refine gtq F rfl rfl rfl rfl hb2_27_2 ?_
        refine stq F rfl rfl rfl (y_mv rfl) ?_; (try clear F a); intro a F
        refine gtq F rfl rfl rfl rfl hb2_27_2 ?_
        refine stq F rfl rfl rfl (y_nil rfl) ?_; (try clear F a); intro a F
        refine gtq F rfl rfl rfl rfl hb2_27_2 ?_
        refine stq F rfl rfl rfl (y_fa Try.underlying32 rfl Try.sizeOf24 rfl) ?_; (try clear F a); intro a F
        refine gtq F rfl rfl rfl rfl hb2_27_2 ?_
        refine stq F rfl rfl rfl (y_ld1 (key := 1002) rfl rfl Try.isAgg24 rfl) ?_; (try clear F a); intro a F
        refine gtq F rfl rfl rfl rfl hb2_27_2 ?_
        refine callq F rfl rfl (.cons rfl .nil) Try.call110 (fun w H => ends_c (E := []) (hr.sl El.wid (fun g hg => H.cell (k := 1016) rfl hg) (by simp))) ?_; (try clear F a); intro a F
        refine gtq F rfl rfl rfl rfl hb2_27_2 ?_
        refine stq F rfl rfl rfl (y_not rfl) ?_; (try clear F a); intro a F
        exact nlq (hK7 _ _ F rfl)) ?_
    (try clear F a); intro a F
    refine nlq (fun w H => ?_)
    refine cn F rfl (fun h2_2 => ?_) (fun h2_2 => ?_)
    · have hok : hearOk ⟨sa, sb, xs, sr⟩ ⟨pk, pa, ps, pl, ⟨xk, xs', xy, xv, xm⟩⟩ = true := h2_2
      refine rgd1H [0, 1, 2, 3, 4, 5, 6, 7, 8, 9, 10, 11, 12, 13, 14] [0, 1, 2, 3, 4, 5, 6, 7, 8, 9, 10, 11, 12, 13, 14, 15, 16, 17] [1016] [1016, 1002] H mixed ?_
      have H := H.old (Old.drew _)
      have HS := (H.rms [1016])
      have HT := (H.rms [1016, 1002])
      refine tk 0 F HS (by kernel_rfl) rfl rfl rfl .no (y_mv rfl) ?_; (try clear F a); intro a F
      refine tk 2 F HS (by kernel_rfl) rfl rfl rfl .no (y_mv rfl) ?_; (try clear F a); intro a F
      refine tk 3 F HS (by kernel_rfl) rfl rfl rfl .no (y_nil rfl) ?_; (try clear F a); intro a F
      refine tk 4 F HS (by kernel_rfl) rfl rfl rfl .no (y_fa Try.underlying32 rfl Try.sizeOf24 rfl) ?_; (try clear F a); intro a F
      refine tk 5 F HS (by kernel_rfl) rfl rfl rfl .no (y_ld1 (key := 1002) rfl rfl Try.isAgg24 rfl) ?_; (try clear F a); intro a F
      refine tk 6 F HS (by kernel_rfl) rfl rfl rfl .no (y_fa Try.underlying114 rfl Try.sizeOf47 rfl) ?_; (try clear F a); intro a F
      refine tk 7 F HS (by kernel_rfl) rfl rfl rfl .no (y_ld (key := 3) rfl rfl Try.isAgg47 Try.sizeOf47 rfl) ?_; (try clear F a); intro a F
      refine tk2 1 F HT (by kernel_rfl) rfl rfl rfl .no (y_mv rfl) ?_; (try clear F a); intro a F
      refine tk2 10 F HT (by kernel_rfl) rfl rfl rfl .no (y_mv rfl) ?_; (try clear F a); intro a F
      refine tk2 11 F HT (by kernel_rfl) rfl rfl rfl .no (y_nil rfl) ?_; (try clear F a); intro a F
      refine tk2 12 F HT (by kernel_rfl) rfl rfl rfl .no (y_fa Try.underlying32 rfl Try.sizeOf28 rfl) ?_; (try clear F a); intro a F
      refine tk 13 F HS (by kernel_rfl) rfl rfl rfl .no (y_ld1 (key := 1002) rfl rfl Try.isAgg28 rfl) ?_; (try clear F a); intro a F
      refine tk2 14 F HT (by kernel_rfl) rfl rfl rfl .no (y_add rfl rfl) ?_; (try clear F a); intro a F
      refine one' 8 (by kernel_rfl) rfl ?_
      refine s_bs1 99 F H rfl Try.underlying24 Try.sizeOf47 Try.zeroValue47 rfl rfl rfl rfl rfl rfl ?_
      intro g99 a w F H
      have HS := (H.rms [99, 1016])
      have HT := (H.rms [99, 1016, 1002])
      refine wpList_nil ⟨⟨fun _ _ => HS, fun _ _ => HT⟩, ?_⟩
      refine one' 9 (by kernel_rfl) rfl ?_
      refine s_append 1016 F H rfl Try.underlying24 ti47 rfl rfl rfl rfl rfl hr.r (At.slc (H.cell (k := 99) rfl rfl) (m := 5) rfl) rfl (fun u hu => one1_mem (El.one ⟨xk, xs', xy, xv, xm⟩) u hu) (by omega) (by omega) ?_
      intro og' cap' row' a w hr' ht' hn' hO F H
      have HS := (H.rms [99, 1016])
      have HT := (H.rms [99, 1016, 1002])
      refine wpList_nil ⟨⟨fun _ _ => HS, fun _ _ => HT⟩, ?_⟩
      refine one' 15 (by kernel_rfl) rfl ?_
      refine st F H rfl rfl rfl (y_nil rfl) ?_; (try clear F a); intro a F
      have HS := (H.rms [99, 1016])
      have HT := (H.rms [99, 1016, 1002])
      refine wpList_nil ⟨⟨fun h => absurd h (by decide), fun _ _ => HT⟩, ?_⟩
      refine one' 16 (by kernel_rfl) rfl ?_
      refine st F H rfl rfl rfl (y_fa Try.underlying32 rfl Try.sizeOf24 rfl) ?_; (try clear F a); intro a F
      have HS := (H.rms [99, 1016])
      have HT := (H.rms [99, 1016, 1002])
      refine wpList_nil ⟨⟨fun h => absurd h (by decide), fun _ _ => HT⟩, ?_⟩
      refine one' 17 (by kernel_rfl) rfl ?_
      refine s_st (key := 1002) F H rfl rfl rfl rfl Try.sizeOf24 rfl rfl rfl ?_; (try clear F H a); try clear w
      intro a w F H
      have HS := (H.rms [99, 1016])
      have HT := (H.rms [99, 1016, 1002])
      refine wpList_nil ⟨⟨fun h => absurd h (by decide), fun _ _ => HT⟩, ?_⟩
      refine one' 18 (by kernel_rfl) rfl ?_
      refine st F H rfl rfl rfl (y_nil rfl) ?_; (try clear F a); intro a F
      have HS := (H.rms [99, 1016])
      have HT := (H.rms [99, 1016, 1002])
      refine wpList_nil ⟨⟨fun h => absurd h (by decide), fun h => absurd h (by decide)⟩, ?_⟩
      refine one' 19 (by kernel_rfl) rfl ?_
      refine st F H rfl rfl rfl (y_fa Try.underlying32 rfl Try.sizeOf28 rfl) ?_; (try clear F a); intro a F
      have HS := (H.rms [99, 1016])
      have HT := (H.rms [99, 1016, 1002])
      refine wpList_nil ⟨⟨fun h => absurd h (by decide), fun h => absurd h (by decide)⟩, ?_⟩
      refine one' 20 (by kernel_rfl) rfl ?_
      refine s_st (key := 1002) F H rfl rfl rfl rfl Try.sizeOf28 rfl rfl rfl ?_; (try clear F H a); try clear w
      intro a w F H
      have HS := (H.rms [99, 1016])
      have HT := (H.rms [99, 1016, 1002])
      refine wpList_nil ⟨⟨fun h => absurd h (by decide), fun h => absurd h (by decide)⟩, ?_⟩
      refine dn (by kernel_rfl) ?_ _
      refine th_n ?_
      refine rg ?_
      refine st F H rfl rfl rfl (y_as rfl) ?_; (try clear F a); intro a F
      refine wpList_nil ?_
      refine wp_ret (ret1 F H rfl (rv rfl) ⟨_, rfl, fun a F => ?_⟩)
      refine st F H rfl rfl rfl (y_as rfl) ?_; (try clear F a); intro a F
      refine wpList_nil ?_
      refine rg ?_
      refine st F H rfl rfl rfl (y_mv rfl) ?_; (try clear F a); intro a F
      refine st F H rfl rfl rfl (y_ne rfl rfl) ?_; (try clear F a); intro a F
      refine wpList_nil ?_
      refine cnF F rfl ?_
      refine wp_skip ?_
      refine th_n ?_
      refine rg ?_
      refine st F H rfl rfl rfl (y_ld (key := 1002) rfl rfl Try.isAgg32 Try.sizeOf32 rfl) ?_; (try clear F a); intro a F
      refine s_st (key := 1004) F H rfl rfl rfl rfl Try.sizeOf32 rfl rfl rfl ?_; (try clear F H a); try clear w
      intro a w F H
      refine st F H rfl rfl rfl (y_as rfl) ?_; (try clear F a); intro a F
      refine wpList_nil ?_
      refine wp_ret (ret2 F H rfl (rva (key := 1004) rfl rfl Try.isAgg32 Try.sizeOf32 rfl) (rv rfl) ⟨_, rfl, fun a F => ?_⟩)
      refine st F H rfl rfl rfl (y_ext rfl rfl) ?_; (try clear F a); intro a F
      refine st F H rfl rfl rfl (y_ext rfl rfl) ?_; (try clear F a); intro a F
      refine s_st (key := 4) F H rfl rfl rfl rfl Try.sizeOf32 rfl rfl rfl ?_; (try clear F H a); try clear w
      intro a w F H
      refine st F H rfl rfl rfl (y_as rfl) ?_; (try clear F a); intro a F
      refine wpList_nil ?_
      refine wp_ret (ret2 F H rfl (rva (key := 4) rfl rfl Try.isAgg32 Try.sizeOf32 rfl) (rv rfl) ⟨_, rfl, H.b0, ?_⟩)
      rw [show hearR ⟨sa, sb, xs, sr⟩ ⟨pk, pa, ps, pl, ⟨xk, xs', xy, xv, xm⟩⟩ = (⟨sa, IntKind.u64.wrap (sb + 1), xs ++ [⟨xk, xs', xy, xv, xm⟩], sr⟩, 0) from (if_neg (ntrue hbad)).trans (if_pos hok)]
      have hR : RowOf og' 5 El.cs (xs ++ [⟨xk, xs', xy, xv, xm⟩]) cap' row' := hr.push hr' ht'
      exact ⟨adr og', cap', by simp only [Rcv.v, List.length_append]; rfl, hR.sl El.wid (fun g hg => H.cell (k := 1016) rfl hg) (fun g hg => fresh_range (H.fresh (k := 1016) rfl hg))⟩
    · have hok : hearOk ⟨sa, sb, xs, sr⟩ ⟨pk, pa, ps, pl, ⟨xk, xs', xy, xv, xm⟩⟩ = false := h2_2
      refine wp_skip ?_
      refine th_n ?_
      refine rg ?_
      refine st F H rfl rfl rfl (y_as rfl) ?_; (try clear F a); intro a F
      refine wpList_nil ?_
      refine wp_ret (ret1 F H rfl (rv rfl) ⟨_, rfl, fun a F => ?_⟩)
      refine st F H rfl rfl rfl (y_as rfl) ?_; (try clear F a); intro a F
      refine wpList_nil ?_
      refine rg ?_
      refine st F H rfl rfl rfl (y_mv rfl) ?_; (try clear F a); intro a F
      refine st F H rfl rfl rfl (y_ne rfl rfl) ?_; (try clear F a); intro a F
      refine wpList_nil ?_
      refine cnF F rfl ?_
      refine wp_skip ?_
      refine th_n ?_
      refine rg ?_
      refine st F H rfl rfl rfl (y_ld (key := 1002) rfl rfl Try.isAgg32 Try.sizeOf32 rfl) ?_; (try clear F a); intro a F
      refine s_st (key := 1004) F H rfl rfl rfl rfl Try.sizeOf32 rfl rfl rfl ?_; (try clear F H a); try clear w
      intro a w F H
      refine st F H rfl rfl rfl (y_as rfl) ?_; (try clear F a); intro a F
      refine wpList_nil ?_
      refine wp_ret (ret2 F H rfl (rva (key := 1004) rfl rfl Try.isAgg32 Try.sizeOf32 rfl) (rv rfl) ⟨_, rfl, fun a F => ?_⟩)
      refine st F H rfl rfl rfl (y_ext rfl rfl) ?_; (try clear F a); intro a F
      refine st F H rfl rfl rfl (y_ext rfl rfl) ?_; (try clear F a); intro a F
      refine s_st (key := 4) F H rfl rfl rfl rfl Try.sizeOf32 rfl rfl rfl ?_; (try clear F H a); try clear w
      intro a w F H
      refine st F H rfl rfl rfl (y_as rfl) ?_; (try clear F a); intro a F
      refine wpList_nil ?_
      refine wp_ret (ret2 F H rfl (rva (key := 4) rfl rfl Try.isAgg32 Try.sizeOf32 rfl) (rv rfl) ⟨_, rfl, H.b0, ?_⟩)
      rw [show hearR ⟨sa, sb, xs, sr⟩ ⟨pk, pa, ps, pl, ⟨xk, xs', xy, xv, xm⟩⟩ = (⟨sa, sb, xs, sr⟩, 0) from (if_neg (ntrue hbad)).trans (if_neg (ntrue hok))]
      exact ⟨adr og1016, cap1, rfl, hr.sl El.wid (fun g hg => H.cell (k := 1016) rfl hg) (fun g hg => fresh_range (H.fresh (k := 1016) rfl hg))⟩
end Go.Proofs.Ytilakloilkkfmaa
