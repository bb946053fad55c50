/-
  net: what is on its way; where a parcel is.
-/
import Derived.Test.YtilakloilkkfmaaStrEq
import Derived.Test.YtilakloilkkfmaaClones
namespace Go.Proofs.Ytilakloilkkfmaa
open Go Go.Sx
set_option maxRecDepth 10000
-- @uses Clones
/-- what a parcel is -/
structure PC where
  n : Int
  f : Int
  t : Int
  b : List Int
  deriving DecidableEq, Inhabited
/-- and where its bytes are -/
structure Par where
  c : PC
  ad : Option Addr
  cap : Nat
  deriving Inhabited
def Par.cs (p : Par) : List Value := [.int .u64 p.c.n, .int .i64 p.c.f, .int .i64 p.c.t, .slice p.ad p.c.b.length p.cap]
theorem Par.wid : Wid 4 Par.cs := fun _ => rfl
theorem Par.one (x : Par) : one1 x.cs = true := by cases x with | mk c ad cap => cases ad <;> rfl
def bc (x : Int) : List Value := [.int .u8 x]
theorem bc.wid : Wid 1 bc := fun _ => rfl
theorem bc.one (x : Int) : one1 (bc x) = true := rfl
structure NetS (E : List Nat) (w : World) (ad : Option Addr) (cap : Nat) (ps : List Par) : Prop where
  s : Sl E w 4 Par.cs ad ps.length cap ps
  b : ∀ p ∈ ps, Sl E w 1 bc p.ad p.c.b.length p.cap p.c.b
theorem NetS.old {E : List Nat} {w w' : World} {ad : Option Addr} {cap : Nat} {ps : List Par} (h : NetS E w ad cap ps) (ho : Old E w w') : NetS E w' ad cap ps := ⟨h.s.old ho, fun p hp => (h.b p hp).old ho⟩
theorem NetS.less {E E' : List Nat} {w : World} {ad : Option Addr} {cap : Nat} {ps : List Par} (h : NetS E w ad cap ps) (hE : ∀ k ∈ E', k ∈ E) : NetS E' w ad cap ps := ⟨h.s.less hE, fun p hp => (h.b p hp).less hE⟩
theorem NetS.carry {cells X : List Cel} {bs : List Base} {w w1 : World} {ad : Option Addr} {cap : Nat} {ps : List Par} (h : NetS (blks X) w1 ad cap ps) (H : Hp cells bs w) (hb : ⟨blks X, w1⟩ ∈ bs) : NetS (blks cells) w ad cap ps :=
  ⟨h.s.carry Par.wid (by decide) H hb, fun p hp => (h.b p hp).carry bc.wid (by decide) H hb⟩
/-- may a net be? -/
structure NetOk (sent : Int) (cs : List PC) : Prop where
  s0 : 0 ≤ sent
  s1 : sent ≤ 4611686018427387904
  len : cs.length ≤ 60
  ord : cs.Pairwise (·.n < ·.n)
  each : ∀ c ∈ cs, (0 < c.n ∧ c.n ≤ sent) ∧ (1 ≤ c.f ∧ c.f ≤ 7) ∧ (1 ≤ c.t ∧ c.t ≤ 7) ∧ c.f ≠ c.t ∧ c.b.length ≤ 30000
theorem node_c (x : Int) (w : World) : CallsTo Try.prog 177 [.int .i64 x] w [] fun v _ => v = .bool (decide (1 ≤ x) && decide (x ≤ 7)) := by
  refine enter (m := 9) Try.func177 rfl rfl rfl ?_; intro a F
  have H := Hp.start w []
  refine rg ?_
  refine st F H rfl rfl rfl (y_as rfl) ?_; (try clear F a); intro a F
  refine wpList_nil ?_
  refine rg ?_
  refine st F H rfl rfl rfl (y_mv rfl) ?_; (try clear F a); intro a F
  refine st F H rfl rfl rfl (y_ge rfl rfl) ?_; (try clear F a); intro a F
  refine st F H rfl rfl rfl (y_mv rfl) ?_; (try clear F a); intro a F
  refine gand 2 F H rfl .no rfl rfl rfl rfl (fun hb1_2 K1 hK1 => by
      refine gt F rfl rfl rfl rfl hb1_2 ?_
      refine st F H rfl rfl rfl (y_mv rfl) ?_; (try clear F a); intro a F
      refine gt F rfl rfl rfl rfl hb1_2 ?_
      refine st F H rfl rfl rfl (y_le rfl rfl) ?_; (try clear F a); intro a F
      exact nl (hK1 _ _ _ F rfl H)) ?_
  (try clear F H a); try clear w
  intro a w F H
  refine st F H rfl rfl rfl (y_as rfl) ?_; (try clear F a); intro a F
  refine wpList_nil ?_
  refine wp_ret (ret1 F H rfl (rv rfl) ⟨_, rfl, H.b0, ?_⟩)
  (try clear F H a)
  rfl
theorem nan_c (x : Int) (w : World) : CallsTo Try.prog 207 [.int .u64 x] w [] fun v _ => v = .bool false := by
  refine enter (m := 6) Try.func207 rfl rfl rfl ?_; intro a F
  have H := Hp.start w []
  refine rg ?_
  refine st F H rfl rfl rfl (y_as rfl) ?_; (try clear F a); intro a F
  refine wpList_nil ?_
  refine rg ?_
  refine st F H rfl rfl rfl (y_mv rfl) ?_; (try clear F a); intro a F
  refine st F H rfl rfl rfl (y_mv rfl) ?_; (try clear F a); intro a F
  refine st F H rfl rfl rfl (y_ne rfl rfl) ?_; (try clear F a); intro a F
  refine st F H rfl rfl rfl (y_as rfl) ?_; (try clear F a); intro a F
  refine wpList_nil ?_
  refine wp_ret (ret1 F H rfl (rv rfl) ⟨_, rfl, H.b0, ?_⟩)
  (try clear F H a)
  simp
def cmpI (x y : Int) : Int := if x < y then -1 else if y < x then 1 else 0
theorem cmp_c (x y : Int) (w : World) : CallsTo Try.prog 181 [.int .u64 x, .int .u64 y] w [] fun v _ => v = .int .i64 (cmpI x y) := by
  refine enter (m := 20) Try.func181 rfl rfl rfl ?_; intro a F
  have H := Hp.start w []
  refine rg ?_
  refine st F H rfl rfl rfl (y_as rfl) ?_; (try clear F a); intro a F
  refine wpList_nil ?_
  refine rg ?_
  refine st F H rfl rfl rfl (y_mv rfl) ?_; (try clear F a); intro a F
  refine s_callV F H rfl rfl (.cons rfl .nil) Try.call207 (nan_c _ _) ?_; (try clear F H a); try clear w
  intro a w F H
  refine st F H rfl rfl rfl (y_as rfl) ?_; (try clear F a); intro a F
  refine wpList_nil ?_
  refine rg ?_
  refine st F H rfl rfl rfl (y_mv rfl) ?_; (try clear F a); intro a F
  refine s_callV F H rfl rfl (.cons rfl .nil) Try.call207 (nan_c _ _) ?_; (try clear F H a); try clear w
  intro a w F H
  refine st F H rfl rfl rfl (y_as rfl) ?_; (try clear F a); intro a F
  refine wpList_nil ?_
  refine wp_seq ?_
  refine rg ?_
  refine st F H rfl rfl rfl (y_mv rfl) ?_; (try clear F a); intro a F
  refine wpList_nil ?_
  refine cnF F rfl ?_
  refine wp_skip ?_
  refine th_n ?_
  refine wp_seq ?_
  refine rg ?_
  refine st F H rfl rfl rfl (y_mv rfl) ?_; (try clear F a); intro a F
  refine wpList_nil ?_
  refine cnF F rfl ?_
  refine wp_skip ?_
  refine th_n ?_
  refine wp_seq ?_
  refine rg ?_
  refine st F H rfl rfl rfl (y_mv rfl) ?_; (try clear F a); intro a F
  refine st F H rfl rfl rfl (y_mv rfl) ?_; (try clear F a); intro a F
  refine st F H rfl rfl rfl (y_lt rfl rfl) ?_; (try clear F a); intro a F
  refine wpList_nil ?_
  refine cn F rfl (fun h9 => ?_) (fun h9 => ?_)
  · refine rg ?_
    refine st F H rfl rfl rfl (y_as rfl) ?_; (try clear F a); intro a F
    refine wpList_nil ?_
    refine wp_ret (th_r (ret1 F H rfl (rv rfl) ⟨_, rfl, H.b0, ?_⟩))
    (try clear F H a)
    have : x < y := by simpa using h9
    simp [cmpI, this]
  · refine wp_skip ?_
    refine th_n ?_
    refine wp_seq ?_
    refine rg ?_
    refine st F H rfl rfl rfl (y_mv rfl) ?_; (try clear F a); intro a F
    refine st F H rfl rfl rfl (y_mv rfl) ?_; (try clear F a); intro a F
    refine st F H rfl rfl rfl (y_gt rfl rfl) ?_; (try clear F a); intro a F
    refine wpList_nil ?_
    refine cn F rfl (fun h11 => ?_) (fun h11 => ?_)
    · refine rg ?_
      refine st F H rfl rfl rfl (y_as rfl) ?_; (try clear F a); intro a F
      refine wpList_nil ?_
      refine wp_ret (th_r (ret1 F H rfl (rv rfl) ⟨_, rfl, H.b0, ?_⟩))
      (try clear F H a)
      have e1 : ¬ x < y := by simpa using h9
      have e2 : y < x := by simpa using h11
      simp [cmpI, e1, e2]
    · refine wp_skip ?_
      refine th_n ?_
      refine rg ?_
      refine st F H rfl rfl rfl (y_as rfl) ?_; (try clear F a); intro a F
      refine wpList_nil ?_
      refine wp_ret (ret1 F H rfl (rv rfl) ⟨_, rfl, H.b0, ?_⟩)
      (try clear F H a)
      have e1 : ¬ x < y := by simpa using h9
      have e2 : ¬ y < x := by simpa using h11
      simp [cmpI, e1, e2]
theorem cmpPar_c (p : Par) (y : Int) (w : World) : CallsTo Try.prog 180 [.agg p.cs.toArray, .int .u64 y] w [] fun v _ => v = .int .i64 (cmpI p.c.n y) := by
  refine enter (m := 9) Try.func180 rfl rfl rfl ?_; intro a F
  have H := Hp.start w []
  refine rg ?_
  refine s_box 2 F H rfl rfl rfl ?_; intro g2; (try clear F H a); try clear w
  intro a w F H
  refine st F H rfl rfl rfl (y_as rfl) ?_; (try clear F a); intro a F
  refine wpList_nil ?_
  refine rg ?_
  refine st F H rfl rfl rfl (y_fa Try.underlying131 rfl Try.sizeOf28 rfl) ?_; (try clear F a); intro a F
  refine st F H rfl rfl rfl (y_ld1 (key := 2) rfl rfl Try.isAgg28 rfl) ?_; (try clear F a); intro a F
  refine st F H rfl rfl rfl (y_mv rfl) ?_; (try clear F a); intro a F
  refine s_callV F H rfl rfl (.cons rfl (.cons rfl .nil)) Try.call181 (cmp_c _ _ _) ?_; (try clear F H a); try clear w
  intro a w F H
  refine st F H rfl rfl rfl (y_as rfl) ?_; (try clear F a); intro a F
  refine wpList_nil ?_
  refine wp_ret (ret1 F H rfl (rv rfl) ⟨_, rfl, H.b0, ?_⟩)
  (try clear F H a)
  rfl
theorem bs_c {E : List Nat} {w0 : World} {ad : Option Addr} {cap m : Nat} {ps : List Par} (hs : Sl E w0 4 Par.cs ad m cap ps) (ho : (ps.map Par.c).Pairwise (·.n < ·.n)) (J : Nat) (p : Par) (hp : ps[J]? = some p) (hl : ps.length ≤ 60) (x : Int) (hxn : p.c.n = x) :
    CallsTo Try.prog 179 [.slice ad m cap, .int .u64 x, .func (.func 180) #[] #[]] w0 [] fun v _ => v = .tuple #[.int .i64 J, .bool true] := by
  subst hxn
  obtain rfl := hs.len
  have hJ : J < ps.length := (List.getElem?_eq_some_iff.1 hp).1
  have hcm := hs.cm
  have hnc := hs.nc
  simp only [maxLen] at hcm
  have hcmp : ∀ h q, ps[h]? = some q → (q.c.n < p.c.n ↔ h < J) ∧ (p.c.n < q.c.n ↔ J < h) := by
    intro h q hq
    have hh := (List.getElem?_eq_some_iff.1 hq)
    have hp' := (List.getElem?_eq_some_iff.1 hp)
    obtain ⟨hlt, rfl⟩ := hh
    obtain ⟨_, rfl⟩ := hp'
    rw [List.pairwise_map] at ho
    have h1 := List.pairwise_iff_getElem.1 ho
    rcases Nat.lt_trichotomy h J with h2 | h2 | h2
    · have := h1 h J hlt hJ h2; exact ⟨⟨fun _ => h2, fun _ => this⟩, ⟨fun h => by omega, fun h => by omega⟩⟩
    · subst h2; exact ⟨⟨fun h => by omega, fun h => by omega⟩, ⟨fun h => by omega, fun h => by omega⟩⟩
    · have := h1 J h hJ hlt h2; exact ⟨⟨fun h => by omega, fun h => by omega⟩, ⟨fun _ => h2, fun _ => this⟩⟩
  have hget : ∀ {h : Nat}, h < ps.length → ps[h]? = some (ps.getD h default) := fun hh => by rw [List.getD_eq_getElem?_getD, List.getElem?_eq_getElem hh]; rfl
  refine enter (m := 49) Try.func179 rfl rfl rfl ?_; intro a F
  have H := Hp.start w0 []
  refine rg ?_
  refine st F H rfl rfl rfl (y_as rfl) ?_; (try clear F a); intro a F
  refine st F H rfl rfl rfl (y_as rfl) ?_; (try clear F a); intro a F
  refine wpList_nil ?_
  refine rg ?_
  refine st F H rfl rfl rfl (y_mv rfl) ?_; (try clear F a); intro a F
  refine st F H rfl rfl rfl (y_len Try.underlying33 rfl) ?_; (try clear F a); intro a F
  refine st F H rfl rfl rfl (y_as rfl) ?_; (try clear F a); intro a F
  refine wpList_nil ?_
  refine rg ?_
  refine st F H rfl rfl rfl (y_mv rfl) ?_; (try clear F a); intro a F
  refine st F H rfl rfl rfl (y_as rfl) ?_; (try clear F a); intro a F
  refine st F H rfl rfl rfl (y_as rfl) ?_; (try clear F a); intro a F
  refine wpList_nil ?_
  refine wp_seq ?_
  refine wp_block ?_
  refine lp (fun (k : Nat × Nat) a w => (k.1 ≤ J ∧ J ≤ k.2 ∧ k.2 ≤ ps.length) ∧ Fr 49 [] [(0, .slice ad ps.length cap), (1, .int .u64 p.c.n), (2, .func (.func 180) #[] #[]), (8, .int .i64 ps.length), (9, .int .i64 k.1), (10, .int .i64 k.2)] a ∧ Hp [] [⟨[], w0⟩] w) (fun k => k.2 - k.1) (0, ps.length) ⟨⟨Nat.zero_le _, by omega, Nat.le_refl _⟩, F.cut ⟨rfl, rfl, rfl, rfl, rfl, rfl, trivial⟩, H⟩ (fun k a w hI => ?_)
  clear F H
  obtain ⟨⟨hk1, hk2, hk3⟩, F, H⟩ := hI
  refine wp_seq ?_
  refine rg ?_
  refine st F H rfl rfl rfl (y_mv rfl) ?_; (try clear F a); intro a F
  refine st F H rfl rfl rfl (y_mv rfl) ?_; (try clear F a); intro a F
  refine st F H rfl rfl rfl (y_lt rfl rfl) ?_; (try clear F a); intro a F
  refine wpList_nil ?_
  refine cn F rfl (fun h3 => ?_) (fun h3 => ?_)
  · have hlt : k.1 < k.2 := by simpa using h3
    obtain ⟨hh, hh0⟩ : ∃ hh, hh = (k.1 + k.2) / 2 := ⟨_, rfl⟩
    have hmid : IntKind.i64.wrap ((IntKind.u64.wrap (IntKind.i64.wrap ((k.1 : Int) + k.2))).fdiv (2 ^ 1)) = (hh : Int) := by
      rw [wi64 (x := (k.1 : Int) + k.2) (by omega), wu64 (by omega), Int.fdiv_eq_ediv_of_nonneg _ (by decide), wi64 (by omega)]; omega
    obtain ⟨g, o, had, hg⟩ := hs.addr (by omega)
    subst had
    refine wp_skip ?_
    refine th_n ?_
    refine wp_block ?_
    refine rg ?_
    refine st F H rfl rfl rfl (y_mv rfl) ?_; (try clear F a); intro a F
    refine st F H rfl rfl rfl (y_mv rfl) ?_; (try clear F a); intro a F
    refine st F H rfl rfl rfl (y_add rfl rfl) ?_; (try clear F a); intro a F
    refine st F H rfl rfl rfl (y_cvi Try.underlying3 Try.underlying110 rfl) ?_; (try clear F a); intro a F
    refine st F H rfl rfl rfl (y_shr 1 rfl rfl rfl) ?_; (try clear F a); intro a F
    refine st F H rfl rfl rfl (y_cvi Try.underlying110 Try.underlying3 rfl) ?_; (try clear F a); intro a F
    refine st F H rfl rfl rfl (y_as rfl) ?_; (try clear F a); intro a F
    refine wpList_nil ?_
    refine rg ?_
    rw [hmid] at F
    refine st F H rfl rfl rfl (y_mv rfl) ?_; (try clear F a); intro a F
    refine st F H rfl rfl rfl (y_mv rfl) ?_; (try clear F a); intro a F
    refine st F H rfl rfl rfl (y_mv rfl) ?_; (try clear F a); intro a F
    refine st F H rfl rfl rfl (y_ix Try.underlying33 Try.sizeOf131 rfl rfl rfl hh rfl (by omega)) ?_; (try clear F a); intro a F
    refine st F H rfl rfl rfl (y_lda (vs := (ps.getD hh default).cs) rfl Try.isAgg131 Try.sizeOf131 (fun w H => (hs.old H.b0.nil).at (hget (by omega))) rfl) ?_; (try clear F a); intro a F
    refine st F H rfl rfl rfl (y_mv rfl) ?_; (try clear F a); intro a F
    refine s_callV F H rfl rfl (.cons rfl (.cons rfl .nil)) Try.call180 (cmpPar_c (ps.getD hh default) p.c.n _) ?_; (try clear F H a); try clear w
    intro a w F H
    refine st F H rfl rfl rfl (y_lt rfl rfl) ?_; (try clear F a); intro a F
    refine wpList_nil ?_
    refine cn F rfl (fun h5 => ?_) (fun h5 => ?_)
    · have hlo : hh < J := by
        have h := hcmp hh _ (hget (by omega))
        have hc : cmpI (ps.getD hh default).c.n p.c.n < 0 := by simpa only [decide_eq_true_eq] using h5
        unfold cmpI at hc
        split at hc
        · exact h.1.1 (by assumption)
        · split at hc <;> omega
      refine rg1 ?_
      refine st F H rfl rfl rfl (y_mv rfl) ?_; (try clear F a); intro a F
      refine st F H rfl rfl rfl (y_add rfl rfl) ?_; (try clear F a); intro a F
      refine st F H rfl rfl rfl (y_as rfl) ?_; (try clear F a); intro a F
      refine wpList_nil ?_
      refine ib_n ?_
      refine th_n ?_
      first
        | (rw [wk (by omega)] at F; exact ⟨(hh + 1, k.2), ⟨⟨by simp only; omega, hk2, hk3⟩, F.cut ⟨rfl, rfl, rfl, rfl, rfl, rfl, trivial⟩, H⟩, by simp only; omega⟩)
        | exact ⟨(k.1, hh), ⟨⟨hk1, hlo, by simp only; omega⟩, F.cut ⟨rfl, rfl, rfl, rfl, rfl, rfl, trivial⟩, H⟩, by simp only; omega⟩
    · have hlo : J ≤ hh := by
        have h := hcmp hh _ (hget (by omega))
        have hc : ¬ cmpI (ps.getD hh default).c.n p.c.n < 0 := by simpa only [decide_eq_false_iff_not] using h5
        unfold cmpI at hc
        split at hc
        · omega
        · exact Nat.le_of_not_lt (fun hlt => by have := h.1.2 hlt; omega)
      refine rg1 ?_
      refine st F H rfl rfl rfl (y_mv rfl) ?_; (try clear F a); intro a F
      refine st F H rfl rfl rfl (y_as rfl) ?_; (try clear F a); intro a F
      refine wpList_nil ?_
      refine ib_n ?_
      refine th_n ?_
      first
        | (rw [wk (by omega)] at F; exact ⟨(hh + 1, k.2), ⟨⟨by simp only; omega, hk2, hk3⟩, F.cut ⟨rfl, rfl, rfl, rfl, rfl, rfl, trivial⟩, H⟩, by simp only; omega⟩)
        | exact ⟨(k.1, hh), ⟨⟨hk1, hlo, by simp only; omega⟩, F.cut ⟨rfl, rfl, rfl, rfl, rfl, rfl, trivial⟩, H⟩, by simp only; omega⟩
  · have hk : k.1 = J := by simp at h3; omega
    refine wp_exit (th_x (th_x (ib_x ?_)))
    refine th_n ?_
    refine rg ?_
    refine st F H rfl rfl rfl (y_mv rfl) ?_; (try clear F a); intro a F
    refine st F H rfl rfl rfl (y_mv rfl) ?_; (try clear F a); intro a F
    refine st F H rfl rfl rfl (y_mv rfl) ?_; (try clear F a); intro a F
    refine st F H rfl rfl rfl (y_lt rfl rfl) ?_; (try clear F a); intro a F
    refine st F H rfl rfl rfl (y_mv rfl) ?_; (try clear F a); intro a F
    refine gand 8 F H rfl .no rfl rfl rfl rfl (fun hb8_4 K1 hK1 => by
        refine gt F rfl rfl rfl rfl hb8_4 ?_
        refine st F H rfl rfl rfl (y_mv rfl) ?_; (try clear F a); intro a F
        refine gt F rfl rfl rfl rfl hb8_4 ?_
        refine st F H rfl rfl rfl (y_mv rfl) ?_; (try clear F a); intro a F
        refine gt F rfl rfl rfl rfl hb8_4 ?_
        refine st F H rfl rfl rfl (y_mv rfl) ?_; (try clear F a); intro a F
        refine gt F rfl rfl rfl rfl hb8_4 ?_
        obtain ⟨g, o, had, hg⟩ := hs.addr (by omega)
        subst had
        refine st F H rfl rfl rfl (y_ix Try.underlying33 Try.sizeOf131 rfl rfl rfl k.1 rfl (by omega)) ?_; (try clear F a); intro a F
        refine gt F rfl rfl rfl rfl hb8_4 ?_
        refine st F H rfl rfl rfl (y_lda (vs := p.cs) rfl Try.isAgg131 Try.sizeOf131 (fun w H => (hs.old H.b0.nil).at (by rw [hk]; exact hp)) rfl) ?_; (try clear F a); intro a F
        refine gt F rfl rfl rfl rfl hb8_4 ?_
        refine st F H rfl rfl rfl (y_mv rfl) ?_; (try clear F a); intro a F
        refine gt F rfl rfl rfl rfl hb8_4 ?_
        refine s_callV F H rfl rfl (.cons rfl (.cons rfl .nil)) Try.call180 (cmpPar_c p p.c.n _) ?_; (try clear F H a); try clear w
        intro a w F H
        refine gt F rfl rfl rfl rfl hb8_4 ?_
        refine st F H rfl rfl rfl (y_eq rfl rfl) ?_; (try clear F a); intro a F
        exact nl (hK1 _ _ _ F rfl H)) ?_
    (try clear F H a); try clear w
    intro a w F H
    refine st F H rfl rfl rfl (y_as rfl) ?_; (try clear F a); intro a F
    refine st F H rfl rfl rfl (y_as rfl) ?_; (try clear F a); intro a F
    refine wpList_nil ?_
    refine wp_ret (ret2 F H rfl (rv rfl) (rv rfl) ⟨_, rfl, H.b0, ?_⟩)
    (try clear F H a)
    have : (decide ((k.1 : Int) < ps.length) && (cmpI p.c.n p.c.n == 0)) = true := by simp [cmpI]; omega
    rw [this, hk]
end Go.Proofs.Ytilakloilkkfmaa
