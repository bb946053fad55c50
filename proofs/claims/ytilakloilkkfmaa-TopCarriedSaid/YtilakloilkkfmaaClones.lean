/-
  The library's functions on slices, at this program's types; by program.
-/
import Derived.Test.YtilakloilkkfmaaSxRep
import Derived.Test.YtilakloilkkfmaaTy
namespace Go.Proofs.Ytilakloilkkfmaa
open Go Go.Sx
set_option maxRecDepth 10000
/-- what Clone hands back: a row of its own making (none, for nil), that reads as what came in -/
def Cloned {α : Type} (w0 : World) (e size : Nat) (enc : α → List Value) (ad : Option Addr) (xs : List α) (v : Value) (w' : World) : Prop :=
  ∃ og row, (∀ g, og = some g → w0.heap.size ≤ g ∧ w'.heap[g]? = some (.cells row.toArray e (0, 0))) ∧ (∃ cap', v = .slice (adr og) xs.length cap' ∧ RowOf og size enc xs cap' row ∧ (ad = none → og = none))
theorem flat_one {α : Type} {enc : α → List Value} (h1 : ∀ x, one1 (enc x) = true) (xs : List α) : ∀ u ∈ flat enc xs, u.oneCell' = true := by
  intro u hu
  simp only [flat, List.mem_flatMap] at hu
  obtain ⟨x, _, hx⟩ := hu
  exact one1_mem (h1 x) u hx
theorem delete54_c {α : Type} {enc : α → List Value} {w0 : World} {og : Option Nat} {cap i j : Nat} {xs : List α} {row : List Value} (hw : Wid 5 enc) (h1 : ∀ x, one1 (enc x) = true) (hr : RowOf og 5 enc xs cap row) (hij : i ≤ j) (hj : j ≤ xs.length) (hg : ∀ g, og = some g → w0.heap[g]? = some (.cells row.toArray 154 (0, 0))) :
    CallsTo Try.prog 54 [.slice (adr og) xs.length cap, .int .i64 i, .int .i64 j] w0 og.toList (fun v w' => ∃ row', (∀ g, og = some g → w'.heap[g]? = some (.cells row'.toArray 154 (0, 0))) ∧ (v = .slice (adr og) (xs.take i ++ xs.drop j).length cap ∧ RowOf og 5 enc (xs.take i ++ xs.drop j) cap row')) := by
  have h1' := h1
  clear h1
  have hcm := hr.r.cm
  have hnc := hr.r.nc
  simp only [maxLen] at hcm
  refine enter (m := 33) Try.func54 rfl rfl rfl ?_; intro a F
  have H := Hp.start1 w0 0 og 154 row hg
  refine rg ?_
  refine st F H rfl rfl rfl (y_as rfl) ?_; (try clear F a); intro a F
  refine wpList_nil ?_
  refine rg ?_
  refine st F H rfl rfl rfl (y_mv rfl) ?_; (try clear F a); intro a F
  refine st F H rfl rfl rfl (y_mv rfl) ?_; (try clear F a); intro a F
  refine st F H rfl rfl rfl (y_mv rfl) ?_; (try clear F a); intro a F
  refine st F H rfl rfl rfl (y_mv rfl) ?_; (try clear F a); intro a F
  refine st F H rfl rfl rfl (y_len Try.underlying54 rfl) ?_; (try clear F a); intro a F
  refine st F H rfl rfl rfl (y_sl3 Try.underlying54 Try.sizeOf154 rfl rfl rfl rfl (by omega) (by omega) (by omega) (by omega)) ?_; (try clear F a); intro a F
  refine wpList_nil ?_
  refine wp_seq ?_
  refine rg ?_
  refine st F H rfl rfl rfl (y_mv rfl) ?_; (try clear F a); intro a F
  refine st F H rfl rfl rfl (y_mv rfl) ?_; (try clear F a); intro a F
  refine st F H rfl rfl rfl (y_eq rfl rfl) ?_; (try clear F a); intro a F
  refine wpList_nil ?_
  refine cn F rfl (fun h2 => ?_) (fun h2 => ?_)
  · have hh : i = j := by simp at h2; omega
    subst hh
    refine rg ?_
    refine st F H rfl rfl rfl (y_mv rfl) ?_; (try clear F a); intro a F
    refine st F H rfl rfl rfl (y_as rfl) ?_; (try clear F a); intro a F
    refine wpList_nil ?_
    refine wp_ret (th_r (ret1 F H rfl (rv rfl) ⟨_, rfl, H.b0, ?_⟩))
    have e1 : xs.take i ++ xs.drop i = xs := List.take_append_drop i xs
    rw [e1]
    exact ⟨row, fun g hg => H.cell (k := 0) rfl hg, rfl, hr⟩
  · have hh : i ≠ j := by simp at h2; omega
    obtain ⟨g, rfl⟩ : ∃ g, og = some g := by
      cases og with
      | none => have := hr.r.nil rfl; omega
      | some g => exact ⟨g, rfl⟩
    refine wp_skip ?_
    refine th_n ?_
    refine rg ?_
    refine st F H rfl rfl rfl (y_mv rfl) ?_; (try clear F a); intro a F
    refine st F H rfl rfl rfl (y_len Try.underlying54 rfl) ?_; (try clear F a); intro a F
    refine st F H rfl rfl rfl (y_as rfl) ?_; (try clear F a); intro a F
    refine wpList_nil ?_
    refine rgdH [0, 1, 2, 3, 4, 5, 6] [] [0] [0] H mixed ?_
    have H := H.old (Old.drew _)
    have HS := (H.rms [0])
    refine tk 0 F HS (by kernel_rfl) rfl rfl rfl .no (y_mv rfl) ?_; (try clear F a); intro a F
    refine tk 1 F HS (by kernel_rfl) rfl rfl rfl .no (y_mv rfl) ?_; (try clear F a); intro a F
    refine tk 2 F HS (by kernel_rfl) rfl rfl rfl .no (y_slHi Try.underlying54 Try.sizeOf154 rfl rfl (by omega) (by omega)) ?_; (try clear F a); intro a F
    refine tk 3 F HS (by kernel_rfl) rfl rfl rfl .no (y_mv rfl) ?_; (try clear F a); intro a F
    refine one' 4 (by kernel_rfl) rfl ?_
    refine st F H rfl rfl rfl (y_mv rfl) ?_; (try clear F a); intro a F
    have HS := (H.rms [0])
    refine wpList_nil ⟨⟨fun _ _ => HS, fun h => absurd h (by decide)⟩, ?_⟩
    refine one' 5 (by kernel_rfl) rfl ?_
    refine st F H rfl rfl rfl (y_slLo Try.underlying54 Try.sizeOf154 rfl rfl (by omega) (by omega)) ?_; (try clear F a); intro a F
    have HS := (H.rms [0])
    refine wpList_nil ⟨⟨fun _ _ => HS, fun h => absurd h (by decide)⟩, ?_⟩
    refine one' 6 (by kernel_rfl) rfl ?_
    have hat := ((Sl.ofRow (E := []) (xs := xs) hw (by simp) (H.cell (k := 0) rfl rfl) hnc hr.r.cm hr.t).drop j hj _ rfl).flatAt hw (by decide)
    refine s_appendRoom 0 F H rfl Try.underlying54 ti154 rfl rfl rfl hat (by rw [flat_length hw]; simp) (flat_one h1' _) (by omega) hr.r.len ?_; (try clear F H a); try clear w
    intro a w F H
    have HS := (H.rms [0])
    refine wpList_nil ⟨⟨fun _ _ => HS, fun h => absurd h (by decide)⟩, ?_⟩
    refine one' 7 (by kernel_rfl) rfl ?_
    refine st F H rfl rfl rfl (y_as rfl) ?_; (try clear F a); intro a F
    have HS := (H.rms [0])
    refine wpList_nil ⟨⟨fun h => absurd h (by decide), fun h => absurd h (by decide)⟩, ?_⟩
    refine dn (by kernel_rfl) ?_ _
    refine rg ?_
    refine st F H rfl rfl rfl (y_mv rfl) ?_; (try clear F a); intro a F
    refine st F H rfl rfl rfl (y_mv rfl) ?_; (try clear F a); intro a F
    refine st F H rfl rfl rfl (y_len Try.underlying54 rfl) ?_; (try clear F a); intro a F
    refine st F H rfl rfl rfl (y_mv rfl) ?_; (try clear F a); intro a F
    refine st F H rfl rfl rfl (y_slLH Try.underlying54 Try.sizeOf154 rfl rfl rfl (by omega) (by omega) (by omega)) ?_; (try clear F a); intro a F
    refine s_clear 0 (m := 5) (zs := [.int .i64 0, .int .i64 0, .int .i64 0, .int .i64 0, .slice none 0 0]) F H Try.underlying54 Try.zeroValue154 rfl rfl rfl rfl rfl (fun hpos => ?_) ?_
    · rw [putL_length, hr.r.len]; simp only [Int.toNat_natCast] at hpos ⊢; split <;> omega
    intro l a w hl F H
    refine wpList_nil ?_
    refine rg ?_
    refine st F H rfl rfl rfl (y_mv rfl) ?_; (try clear F a); intro a F
    refine st F H rfl rfl rfl (y_as rfl) ?_; (try clear F a); intro a F
    refine wpList_nil ?_
    refine wp_ret (ret1 F H rfl (rv rfl) ⟨_, rfl, H.b0, ?_⟩)
    have hx : (if cap = i + (xs.length - j) then 0 else 0 + (i + (xs.length - j)) * 5) = (i + (xs.length - j)) * 5 := by rw [if_neg (by omega)]; omega
    have hl2 : (xs.take i ++ xs.drop j).length = i + (xs.length - j) := by simp; omega
    have hl' : l.length = (xs.length - (i + (xs.length - j))) * 5 := by simpa only [Int.toNat_natCast] using hl
    refine ⟨_, fun g hg => H.cell (k := 0) rfl hg, by rw [hl2]; rfl, ?_⟩
    show RowOf (some g) 5 enc _ cap (putL (putL row (i * 5) (flat enc (xs.drop j))) (if cap = i + (xs.length - j) then 0 else 0 + (i + (xs.length - j)) * 5) l)
    rw [hx]
    exact hr.del hw hij hj hl'
theorem delete98_c {α : Type} {enc : α → List Value} {w0 : World} {og : Option Nat} {cap i j : Nat} {xs : List α} {row : List Value} (hw : Wid 5 enc) (h1 : ∀ x, one1 (enc x) = true) (hr : RowOf og 5 enc xs cap row) (hij : i ≤ j) (hj : j ≤ xs.length) (hg : ∀ g, og = some g → w0.heap[g]? = some (.cells row.toArray 47 (0, 0))) :
    CallsTo Try.prog 98 [.slice (adr og) xs.length cap, .int .i64 i, .int .i64 j] w0 og.toList (fun v w' => ∃ row', (∀ g, og = some g → w'.heap[g]? = some (.cells row'.toArray 47 (0, 0))) ∧ (v = .slice (adr og) (xs.take i ++ xs.drop j).length cap ∧ RowOf og 5 enc (xs.take i ++ xs.drop j) cap row')) := by
  have h1' := h1
  clear h1
  have hcm := hr.r.cm
  have hnc := hr.r.nc
  simp only [maxLen] at hcm
  refine enter (m := 33) Try.func98 rfl rfl rfl ?_; intro a F
  have H := Hp.start1 w0 0 og 47 row hg
  refine rg ?_
  refine st F H rfl rfl rfl (y_as rfl) ?_; (try clear F a); intro a F
  refine wpList_nil ?_
  refine rg ?_
  refine st F H rfl rfl rfl (y_mv rfl) ?_; (try clear F a); intro a F
  refine st F H rfl rfl rfl (y_mv rfl) ?_; (try clear F a); intro a F
  refine st F H rfl rfl rfl (y_mv rfl) ?_; (try clear F a); intro a F
  refine st F H rfl rfl rfl (y_mv rfl) ?_; (try clear F a); intro a F
  refine st F H rfl rfl rfl (y_len Try.underlying24 rfl) ?_; (try clear F a); intro a F
  refine st F H rfl rfl rfl (y_sl3 Try.underlying24 Try.sizeOf47 rfl rfl rfl rfl (by omega) (by omega) (by omega) (by omega)) ?_; (try clear F a); intro a F
  refine wpList_nil ?_
  refine wp_seq ?_
  refine rg ?_
  refine st F H rfl rfl rfl (y_mv rfl) ?_; (try clear F a); intro a F
  refine st F H rfl rfl rfl (y_mv rfl) ?_; (try clear F a); intro a F
  refine st F H rfl rfl rfl (y_eq rfl rfl) ?_; (try clear F a); intro a F
  refine wpList_nil ?_
  refine cn F rfl (fun h2 => ?_) (fun h2 => ?_)
  · have hh : i = j := by simp at h2; omega
    subst hh
    refine rg ?_
    refine st F H rfl rfl rfl (y_mv rfl) ?_; (try clear F a); intro a F
    refine st F H rfl rfl rfl (y_as rfl) ?_; (try clear F a); intro a F
    refine wpList_nil ?_
    refine wp_ret (th_r (ret1 F H rfl (rv rfl) ⟨_, rfl, H.b0, ?_⟩))
    have e1 : xs.take i ++ xs.drop i = xs := List.take_append_drop i xs
    rw [e1]
    exact ⟨row, fun g hg => H.cell (k := 0) rfl hg, rfl, hr⟩
  · have hh : i ≠ j := by simp at h2; omega
    obtain ⟨g, rfl⟩ : ∃ g, og = some g := by
      cases og with
      | none => have := hr.r.nil rfl; omega
      | some g => exact ⟨g, rfl⟩
    refine wp_skip ?_
    refine th_n ?_
    refine rg ?_
    refine st F H rfl rfl rfl (y_mv rfl) ?_; (try clear F a); intro a F
    refine st F H rfl rfl rfl (y_len Try.underlying24 rfl) ?_; (try clear F a); intro a F
    refine st F H rfl rfl rfl (y_as rfl) ?_; (try clear F a); intro a F
    refine wpList_nil ?_
    refine rgdH [0, 1, 2, 3, 4, 5, 6] [] [0] [0] H mixed ?_
    have H := H.old (Old.drew _)
    have HS := (H.rms [0])
    refine tk 0 F HS (by kernel_rfl) rfl rfl rfl .no (y_mv rfl) ?_; (try clear F a); intro a F
    refine tk 1 F HS (by kernel_rfl) rfl rfl rfl .no (y_mv rfl) ?_; (try clear F a); intro a F
    refine tk 2 F HS (by kernel_rfl) rfl rfl rfl .no (y_slHi Try.underlying24 Try.sizeOf47 rfl rfl (by omega) (by omega)) ?_; (try clear F a); intro a F
    refine tk 3 F HS (by kernel_rfl) rfl rfl rfl .no (y_mv rfl) ?_; (try clear F a); intro a F
    refine one' 4 (by kernel_rfl) rfl ?_
    refine st F H rfl rfl rfl (y_mv rfl) ?_; (try clear F a); intro a F
    have HS := (H.rms [0])
    refine wpList_nil ⟨⟨fun _ _ => HS, fun h => absurd h (by decide)⟩, ?_⟩
    refine one' 5 (by kernel_rfl) rfl ?_
    refine st F H rfl rfl rfl (y_slLo Try.underlying24 Try.sizeOf47 rfl rfl (by omega) (by omega)) ?_; (try clear F a); intro a F
    have HS := (H.rms [0])
    refine wpList_nil ⟨⟨fun _ _ => HS, fun h => absurd h (by decide)⟩, ?_⟩
    refine one' 6 (by kernel_rfl) rfl ?_
    have hat := ((Sl.ofRow (E := []) (xs := xs) hw (by simp) (H.cell (k := 0) rfl rfl) hnc hr.r.cm hr.t).drop j hj _ rfl).flatAt hw (by decide)
    refine s_appendRoom 0 F H rfl Try.underlying24 ti47 rfl rfl rfl hat (by rw [flat_length hw]; simp) (flat_one h1' _) (by omega) hr.r.len ?_; (try clear F H a); try clear w
    intro a w F H
    have HS := (H.rms [0])
    refine wpList_nil ⟨⟨fun _ _ => HS, fun h => absurd h (by decide)⟩, ?_⟩
    refine one' 7 (by kernel_rfl) rfl ?_
    refine st F H rfl rfl rfl (y_as rfl) ?_; (try clear F a); intro a F
    have HS := (H.rms [0])
    refine wpList_nil ⟨⟨fun h => absurd h (by decide), fun h => absurd h (by decide)⟩, ?_⟩
    refine dn (by kernel_rfl) ?_ _
    refine rg ?_
    refine st F H rfl rfl rfl (y_mv rfl) ?_; (try clear F a); intro a F
    refine st F H rfl rfl rfl (y_mv rfl) ?_; (try clear F a); intro a F
    refine st F H rfl rfl rfl (y_len Try.underlying24 rfl) ?_; (try clear F a); intro a F
    refine st F H rfl rfl rfl (y_mv rfl) ?_; (try clear F a); intro a F
    refine st F H rfl rfl rfl (y_slLH Try.underlying24 Try.sizeOf47 rfl rfl rfl (by omega) (by omega) (by omega)) ?_; (try clear F a); intro a F
    refine s_clear 0 (m := 5) (zs := [.int .i64 0, .int .i64 0, .int .i64 0, .int .i64 0, .int .u64 0]) F H Try.underlying24 Try.zeroValue47 rfl rfl rfl rfl rfl (fun hpos => ?_) ?_
    · rw [putL_length, hr.r.len]; simp only [Int.toNat_natCast] at hpos ⊢; split <;> omega
    intro l a w hl F H
    refine wpList_nil ?_
    refine rg ?_
    refine st F H rfl rfl rfl (y_mv rfl) ?_; (try clear F a); intro a F
    refine st F H rfl rfl rfl (y_as rfl) ?_; (try clear F a); intro a F
    refine wpList_nil ?_
    refine wp_ret (ret1 F H rfl (rv rfl) ⟨_, rfl, H.b0, ?_⟩)
    have hx : (if cap = i + (xs.length - j) then 0 else 0 + (i + (xs.length - j)) * 5) = (i + (xs.length - j)) * 5 := by rw [if_neg (by omega)]; omega
    have hl2 : (xs.take i ++ xs.drop j).length = i + (xs.length - j) := by simp; omega
    have hl' : l.length = (xs.length - (i + (xs.length - j))) * 5 := by simpa only [Int.toNat_natCast] using hl
    refine ⟨_, fun g hg => H.cell (k := 0) rfl hg, by rw [hl2]; rfl, ?_⟩
    show RowOf (some g) 5 enc _ cap (putL (putL row (i * 5) (flat enc (xs.drop j))) (if cap = i + (xs.length - j) then 0 else 0 + (i + (xs.length - j)) * 5) l)
    rw [hx]
    exact hr.del hw hij hj hl'
theorem clone107_c {α : Type} {enc : α → List Value} {E : List Nat} {w0 : World} {ad : Option Addr} {n cap : Nat} {xs : List α} (hw : Wid 1 enc) (h1 : ∀ x, one1 (enc x) = true) (hs : Sl E w0 1 enc ad n cap xs) (hb : n * 1 ≤ 140737488355328) :
    CallsTo Try.prog 107 [.slice ad n cap] w0 [] (Cloned w0 5 1 enc ad xs) := by
  have h1' := h1
  clear h1
  obtain rfl := hs.len
  refine enter (m := 8) Try.func107 rfl rfl rfl ?_; intro a F
  have H := Hp.start w0 []
  refine rg ?_
  refine st F H rfl rfl rfl (y_as rfl) ?_; (try clear F a); intro a F
  refine wpList_nil ?_
  refine wp_seq ?_
  refine rg ?_
  refine st F H rfl rfl rfl (y_mv rfl) ?_; (try clear F a); intro a F
  refine st F H rfl rfl rfl (y_eqlSliceNil Try.underlying129 rfl rfl) ?_; (try clear F a); intro a F
  refine wpList_nil ?_
  refine cn F rfl (fun h1 => ?_) (fun h1 => ?_)
  · refine rg ?_
    refine st F H rfl rfl rfl (y_as rfl) ?_; (try clear F a); intro a F
    refine wpList_nil ?_
    refine wp_ret (th_r (ret1 F H rfl (rv rfl) ⟨_, rfl, H.b0, ?_⟩))
    (try clear F H a)
    have h0 : ad = none := by cases ad <;> first | rfl | (simp at h1)
    subst h0
    obtain ⟨hn, hc⟩ := hs.nil rfl
    subst hc
    obtain rfl : xs = [] := List.eq_nil_of_length_eq_zero hn
    exact ⟨none, [], fun g h => (by cases h), 0, rfl, RowOf.nilOf _ _, fun _ => rfl⟩
  · obtain ⟨p, rfl⟩ : ∃ p, ad = some p := by cases ad with | none => simp at h1 | some p => exact ⟨p, rfl⟩
    obtain ⟨g, o, sp⟩ := p
    obtain rfl : sp = none := hs.spot _ rfl
    refine wp_skip ?_
    refine th_n ?_
    refine rg ?_
    refine s_bs 5 (pl := []) F H rfl Try.underlying129 Try.sizeOf5 Try.zeroValue5 rfl (cs0 := []) (by simp) .nil (by intro p hp; cases hp) rfl ?_; intro g5; (try clear F H a); try clear w
    intro a w F H
    refine st F H rfl rfl rfl (y_mv rfl) ?_; (try clear F a); intro a F
    refine s_append 5 (og := some g5) (N := 0) (cap := 0) (cs := []) (news := flat enc xs) F H rfl Try.underlying129 ti5 rfl rfl rfl rfl rfl ⟨Nat.le_refl _, Nat.zero_le _, rfl, fun h => (by cases h)⟩ ((hs.old H.b0.nil).flatAt hw (by decide)) (flat_length hw _) (flat_one h1' _) (by simpa using hb) (by simp; omega) ?_
    intro og cap' row a w hr ht hn hO F H
    refine st F H rfl rfl rfl (y_as rfl) ?_; (try clear F a); intro a F
    refine wpList_nil ?_
    refine wp_ret (ret1 F H rfl (rv rfl) ⟨_, rfl, H.b0, ?_⟩)
    simp only [Nat.zero_add] at *
    exact ⟨og, row, fun g hg => ⟨H.fresh (k := 5) rfl hg, H.cell (k := 5) rfl hg⟩, cap', rfl, ⟨hr, by simpa using ht⟩, fun h => (by cases h)⟩
theorem delete108_c {α : Type} {enc : α → List Value} {w0 : World} {og : Option Nat} {cap i j : Nat} {xs : List α} {row : List Value} (hw : Wid 4 enc) (h1 : ∀ x, one1 (enc x) = true) (hr : RowOf og 4 enc xs cap row) (hij : i ≤ j) (hj : j ≤ xs.length) (hg : ∀ g, og = some g → w0.heap[g]? = some (.cells row.toArray 131 (0, 0))) :
    CallsTo Try.prog 108 [.slice (adr og) xs.length cap, .int .i64 i, .int .i64 j] w0 og.toList (fun v w' => ∃ row', (∀ g, og = some g → w'.heap[g]? = some (.cells row'.toArray 131 (0, 0))) ∧ (v = .slice (adr og) (xs.take i ++ xs.drop j).length cap ∧ RowOf og 4 enc (xs.take i ++ xs.drop j) cap row')) := by
  have h1' := h1
  clear h1
  have hcm := hr.r.cm
  have hnc := hr.r.nc
  simp only [maxLen] at hcm
  refine enter (m := 33) Try.func108 rfl rfl rfl ?_; intro a F
  have H := Hp.start1 w0 0 og 131 row hg
  refine rg ?_
  refine st F H rfl rfl rfl (y_as rfl) ?_; (try clear F a); intro a F
  refine wpList_nil ?_
  refine rg ?_
  refine st F H rfl rfl rfl (y_mv rfl) ?_; (try clear F a); intro a F
  refine st F H rfl rfl rfl (y_mv rfl) ?_; (try clear F a); intro a F
  refine st F H rfl rfl rfl (y_mv rfl) ?_; (try clear F a); intro a F
  refine st F H rfl rfl rfl (y_mv rfl) ?_; (try clear F a); intro a F
  refine st F H rfl rfl rfl (y_len Try.underlying33 rfl) ?_; (try clear F a); intro a F
  refine st F H rfl rfl rfl (y_sl3 Try.underlying33 Try.sizeOf131 rfl rfl rfl rfl (by omega) (by omega) (by omega) (by omega)) ?_; (try clear F a); intro a F
  refine wpList_nil ?_
  refine wp_seq ?_
  refine rg ?_
  refine st F H rfl rfl rfl (y_mv rfl) ?_; (try clear F a); intro a F
  refine st F H rfl rfl rfl (y_mv rfl) ?_; (try clear F a); intro a F
  refine st F H rfl rfl rfl (y_eq rfl rfl) ?_; (try clear F a); intro a F
  refine wpList_nil ?_
  refine cn F rfl (fun h2 => ?_) (fun h2 => ?_)
  · have hh : i = j := by simp at h2; omega
    subst hh
    refine rg ?_
    refine st F H rfl rfl rfl (y_mv rfl) ?_; (try clear F a); intro a F
    refine st F H rfl rfl rfl (y_as rfl) ?_; (try clear F a); intro a F
    refine wpList_nil ?_
    refine wp_ret (th_r (ret1 F H rfl (rv rfl) ⟨_, rfl, H.b0, ?_⟩))
    have e1 : xs.take i ++ xs.drop i = xs := List.take_append_drop i xs
    rw [e1]
    exact ⟨row, fun g hg => H.cell (k := 0) rfl hg, rfl, hr⟩
  · have hh : i ≠ j := by simp at h2; omega
    obtain ⟨g, rfl⟩ : ∃ g, og = some g := by
      cases og with
      | none => have := hr.r.nil rfl; omega
      | some g => exact ⟨g, rfl⟩
    refine wp_skip ?_
    refine th_n ?_
    refine rg ?_
    refine st F H rfl rfl rfl (y_mv rfl) ?_; (try clear F a); intro a F
    refine st F H rfl rfl rfl (y_len Try.underlying33 rfl) ?_; (try clear F a); intro a F
    refine st F H rfl rfl rfl (y_as rfl) ?_; (try clear F a); intro a F
    refine wpList_nil ?_
    refine rgdH [0, 1, 2, 3, 4, 5, 6] [] [0] [0] H mixed ?_
    have H := H.old (Old.drew _)
    have HS := (H.rms [0])
    refine tk 0 F HS (by kernel_rfl) rfl rfl rfl .no (y_mv rfl) ?_; (try clear F a); intro a F
    refine tk 1 F HS (by kernel_rfl) rfl rfl rfl .no (y_mv rfl) ?_; (try clear F a); intro a F
    refine tk 2 F HS (by kernel_rfl) rfl rfl rfl .no (y_slHi Try.underlying33 Try.sizeOf131 rfl rfl (by omega) (by omega)) ?_; (try clear F a); intro a F
    refine tk 3 F HS (by kernel_rfl) rfl rfl rfl .no (y_mv rfl) ?_; (try clear F a); intro a F
    refine one' 4 (by kernel_rfl) rfl ?_
    refine st F H rfl rfl rfl (y_mv rfl) ?_; (try clear F a); intro a F
    have HS := (H.rms [0])
    refine wpList_nil ⟨⟨fun _ _ => HS, fun h => absurd h (by decide)⟩, ?_⟩
    refine one' 5 (by kernel_rfl) rfl ?_
    refine st F H rfl rfl rfl (y_slLo Try.underlying33 Try.sizeOf131 rfl rfl (by omega) (by omega)) ?_; (try clear F a); intro a F
    have HS := (H.rms [0])
    refine wpList_nil ⟨⟨fun _ _ => HS, fun h => absurd h (by decide)⟩, ?_⟩
    refine one' 6 (by kernel_rfl) rfl ?_
    have hat := ((Sl.ofRow (E := []) (xs := xs) hw (by simp) (H.cell (k := 0) rfl rfl) hnc hr.r.cm hr.t).drop j hj _ rfl).flatAt hw (by decide)
    refine s_appendRoom 0 F H rfl Try.underlying33 ti131 rfl rfl rfl hat (by rw [flat_length hw]; simp) (flat_one h1' _) (by omega) hr.r.len ?_; (try clear F H a); try clear w
    intro a w F H
    have HS := (H.rms [0])
    refine wpList_nil ⟨⟨fun _ _ => HS, fun h => absurd h (by decide)⟩, ?_⟩
    refine one' 7 (by kernel_rfl) rfl ?_
    refine st F H rfl rfl rfl (y_as rfl) ?_; (try clear F a); intro a F
    have HS := (H.rms [0])
    refine wpList_nil ⟨⟨fun h => absurd h (by decide), fun h => absurd h (by decide)⟩, ?_⟩
    refine dn (by kernel_rfl) ?_ _
    refine rg ?_
    refine st F H rfl rfl rfl (y_mv rfl) ?_; (try clear F a); intro a F
    refine st F H rfl rfl rfl (y_mv rfl) ?_; (try clear F a); intro a F
    refine st F H rfl rfl rfl (y_len Try.underlying33 rfl) ?_; (try clear F a); intro a F
    refine st F H rfl rfl rfl (y_mv rfl) ?_; (try clear F a); intro a F
    refine st F H rfl rfl rfl (y_slLH Try.underlying33 Try.sizeOf131 rfl rfl rfl (by omega) (by omega) (by omega)) ?_; (try clear F a); intro a F
    refine s_clear 0 (m := 4) (zs := [.int .u64 0, .int .i64 0, .int .i64 0, .slice none 0 0]) F H Try.underlying33 Try.zeroValue131 rfl rfl rfl rfl rfl (fun hpos => ?_) ?_
    · rw [putL_length, hr.r.len]; simp only [Int.toNat_natCast] at hpos ⊢; split <;> omega
    intro l a w hl F H
    refine wpList_nil ?_
    refine rg ?_
    refine st F H rfl rfl rfl (y_mv rfl) ?_; (try clear F a); intro a F
    refine st F H rfl rfl rfl (y_as rfl) ?_; (try clear F a); intro a F
    refine wpList_nil ?_
    refine wp_ret (ret1 F H rfl (rv rfl) ⟨_, rfl, H.b0, ?_⟩)
    have hx : (if cap = i + (xs.length - j) then 0 else 0 + (i + (xs.length - j)) * 4) = (i + (xs.length - j)) * 4 := by rw [if_neg (by omega)]; omega
    have hl2 : (xs.take i ++ xs.drop j).length = i + (xs.length - j) := by simp; omega
    have hl' : l.length = (xs.length - (i + (xs.length - j))) * 4 := by simpa only [Int.toNat_natCast] using hl
    refine ⟨_, fun g hg => H.cell (k := 0) rfl hg, by rw [hl2]; rfl, ?_⟩
    show RowOf (some g) 4 enc _ cap (putL (putL row (i * 4) (flat enc (xs.drop j))) (if cap = i + (xs.length - j) then 0 else 0 + (i + (xs.length - j)) * 4) l)
    rw [hx]
    exact hr.del hw hij hj hl'
theorem clone115_c {α : Type} {enc : α → List Value} {E : List Nat} {w0 : World} {ad : Option Addr} {n cap : Nat} {xs : List α} (hw : Wid 5 enc) (h1 : ∀ x, one1 (enc x) = true) (hs : Sl E w0 5 enc ad n cap xs) (hb : n * 56 ≤ 140737488355328) :
    CallsTo Try.prog 115 [.slice ad n cap] w0 [] (Cloned w0 154 5 enc ad xs) := by
  have h1' := h1
  clear h1
  obtain rfl := hs.len
  refine enter (m := 8) Try.func115 rfl rfl rfl ?_; intro a F
  have H := Hp.start w0 []
  refine rg ?_
  refine st F H rfl rfl rfl (y_as rfl) ?_; (try clear F a); intro a F
  refine wpList_nil ?_
  refine wp_seq ?_
  refine rg ?_
  refine st F H rfl rfl rfl (y_mv rfl) ?_; (try clear F a); intro a F
  refine st F H rfl rfl rfl (y_eqlSliceNil Try.underlying54 rfl rfl) ?_; (try clear F a); intro a F
  refine wpList_nil ?_
  refine cn F rfl (fun h1 => ?_) (fun h1 => ?_)
  · refine rg ?_
    refine st F H rfl rfl rfl (y_as rfl) ?_; (try clear F a); intro a F
    refine wpList_nil ?_
    refine wp_ret (th_r (ret1 F H rfl (rv rfl) ⟨_, rfl, H.b0, ?_⟩))
    (try clear F H a)
    have h0 : ad = none := by cases ad <;> first | rfl | (simp at h1)
    subst h0
    obtain ⟨hn, hc⟩ := hs.nil rfl
    subst hc
    obtain rfl : xs = [] := List.eq_nil_of_length_eq_zero hn
    exact ⟨none, [], fun g h => (by cases h), 0, rfl, RowOf.nilOf _ _, fun _ => rfl⟩
  · obtain ⟨p, rfl⟩ : ∃ p, ad = some p := by cases ad with | none => simp at h1 | some p => exact ⟨p, rfl⟩
    obtain ⟨g, o, sp⟩ := p
    obtain rfl : sp = none := hs.spot _ rfl
    refine wp_skip ?_
    refine th_n ?_
    refine rg ?_
    refine s_bs 5 (pl := []) F H rfl Try.underlying54 Try.sizeOf154 Try.zeroValue154 rfl (cs0 := []) (by simp) .nil (by intro p hp; cases hp) rfl ?_; intro g5; (try clear F H a); try clear w
    intro a w F H
    refine st F H rfl rfl rfl (y_mv rfl) ?_; (try clear F a); intro a F
    refine s_append 5 (og := some g5) (N := 0) (cap := 0) (cs := []) (news := flat enc xs) F H rfl Try.underlying54 ti154 rfl rfl rfl rfl rfl ⟨Nat.le_refl _, Nat.zero_le _, rfl, fun h => (by cases h)⟩ ((hs.old H.b0.nil).flatAt hw (by decide)) (flat_length hw _) (flat_one h1' _) (by simpa using hb) (by simp; omega) ?_
    intro og cap' row a w hr ht hn hO F H
    refine st F H rfl rfl rfl (y_as rfl) ?_; (try clear F a); intro a F
    refine wpList_nil ?_
    refine wp_ret (ret1 F H rfl (rv rfl) ⟨_, rfl, H.b0, ?_⟩)
    simp only [Nat.zero_add] at *
    exact ⟨og, row, fun g hg => ⟨H.fresh (k := 5) rfl hg, H.cell (k := 5) rfl hg⟩, cap', rfl, ⟨hr, by simpa using ht⟩, fun h => (by cases h)⟩
theorem clone116_c {α : Type} {enc : α → List Value} {E : List Nat} {w0 : World} {ad : Option Addr} {n cap : Nat} {xs : List α} (hw : Wid 3 enc) (h1 : ∀ x, one1 (enc x) = true) (hs : Sl E w0 3 enc ad n cap xs) (hb : n * 24 ≤ 140737488355328) :
    CallsTo Try.prog 116 [.slice ad n cap] w0 [] (Cloned w0 136 3 enc ad xs) := by
  have h1' := h1
  clear h1
  obtain rfl := hs.len
  refine enter (m := 8) Try.func116 rfl rfl rfl ?_; intro a F
  have H := Hp.start w0 []
  refine rg ?_
  refine st F H rfl rfl rfl (y_as rfl) ?_; (try clear F a); intro a F
  refine wpList_nil ?_
  refine wp_seq ?_
  refine rg ?_
  refine st F H rfl rfl rfl (y_mv rfl) ?_; (try clear F a); intro a F
  refine st F H rfl rfl rfl (y_eqlSliceNil Try.underlying55 rfl rfl) ?_; (try clear F a); intro a F
  refine wpList_nil ?_
  refine cn F rfl (fun h1 => ?_) (fun h1 => ?_)
  · refine rg ?_
    refine st F H rfl rfl rfl (y_as rfl) ?_; (try clear F a); intro a F
    refine wpList_nil ?_
    refine wp_ret (th_r (ret1 F H rfl (rv rfl) ⟨_, rfl, H.b0, ?_⟩))
    (try clear F H a)
    have h0 : ad = none := by cases ad <;> first | rfl | (simp at h1)
    subst h0
    obtain ⟨hn, hc⟩ := hs.nil rfl
    subst hc
    obtain rfl : xs = [] := List.eq_nil_of_length_eq_zero hn
    exact ⟨none, [], fun g h => (by cases h), 0, rfl, RowOf.nilOf _ _, fun _ => rfl⟩
  · obtain ⟨p, rfl⟩ : ∃ p, ad = some p := by cases ad with | none => simp at h1 | some p => exact ⟨p, rfl⟩
    obtain ⟨g, o, sp⟩ := p
    obtain rfl : sp = none := hs.spot _ rfl
    refine wp_skip ?_
    refine th_n ?_
    refine rg ?_
    refine s_bs 5 (pl := []) F H rfl Try.underlying55 Try.sizeOf136 Try.zeroValue136 rfl (cs0 := []) (by simp) .nil (by intro p hp; cases hp) rfl ?_; intro g5; (try clear F H a); try clear w
    intro a w F H
    refine st F H rfl rfl rfl (y_mv rfl) ?_; (try clear F a); intro a F
    refine s_append 5 (og := some g5) (N := 0) (cap := 0) (cs := []) (news := flat enc xs) F H rfl Try.underlying55 ti136 rfl rfl rfl rfl rfl ⟨Nat.le_refl _, Nat.zero_le _, rfl, fun h => (by cases h)⟩ ((hs.old H.b0.nil).flatAt hw (by decide)) (flat_length hw _) (flat_one h1' _) (by simpa using hb) (by simp; omega) ?_
    intro og cap' row a w hr ht hn hO F H
    refine st F H rfl rfl rfl (y_as rfl) ?_; (try clear F a); intro a F
    refine wpList_nil ?_
    refine wp_ret (ret1 F H rfl (rv rfl) ⟨_, rfl, H.b0, ?_⟩)
    simp only [Nat.zero_add] at *
    exact ⟨og, row, fun g hg => ⟨H.fresh (k := 5) rfl hg, H.cell (k := 5) rfl hg⟩, cap', rfl, ⟨hr, by simpa using ht⟩, fun h => (by cases h)⟩
theorem clone117_c {α : Type} {enc : α → List Value} {E : List Nat} {w0 : World} {ad : Option Addr} {n cap : Nat} {xs : List α} (hw : Wid 3 enc) (h1 : ∀ x, one1 (enc x) = true) (hs : Sl E w0 3 enc ad n cap xs) (hb : n * 24 ≤ 140737488355328) :
    CallsTo Try.prog 117 [.slice ad n cap] w0 [] (Cloned w0 45 3 enc ad xs) := by
  have h1' := h1
  clear h1
  obtain rfl := hs.len
  refine enter (m := 8) Try.func117 rfl rfl rfl ?_; intro a F
  have H := Hp.start w0 []
  refine rg ?_
  refine st F H rfl rfl rfl (y_as rfl) ?_; (try clear F a); intro a F
  refine wpList_nil ?_
  refine wp_seq ?_
  refine rg ?_
  refine st F H rfl rfl rfl (y_mv rfl) ?_; (try clear F a); intro a F
  refine st F H rfl rfl rfl (y_eqlSliceNil Try.underlying56 rfl rfl) ?_; (try clear F a); intro a F
  refine wpList_nil ?_
  refine cn F rfl (fun h1 => ?_) (fun h1 => ?_)
  · refine rg ?_
    refine st F H rfl rfl rfl (y_as rfl) ?_; (try clear F a); intro a F
    refine wpList_nil ?_
    refine wp_ret (th_r (ret1 F H rfl (rv rfl) ⟨_, rfl, H.b0, ?_⟩))
    (try clear F H a)
    have h0 : ad = none := by cases ad <;> first | rfl | (simp at h1)
    subst h0
    obtain ⟨hn, hc⟩ := hs.nil rfl
    subst hc
    obtain rfl : xs = [] := List.eq_nil_of_length_eq_zero hn
    exact ⟨none, [], fun g h => (by cases h), 0, rfl, RowOf.nilOf _ _, fun _ => rfl⟩
  · obtain ⟨p, rfl⟩ : ∃ p, ad = some p := by cases ad with | none => simp at h1 | some p => exact ⟨p, rfl⟩
    obtain ⟨g, o, sp⟩ := p
    obtain rfl : sp = none := hs.spot _ rfl
    refine wp_skip ?_
    refine th_n ?_
    refine rg ?_
    refine s_bs 5 (pl := []) F H rfl Try.underlying56 Try.sizeOf45 Try.zeroValue45 rfl (cs0 := []) (by simp) .nil (by intro p hp; cases hp) rfl ?_; intro g5; (try clear F H a); try clear w
    intro a w F H
    refine st F H rfl rfl rfl (y_mv rfl) ?_; (try clear F a); intro a F
    refine s_append 5 (og := some g5) (N := 0) (cap := 0) (cs := []) (news := flat enc xs) F H rfl Try.underlying56 ti45 rfl rfl rfl rfl rfl ⟨Nat.le_refl _, Nat.zero_le _, rfl, fun h => (by cases h)⟩ ((hs.old H.b0.nil).flatAt hw (by decide)) (flat_length hw _) (flat_one h1' _) (by simpa using hb) (by simp; omega) ?_
    intro og cap' row a w hr ht hn hO F H
    refine st F H rfl rfl rfl (y_as rfl) ?_; (try clear F a); intro a F
    refine wpList_nil ?_
    refine wp_ret (ret1 F H rfl (rv rfl) ⟨_, rfl, H.b0, ?_⟩)
    simp only [Nat.zero_add] at *
    exact ⟨og, row, fun g hg => ⟨H.fresh (k := 5) rfl hg, H.cell (k := 5) rfl hg⟩, cap', rfl, ⟨hr, by simpa using ht⟩, fun h => (by cases h)⟩
theorem delete162_c {α : Type} {enc : α → List Value} {w0 : World} {og : Option Nat} {cap i j : Nat} {xs : List α} {row : List Value} (hw : Wid 4 enc) (h1 : ∀ x, one1 (enc x) = true) (hr : RowOf og 4 enc xs cap row) (hij : i ≤ j) (hj : j ≤ xs.length) (hg : ∀ g, og = some g → w0.heap[g]? = some (.cells row.toArray 204 (0, 0))) :
    CallsTo Try.prog 162 [.slice (adr og) xs.length cap, .int .i64 i, .int .i64 j] w0 og.toList (fun v w' => ∃ row', (∀ g, og = some g → w'.heap[g]? = some (.cells row'.toArray 204 (0, 0))) ∧ (v = .slice (adr og) (xs.take i ++ xs.drop j).length cap ∧ RowOf og 4 enc (xs.take i ++ xs.drop j) cap row')) := by
  have h1' := h1
  clear h1
  have hcm := hr.r.cm
  have hnc := hr.r.nc
  simp only [maxLen] at hcm
  refine enter (m := 33) Try.func162 rfl rfl rfl ?_; intro a F
  have H := Hp.start1 w0 0 og 204 row hg
  refine rg ?_
  refine st F H rfl rfl rfl (y_as rfl) ?_; (try clear F a); intro a F
  refine wpList_nil ?_
  refine rg ?_
  refine st F H rfl rfl rfl (y_mv rfl) ?_; (try clear F a); intro a F
  refine st F H rfl rfl rfl (y_mv rfl) ?_; (try clear F a); intro a F
  refine st F H rfl rfl rfl (y_mv rfl) ?_; (try clear F a); intro a F
  refine st F H rfl rfl rfl (y_mv rfl) ?_; (try clear F a); intro a F
  refine st F H rfl rfl rfl (y_len Try.underlying87 rfl) ?_; (try clear F a); intro a F
  refine st F H rfl rfl rfl (y_sl3 Try.underlying87 Try.sizeOf204 rfl rfl rfl rfl (by omega) (by omega) (by omega) (by omega)) ?_; (try clear F a); intro a F
  refine wpList_nil ?_
  refine wp_seq ?_
  refine rg ?_
  refine st F H rfl rfl rfl (y_mv rfl) ?_; (try clear F a); intro a F
  refine st F H rfl rfl rfl (y_mv rfl) ?_; (try clear F a); intro a F
  refine st F H rfl rfl rfl (y_eq rfl rfl) ?_; (try clear F a); intro a F
  refine wpList_nil ?_
  refine cn F rfl (fun h2 => ?_) (fun h2 => ?_)
  · have hh : i = j := by simp at h2; omega
    subst hh
    refine rg ?_
    refine st F H rfl rfl rfl (y_mv rfl) ?_; (try clear F a); intro a F
    refine st F H rfl rfl rfl (y_as rfl) ?_; (try clear F a); intro a F
    refine wpList_nil ?_
    refine wp_ret (th_r (ret1 F H rfl (rv rfl) ⟨_, rfl, H.b0, ?_⟩))
    have e1 : xs.take i ++ xs.drop i = xs := List.take_append_drop i xs
    rw [e1]
    exact ⟨row, fun g hg => H.cell (k := 0) rfl hg, rfl, hr⟩
  · have hh : i ≠ j := by simp at h2; omega
    obtain ⟨g, rfl⟩ : ∃ g, og = some g := by
      cases og with
      | none => have := hr.r.nil rfl; omega
      | some g => exact ⟨g, rfl⟩
    refine wp_skip ?_
    refine th_n ?_
    refine rg ?_
    refine st F H rfl rfl rfl (y_mv rfl) ?_; (try clear F a); intro a F
    refine st F H rfl rfl rfl (y_len Try.underlying87 rfl) ?_; (try clear F a); intro a F
    refine st F H rfl rfl rfl (y_as rfl) ?_; (try clear F a); intro a F
    refine wpList_nil ?_
    refine rgdH [0, 1, 2, 3, 4, 5, 6] [] [0] [0] H mixed ?_
    have H := H.old (Old.drew _)
    have HS := (H.rms [0])
    refine tk 0 F HS (by kernel_rfl) rfl rfl rfl .no (y_mv rfl) ?_; (try clear F a); intro a F
    refine tk 1 F HS (by kernel_rfl) rfl rfl rfl .no (y_mv rfl) ?_; (try clear F a); intro a F
    refine tk 2 F HS (by kernel_rfl) rfl rfl rfl .no (y_slHi Try.underlying87 Try.sizeOf204 rfl rfl (by omega) (by omega)) ?_; (try clear F a); intro a F
    refine tk 3 F HS (by kernel_rfl) rfl rfl rfl .no (y_mv rfl) ?_; (try clear F a); intro a F
    refine one' 4 (by kernel_rfl) rfl ?_
    refine st F H rfl rfl rfl (y_mv rfl) ?_; (try clear F a); intro a F
    have HS := (H.rms [0])
    refine wpList_nil ⟨⟨fun _ _ => HS, fun h => absurd h (by decide)⟩, ?_⟩
    refine one' 5 (by kernel_rfl) rfl ?_
    refine st F H rfl rfl rfl (y_slLo Try.underlying87 Try.sizeOf204 rfl rfl (by omega) (by omega)) ?_; (try clear F a); intro a F
    have HS := (H.rms [0])
    refine wpList_nil ⟨⟨fun _ _ => HS, fun h => absurd h (by decide)⟩, ?_⟩
    refine one' 6 (by kernel_rfl) rfl ?_
    have hat := ((Sl.ofRow (E := []) (xs := xs) hw (by simp) (H.cell (k := 0) rfl rfl) hnc hr.r.cm hr.t).drop j hj _ rfl).flatAt hw (by decide)
    refine s_appendRoom 0 F H rfl Try.underlying87 ti204 rfl rfl rfl hat (by rw [flat_length hw]; simp) (flat_one h1' _) (by omega) hr.r.len ?_; (try clear F H a); try clear w
    intro a w F H
    have HS := (H.rms [0])
    refine wpList_nil ⟨⟨fun _ _ => HS, fun h => absurd h (by decide)⟩, ?_⟩
    refine one' 7 (by kernel_rfl) rfl ?_
    refine st F H rfl rfl rfl (y_as rfl) ?_; (try clear F a); intro a F
    have HS := (H.rms [0])
    refine wpList_nil ⟨⟨fun h => absurd h (by decide), fun h => absurd h (by decide)⟩, ?_⟩
    refine dn (by kernel_rfl) ?_ _
    refine rg ?_
    refine st F H rfl rfl rfl (y_mv rfl) ?_; (try clear F a); intro a F
    refine st F H rfl rfl rfl (y_mv rfl) ?_; (try clear F a); intro a F
    refine st F H rfl rfl rfl (y_len Try.underlying87 rfl) ?_; (try clear F a); intro a F
    refine st F H rfl rfl rfl (y_mv rfl) ?_; (try clear F a); intro a F
    refine st F H rfl rfl rfl (y_slLH Try.underlying87 Try.sizeOf204 rfl rfl rfl (by omega) (by omega) (by omega)) ?_; (try clear F a); intro a F
    refine s_clear 0 (m := 4) (zs := [.int .u64 0, .int .i64 0, .bool false, .slice none 0 0]) F H Try.underlying87 Try.zeroValue204 rfl rfl rfl rfl rfl (fun hpos => ?_) ?_
    · rw [putL_length, hr.r.len]; simp only [Int.toNat_natCast] at hpos ⊢; split <;> omega
    intro l a w hl F H
    refine wpList_nil ?_
    refine rg ?_
    refine st F H rfl rfl rfl (y_mv rfl) ?_; (try clear F a); intro a F
    refine st F H rfl rfl rfl (y_as rfl) ?_; (try clear F a); intro a F
    refine wpList_nil ?_
    refine wp_ret (ret1 F H rfl (rv rfl) ⟨_, rfl, H.b0, ?_⟩)
    have hx : (if cap = i + (xs.length - j) then 0 else 0 + (i + (xs.length - j)) * 4) = (i + (xs.length - j)) * 4 := by rw [if_neg (by omega)]; omega
    have hl2 : (xs.take i ++ xs.drop j).length = i + (xs.length - j) := by simp; omega
    have hl' : l.length = (xs.length - (i + (xs.length - j))) * 4 := by simpa only [Int.toNat_natCast] using hl
    refine ⟨_, fun g hg => H.cell (k := 0) rfl hg, by rw [hl2]; rfl, ?_⟩
    show RowOf (some g) 4 enc _ cap (putL (putL row (i * 4) (flat enc (xs.drop j))) (if cap = i + (xs.length - j) then 0 else 0 + (i + (xs.length - j)) * 4) l)
    rw [hx]
    exact hr.del hw hij hj hl'
theorem delete172_c {α : Type} {enc : α → List Value} {w0 : World} {og : Option Nat} {cap i j : Nat} {xs : List α} {row : List Value} (hw : Wid 3 enc) (h1 : ∀ x, one1 (enc x) = true) (hr : RowOf og 3 enc xs cap row) (hij : i ≤ j) (hj : j ≤ xs.length) (hg : ∀ g, og = some g → w0.heap[g]? = some (.cells row.toArray 206 (0, 0))) :
    CallsTo Try.prog 172 [.slice (adr og) xs.length cap, .int .i64 i, .int .i64 j] w0 og.toList (fun v w' => ∃ row', (∀ g, og = some g → w'.heap[g]? = some (.cells row'.toArray 206 (0, 0))) ∧ (v = .slice (adr og) (xs.take i ++ xs.drop j).length cap ∧ RowOf og 3 enc (xs.take i ++ xs.drop j) cap row')) := by
  have h1' := h1
  clear h1
  have hcm := hr.r.cm
  have hnc := hr.r.nc
  simp only [maxLen] at hcm
  refine enter (m := 33) Try.func172 rfl rfl rfl ?_; intro a F
  have H := Hp.start1 w0 0 og 206 row hg
  refine rg ?_
  refine st F H rfl rfl rfl (y_as rfl) ?_; (try clear F a); intro a F
  refine wpList_nil ?_
  refine rg ?_
  refine st F H rfl rfl rfl (y_mv rfl) ?_; (try clear F a); intro a F
  refine st F H rfl rfl rfl (y_mv rfl) ?_; (try clear F a); intro a F
  refine st F H rfl rfl rfl (y_mv rfl) ?_; (try clear F a); intro a F
  refine st F H rfl rfl rfl (y_mv rfl) ?_; (try clear F a); intro a F
  refine st F H rfl rfl rfl (y_len Try.underlying90 rfl) ?_; (try clear F a); intro a F
  refine st F H rfl rfl rfl (y_sl3 Try.underlying90 Try.sizeOf206 rfl rfl rfl rfl (by omega) (by omega) (by omega) (by omega)) ?_; (try clear F a); intro a F
  refine wpList_nil ?_
  refine wp_seq ?_
  refine rg ?_
  refine st F H rfl rfl rfl (y_mv rfl) ?_; (try clear F a); intro a F
  refine st F H rfl rfl rfl (y_mv rfl) ?_; (try clear F a); intro a F
  refine st F H rfl rfl rfl (y_eq rfl rfl) ?_; (try clear F a); intro a F
  refine wpList_nil ?_
  refine cn F rfl (fun h2 => ?_) (fun h2 => ?_)
  · have hh : i = j := by simp at h2; omega
    subst hh
    refine rg ?_
    refine st F H rfl rfl rfl (y_mv rfl) ?_; (try clear F a); intro a F
    refine st F H rfl rfl rfl (y_as rfl) ?_; (try clear F a); intro a F
    refine wpList_nil ?_
    refine wp_ret (th_r (ret1 F H rfl (rv rfl) ⟨_, rfl, H.b0, ?_⟩))
    have e1 : xs.take i ++ xs.drop i = xs := List.take_append_drop i xs
    rw [e1]
    exact ⟨row, fun g hg => H.cell (k := 0) rfl hg, rfl, hr⟩
  · have hh : i ≠ j := by simp at h2; omega
    obtain ⟨g, rfl⟩ : ∃ g, og = some g := by
      cases og with
      | none => have := hr.r.nil rfl; omega
      | some g => exact ⟨g, rfl⟩
    refine wp_skip ?_
    refine th_n ?_
    refine rg ?_
    refine st F H rfl rfl rfl (y_mv rfl) ?_; (try clear F a); intro a F
    refine st F H rfl rfl rfl (y_len Try.underlying90 rfl) ?_; (try clear F a); intro a F
    refine st F H rfl rfl rfl (y_as rfl) ?_; (try clear F a); intro a F
    refine wpList_nil ?_
    refine rgdH [0, 1, 2, 3, 4, 5, 6] [] [0] [0] H mixed ?_
    have H := H.old (Old.drew _)
    have HS := (H.rms [0])
    refine tk 0 F HS (by kernel_rfl) rfl rfl rfl .no (y_mv rfl) ?_; (try clear F a); intro a F
    refine tk 1 F HS (by kernel_rfl) rfl rfl rfl .no (y_mv rfl) ?_; (try clear F a); intro a F
    refine tk 2 F HS (by kernel_rfl) rfl rfl rfl .no (y_slHi Try.underlying90 Try.sizeOf206 rfl rfl (by omega) (by omega)) ?_; (try clear F a); intro a F
    refine tk 3 F HS (by kernel_rfl) rfl rfl rfl .no (y_mv rfl) ?_; (try clear F a); intro a F
    refine one' 4 (by kernel_rfl) rfl ?_
    refine st F H rfl rfl rfl (y_mv rfl) ?_; (try clear F a); intro a F
    have HS := (H.rms [0])
    refine wpList_nil ⟨⟨fun _ _ => HS, fun h => absurd h (by decide)⟩, ?_⟩
    refine one' 5 (by kernel_rfl) rfl ?_
    refine st F H rfl rfl rfl (y_slLo Try.underlying90 Try.sizeOf206 rfl rfl (by omega) (by omega)) ?_; (try clear F a); intro a F
    have HS := (H.rms [0])
    refine wpList_nil ⟨⟨fun _ _ => HS, fun h => absurd h (by decide)⟩, ?_⟩
    refine one' 6 (by kernel_rfl) rfl ?_
    have hat := ((Sl.ofRow (E := []) (xs := xs) hw (by simp) (H.cell (k := 0) rfl rfl) hnc hr.r.cm hr.t).drop j hj _ rfl).flatAt hw (by decide)
    refine s_appendRoom 0 F H rfl Try.underlying90 ti206 rfl rfl rfl hat (by rw [flat_length hw]; simp) (flat_one h1' _) (by omega) hr.r.len ?_; (try clear F H a); try clear w
    intro a w F H
    have HS := (H.rms [0])
    refine wpList_nil ⟨⟨fun _ _ => HS, fun h => absurd h (by decide)⟩, ?_⟩
    refine one' 7 (by kernel_rfl) rfl ?_
    refine st F H rfl rfl rfl (y_as rfl) ?_; (try clear F a); intro a F
    have HS := (H.rms [0])
    refine wpList_nil ⟨⟨fun h => absurd h (by decide), fun h => absurd h (by decide)⟩, ?_⟩
    refine dn (by kernel_rfl) ?_ _
    refine rg ?_
    refine st F H rfl rfl rfl (y_mv rfl) ?_; (try clear F a); intro a F
    refine st F H rfl rfl rfl (y_mv rfl) ?_; (try clear F a); intro a F
    refine st F H rfl rfl rfl (y_len Try.underlying90 rfl) ?_; (try clear F a); intro a F
    refine st F H rfl rfl rfl (y_mv rfl) ?_; (try clear F a); intro a F
    refine st F H rfl rfl rfl (y_slLH Try.underlying90 Try.sizeOf206 rfl rfl rfl (by omega) (by omega) (by omega)) ?_; (try clear F a); intro a F
    refine s_clear 0 (m := 3) (zs := [.int .i64 0, .int .i64 0, .bool false]) F H Try.underlying90 Try.zeroValue206 rfl rfl rfl rfl rfl (fun hpos => ?_) ?_
    · rw [putL_length, hr.r.len]; simp only [Int.toNat_natCast] at hpos ⊢; split <;> omega
    intro l a w hl F H
    refine wpList_nil ?_
    refine rg ?_
    refine st F H rfl rfl rfl (y_mv rfl) ?_; (try clear F a); intro a F
    refine st F H rfl rfl rfl (y_as rfl) ?_; (try clear F a); intro a F
    refine wpList_nil ?_
    refine wp_ret (ret1 F H rfl (rv rfl) ⟨_, rfl, H.b0, ?_⟩)
    have hx : (if cap = i + (xs.length - j) then 0 else 0 + (i + (xs.length - j)) * 3) = (i + (xs.length - j)) * 3 := by rw [if_neg (by omega)]; omega
    have hl2 : (xs.take i ++ xs.drop j).length = i + (xs.length - j) := by simp; omega
    have hl' : l.length = (xs.length - (i + (xs.length - j))) * 3 := by simpa only [Int.toNat_natCast] using hl
    refine ⟨_, fun g hg => H.cell (k := 0) rfl hg, by rw [hl2]; rfl, ?_⟩
    show RowOf (some g) 3 enc _ cap (putL (putL row (i * 3) (flat enc (xs.drop j))) (if cap = i + (xs.length - j) then 0 else 0 + (i + (xs.length - j)) * 3) l)
    rw [hx]
    exact hr.del hw hij hj hl'
theorem clone173_c {α : Type} {enc : α → List Value} {E : List Nat} {w0 : World} {ad : Option Addr} {n cap : Nat} {xs : List α} (hw : Wid 5 enc) (h1 : ∀ x, one1 (enc x) = true) (hs : Sl E w0 5 enc ad n cap xs) (hb : n * 40 ≤ 140737488355328) :
    CallsTo Try.prog 173 [.slice ad n cap] w0 [] (Cloned w0 47 5 enc ad xs) := by
  have h1' := h1
  clear h1
  obtain rfl := hs.len
  refine enter (m := 8) Try.func173 rfl rfl rfl ?_; intro a F
  have H := Hp.start w0 []
  refine rg ?_
  refine st F H rfl rfl rfl (y_as rfl) ?_; (try clear F a); intro a F
  refine wpList_nil ?_
  refine wp_seq ?_
  refine rg ?_
  refine st F H rfl rfl rfl (y_mv rfl) ?_; (try clear F a); intro a F
  refine st F H rfl rfl rfl (y_eqlSliceNil Try.underlying24 rfl rfl) ?_; (try clear F a); intro a F
  refine wpList_nil ?_
  refine cn F rfl (fun h1 => ?_) (fun h1 => ?_)
  · refine rg ?_
    refine st F H rfl rfl rfl (y_as rfl) ?_; (try clear F a); intro a F
    refine wpList_nil ?_
    refine wp_ret (th_r (ret1 F H rfl (rv rfl) ⟨_, rfl, H.b0, ?_⟩))
    (try clear F H a)
    have h0 : ad = none := by cases ad <;> first | rfl | (simp at h1)
    subst h0
    obtain ⟨hn, hc⟩ := hs.nil rfl
    subst hc
    obtain rfl : xs = [] := List.eq_nil_of_length_eq_zero hn
    exact ⟨none, [], fun g h => (by cases h), 0, rfl, RowOf.nilOf _ _, fun _ => rfl⟩
  · obtain ⟨p, rfl⟩ : ∃ p, ad = some p := by cases ad with | none => simp at h1 | some p => exact ⟨p, rfl⟩
    obtain ⟨g, o, sp⟩ := p
    obtain rfl : sp = none := hs.spot _ rfl
    refine wp_skip ?_
    refine th_n ?_
    refine rg ?_
    refine s_bs 5 (pl := []) F H rfl Try.underlying24 Try.sizeOf47 Try.zeroValue47 rfl (cs0 := []) (by simp) .nil (by intro p hp; cases hp) rfl ?_; intro g5; (try clear F H a); try clear w
    intro a w F H
    refine st F H rfl rfl rfl (y_mv rfl) ?_; (try clear F a); intro a F
    refine s_append 5 (og := some g5) (N := 0) (cap := 0) (cs := []) (news := flat enc xs) F H rfl Try.underlying24 ti47 rfl rfl rfl rfl rfl ⟨Nat.le_refl _, Nat.zero_le _, rfl, fun h => (by cases h)⟩ ((hs.old H.b0.nil).flatAt hw (by decide)) (flat_length hw _) (flat_one h1' _) (by simpa using hb) (by simp; omega) ?_
    intro og cap' row a w hr ht hn hO F H
    refine st F H rfl rfl rfl (y_as rfl) ?_; (try clear F a); intro a F
    refine wpList_nil ?_
    refine wp_ret (ret1 F H rfl (rv rfl) ⟨_, rfl, H.b0, ?_⟩)
    simp only [Nat.zero_add] at *
    exact ⟨og, row, fun g hg => ⟨H.fresh (k := 5) rfl hg, H.cell (k := 5) rfl hg⟩, cap', rfl, ⟨hr, by simpa using ht⟩, fun h => (by cases h)⟩
theorem clone178_c {α : Type} {enc : α → List Value} {E : List Nat} {w0 : World} {ad : Option Addr} {n cap : Nat} {xs : List α} (hw : Wid 4 enc) (h1 : ∀ x, one1 (enc x) = true) (hs : Sl E w0 4 enc ad n cap xs) (hb : n * 48 ≤ 140737488355328) :
    CallsTo Try.prog 178 [.slice ad n cap] w0 [] (Cloned w0 131 4 enc ad xs) := by
  have h1' := h1
  clear h1
  obtain rfl := hs.len
  refine enter (m := 8) Try.func178 rfl rfl rfl ?_; intro a F
  have H := Hp.start w0 []
  refine rg ?_
  refine st F H rfl rfl rfl (y_as rfl) ?_; (try clear F a); intro a F
  refine wpList_nil ?_
  refine wp_seq ?_
  refine rg ?_
  refine st F H rfl rfl rfl (y_mv rfl) ?_; (try clear F a); intro a F
  refine st F H rfl rfl rfl (y_eqlSliceNil Try.underlying33 rfl rfl) ?_; (try clear F a); intro a F
  refine wpList_nil ?_
  refine cn F rfl (fun h1 => ?_) (fun h1 => ?_)
  · refine rg ?_
    refine st F H rfl rfl rfl (y_as rfl) ?_; (try clear F a); intro a F
    refine wpList_nil ?_
    refine wp_ret (th_r (ret1 F H rfl (rv rfl) ⟨_, rfl, H.b0, ?_⟩))
    (try clear F H a)
    have h0 : ad = none := by cases ad <;> first | rfl | (simp at h1)
    subst h0
    obtain ⟨hn, hc⟩ := hs.nil rfl
    subst hc
    obtain rfl : xs = [] := List.eq_nil_of_length_eq_zero hn
    exact ⟨none, [], fun g h => (by cases h), 0, rfl, RowOf.nilOf _ _, fun _ => rfl⟩
  · obtain ⟨p, rfl⟩ : ∃ p, ad = some p := by cases ad with | none => simp at h1 | some p => exact ⟨p, rfl⟩
    obtain ⟨g, o, sp⟩ := p
    obtain rfl : sp = none := hs.spot _ rfl
    refine wp_skip ?_
    refine th_n ?_
    refine rg ?_
    refine s_bs 5 (pl := []) F H rfl Try.underlying33 Try.sizeOf131 Try.zeroValue131 rfl (cs0 := []) (by simp) .nil (by intro p hp; cases hp) rfl ?_; intro g5; (try clear F H a); try clear w
    intro a w F H
    refine st F H rfl rfl rfl (y_mv rfl) ?_; (try clear F a); intro a F
    refine s_append 5 (og := some g5) (N := 0) (cap := 0) (cs := []) (news := flat enc xs) F H rfl Try.underlying33 ti131 rfl rfl rfl rfl rfl ⟨Nat.le_refl _, Nat.zero_le _, rfl, fun h => (by cases h)⟩ ((hs.old H.b0.nil).flatAt hw (by decide)) (flat_length hw _) (flat_one h1' _) (by simpa using hb) (by simp; omega) ?_
    intro og cap' row a w hr ht hn hO F H
    refine st F H rfl rfl rfl (y_as rfl) ?_; (try clear F a); intro a F
    refine wpList_nil ?_
    refine wp_ret (ret1 F H rfl (rv rfl) ⟨_, rfl, H.b0, ?_⟩)
    simp only [Nat.zero_add] at *
    exact ⟨og, row, fun g hg => ⟨H.fresh (k := 5) rfl hg, H.cell (k := 5) rfl hg⟩, cap', rfl, ⟨hr, by simpa using ht⟩, fun h => (by cases h)⟩
theorem clone191_c {α : Type} {enc : α → List Value} {E : List Nat} {w0 : World} {ad : Option Addr} {n cap : Nat} {xs : List α} (hw : Wid 4 enc) (h1 : ∀ x, one1 (enc x) = true) (hs : Sl E w0 4 enc ad n cap xs) (hb : n * 48 ≤ 140737488355328) :
    CallsTo Try.prog 191 [.slice ad n cap] w0 [] (Cloned w0 204 4 enc ad xs) := by
  have h1' := h1
  clear h1
  obtain rfl := hs.len
  refine enter (m := 8) Try.func191 rfl rfl rfl ?_; intro a F
  have H := Hp.start w0 []
  refine rg ?_
  refine st F H rfl rfl rfl (y_as rfl) ?_; (try clear F a); intro a F
  refine wpList_nil ?_
  refine wp_seq ?_
  refine rg ?_
  refine st F H rfl rfl rfl (y_mv rfl) ?_; (try clear F a); intro a F
  refine st F H rfl rfl rfl (y_eqlSliceNil Try.underlying87 rfl rfl) ?_; (try clear F a); intro a F
  refine wpList_nil ?_
  refine cn F rfl (fun h1 => ?_) (fun h1 => ?_)
  · refine rg ?_
    refine st F H rfl rfl rfl (y_as rfl) ?_; (try clear F a); intro a F
    refine wpList_nil ?_
    refine wp_ret (th_r (ret1 F H rfl (rv rfl) ⟨_, rfl, H.b0, ?_⟩))
    (try clear F H a)
    have h0 : ad = none := by cases ad <;> first | rfl | (simp at h1)
    subst h0
    obtain ⟨hn, hc⟩ := hs.nil rfl
    subst hc
    obtain rfl : xs = [] := List.eq_nil_of_length_eq_zero hn
    exact ⟨none, [], fun g h => (by cases h), 0, rfl, RowOf.nilOf _ _, fun _ => rfl⟩
  · obtain ⟨p, rfl⟩ : ∃ p, ad = some p := by cases ad with | none => simp at h1 | some p => exact ⟨p, rfl⟩
    obtain ⟨g, o, sp⟩ := p
    obtain rfl : sp = none := hs.spot _ rfl
    refine wp_skip ?_
    refine th_n ?_
    refine rg ?_
    refine s_bs 5 (pl := []) F H rfl Try.underlying87 Try.sizeOf204 Try.zeroValue204 rfl (cs0 := []) (by simp) .nil (by intro p hp; cases hp) rfl ?_; intro g5; (try clear F H a); try clear w
    intro a w F H
    refine st F H rfl rfl rfl (y_mv rfl) ?_; (try clear F a); intro a F
    refine s_append 5 (og := some g5) (N := 0) (cap := 0) (cs := []) (news := flat enc xs) F H rfl Try.underlying87 ti204 rfl rfl rfl rfl rfl ⟨Nat.le_refl _, Nat.zero_le _, rfl, fun h => (by cases h)⟩ ((hs.old H.b0.nil).flatAt hw (by decide)) (flat_length hw _) (flat_one h1' _) (by simpa using hb) (by simp; omega) ?_
    intro og cap' row a w hr ht hn hO F H
    refine st F H rfl rfl rfl (y_as rfl) ?_; (try clear F a); intro a F
    refine wpList_nil ?_
    refine wp_ret (ret1 F H rfl (rv rfl) ⟨_, rfl, H.b0, ?_⟩)
    simp only [Nat.zero_add] at *
    exact ⟨og, row, fun g hg => ⟨H.fresh (k := 5) rfl hg, H.cell (k := 5) rfl hg⟩, cap', rfl, ⟨hr, by simpa using ht⟩, fun h => (by cases h)⟩
theorem clone192_c {α : Type} {enc : α → List Value} {E : List Nat} {w0 : World} {ad : Option Addr} {n cap : Nat} {xs : List α} (hw : Wid 2 enc) (h1 : ∀ x, one1 (enc x) = true) (hs : Sl E w0 2 enc ad n cap xs) (hb : n * 32 ≤ 140737488355328) :
    CallsTo Try.prog 192 [.slice ad n cap] w0 [] (Cloned w0 176 2 enc ad xs) := by
  have h1' := h1
  clear h1
  obtain rfl := hs.len
  refine enter (m := 8) Try.func192 rfl rfl rfl ?_; intro a F
  have H := Hp.start w0 []
  refine rg ?_
  refine st F H rfl rfl rfl (y_as rfl) ?_; (try clear F a); intro a F
  refine wpList_nil ?_
  refine wp_seq ?_
  refine rg ?_
  refine st F H rfl rfl rfl (y_mv rfl) ?_; (try clear F a); intro a F
  refine st F H rfl rfl rfl (y_eqlSliceNil Try.underlying103 rfl rfl) ?_; (try clear F a); intro a F
  refine wpList_nil ?_
  refine cn F rfl (fun h1 => ?_) (fun h1 => ?_)
  · refine rg ?_
    refine st F H rfl rfl rfl (y_as rfl) ?_; (try clear F a); intro a F
    refine wpList_nil ?_
    refine wp_ret (th_r (ret1 F H rfl (rv rfl) ⟨_, rfl, H.b0, ?_⟩))
    (try clear F H a)
    have h0 : ad = none := by cases ad <;> first | rfl | (simp at h1)
    subst h0
    obtain ⟨hn, hc⟩ := hs.nil rfl
    subst hc
    obtain rfl : xs = [] := List.eq_nil_of_length_eq_zero hn
    exact ⟨none, [], fun g h => (by cases h), 0, rfl, RowOf.nilOf _ _, fun _ => rfl⟩
  · obtain ⟨p, rfl⟩ : ∃ p, ad = some p := by cases ad with | none => simp at h1 | some p => exact ⟨p, rfl⟩
    obtain ⟨g, o, sp⟩ := p
    obtain rfl : sp = none := hs.spot _ rfl
    refine wp_skip ?_
    refine th_n ?_
    refine rg ?_
    refine s_bs 5 (pl := []) F H rfl Try.underlying103 Try.sizeOf176 Try.zeroValue176 rfl (cs0 := []) (by simp) .nil (by intro p hp; cases hp) rfl ?_; intro g5; (try clear F H a); try clear w
    intro a w F H
    refine st F H rfl rfl rfl (y_mv rfl) ?_; (try clear F a); intro a F
    refine s_append 5 (og := some g5) (N := 0) (cap := 0) (cs := []) (news := flat enc xs) F H rfl Try.underlying103 ti176 rfl rfl rfl rfl rfl ⟨Nat.le_refl _, Nat.zero_le _, rfl, fun h => (by cases h)⟩ ((hs.old H.b0.nil).flatAt hw (by decide)) (flat_length hw _) (flat_one h1' _) (by simpa using hb) (by simp; omega) ?_
    intro og cap' row a w hr ht hn hO F H
    refine st F H rfl rfl rfl (y_as rfl) ?_; (try clear F a); intro a F
    refine wpList_nil ?_
    refine wp_ret (ret1 F H rfl (rv rfl) ⟨_, rfl, H.b0, ?_⟩)
    simp only [Nat.zero_add] at *
    exact ⟨og, row, fun g hg => ⟨H.fresh (k := 5) rfl hg, H.cell (k := 5) rfl hg⟩, cap', rfl, ⟨hr, by simpa using ht⟩, fun h => (by cases h)⟩
theorem clone198_c {α : Type} {enc : α → List Value} {E : List Nat} {w0 : World} {ad : Option Addr} {n cap : Nat} {xs : List α} (hw : Wid 3 enc) (h1 : ∀ x, one1 (enc x) = true) (hs : Sl E w0 3 enc ad n cap xs) (hb : n * 24 ≤ 140737488355328) :
    CallsTo Try.prog 198 [.slice ad n cap] w0 [] (Cloned w0 206 3 enc ad xs) := by
  have h1' := h1
  clear h1
  obtain rfl := hs.len
  refine enter (m := 8) Try.func198 rfl rfl rfl ?_; intro a F
  have H := Hp.start w0 []
  refine rg ?_
  refine st F H rfl rfl rfl (y_as rfl) ?_; (try clear F a); intro a F
  refine wpList_nil ?_
  refine wp_seq ?_
  refine rg ?_
  refine st F H rfl rfl rfl (y_mv rfl) ?_; (try clear F a); intro a F
  refine st F H rfl rfl rfl (y_eqlSliceNil Try.underlying90 rfl rfl) ?_; (try clear F a); intro a F
  refine wpList_nil ?_
  refine cn F rfl (fun h1 => ?_) (fun h1 => ?_)
  · refine rg ?_
    refine st F H rfl rfl rfl (y_as rfl) ?_; (try clear F a); intro a F
    refine wpList_nil ?_
    refine wp_ret (th_r (ret1 F H rfl (rv rfl) ⟨_, rfl, H.b0, ?_⟩))
    (try clear F H a)
    have h0 : ad = none := by cases ad <;> first | rfl | (simp at h1)
    subst h0
    obtain ⟨hn, hc⟩ := hs.nil rfl
    subst hc
    obtain rfl : xs = [] := List.eq_nil_of_length_eq_zero hn
    exact ⟨none, [], fun g h => (by cases h), 0, rfl, RowOf.nilOf _ _, fun _ => rfl⟩
  · obtain ⟨p, rfl⟩ : ∃ p, ad = some p := by cases ad with | none => simp at h1 | some p => exact ⟨p, rfl⟩
    obtain ⟨g, o, sp⟩ := p
    obtain rfl : sp = none := hs.spot _ rfl
    refine wp_skip ?_
    refine th_n ?_
    refine rg ?_
    refine s_bs 5 (pl := []) F H rfl Try.underlying90 Try.sizeOf206 Try.zeroValue206 rfl (cs0 := []) (by simp) .nil (by intro p hp; cases hp) rfl ?_; intro g5; (try clear F H a); try clear w
    intro a w F H
    refine st F H rfl rfl rfl (y_mv rfl) ?_; (try clear F a); intro a F
    refine s_append 5 (og := some g5) (N := 0) (cap := 0) (cs := []) (news := flat enc xs) F H rfl Try.underlying90 ti206 rfl rfl rfl rfl rfl ⟨Nat.le_refl _, Nat.zero_le _, rfl, fun h => (by cases h)⟩ ((hs.old H.b0.nil).flatAt hw (by decide)) (flat_length hw _) (flat_one h1' _) (by simpa using hb) (by simp; omega) ?_
    intro og cap' row a w hr ht hn hO F H
    refine st F H rfl rfl rfl (y_as rfl) ?_; (try clear F a); intro a F
    refine wpList_nil ?_
    refine wp_ret (ret1 F H rfl (rv rfl) ⟨_, rfl, H.b0, ?_⟩)
    simp only [Nat.zero_add] at *
    exact ⟨og, row, fun g hg => ⟨H.fresh (k := 5) rfl hg, H.cell (k := 5) rfl hg⟩, cap', rfl, ⟨hr, by simpa using ht⟩, fun h => (by cases h)⟩
end Go.Proofs.Ytilakloilkkfmaa
