/-
  A slice that reads as a list: each element as so many cells.
-/
import Derived.Test.YtilakloilkkfmaaSxMore
namespace Go.Sx
open Go
/-- the slice (ad, n, cap) reads as xs, out of blocks that are not of E -/
structure Sl {α : Type} (E : List Nat) (w : World) (size : Nat) (enc : α → List Value) (ad : Option Addr) (n cap : Nat) (xs : List α) : Prop where
  len : n = xs.length
  nc : n ≤ cap
  cm : cap ≤ maxLen
  nil : ad = none → n = 0 ∧ cap = 0
  spot : ∀ a, ad = some a → a.spot = none
  out : ∀ a, ad = some a → 0 < n → a.block ∉ E
  cells : ∀ a, ad = some a → ∀ i x, xs[i]? = some x → At w a.block (a.off + i * size) (enc x)
/-- every element has so many cells -/
def Wid {α : Type} (size : Nat) (enc : α → List Value) : Prop := ∀ x, (enc x).length = size
section
variable {g o : Nat} {α : Type} {E E' : List Nat} {w w' : World} {size n cap : Nat} {enc : α → List Value} {ad : Option Addr} {xs : List α}
theorem At.old {g o : Nat} {vs : List Value} (h : At w g o vs) (hold : Old E w w') (hg : vs ≠ [] → g ∉ E) : At w' g o vs := by
  intro j v hv
  have hc := h j v hv
  have hne : vs ≠ [] := by rintro rfl; simp at hv
  have hb : g < w.heap.size := World.block_lt_of_cell? w _ hc
  rw [World.cell?_of_block (w := w) (hold.bl g hb (hg hne))]
  exact hc
theorem Sl.old (h : Sl E w size enc ad n cap xs) (hold : Old E w w') : Sl E w' size enc ad n cap xs :=
  ⟨h.len, h.nc, h.cm, h.nil, h.spot, h.out, fun a ha i x hx => (h.cells a ha i x hx).old hold (fun _ => h.out a ha (by rw [h.len]; have := (List.getElem?_eq_some_iff.1 hx).1; omega))⟩
theorem Sl.nilOf (E : List Nat) (w : World) (size : Nat) (enc : α → List Value) : Sl E w size enc none 0 0 [] :=
  ⟨rfl, Nat.le_refl _, Nat.zero_le _, fun _ => ⟨rfl, rfl⟩, fun _ h => (by cases h), fun _ h => (by cases h), fun _ h => (by cases h)⟩
/-- fewer blocks are shut out -/
theorem Sl.less (h : Sl E w size enc ad n cap xs) (hE : ∀ k ∈ E', k ∈ E) : Sl E' w size enc ad n cap xs :=
  ⟨h.len, h.nc, h.cm, h.nil, h.spot, fun a ha hn hm => h.out a ha hn (hE _ hm), h.cells⟩
/-- more blocks are shut out: such as did not lie in w -/
theorem Sl.more (h : Sl E w size enc ad n cap xs) (hw : Wid size enc) (hs : 0 < size) (hE : ∀ k ∈ E', k ∈ E ∨ w.heap.size ≤ k) : Sl E' w size enc ad n cap xs :=
  ⟨h.len, h.nc, h.cm, h.nil, h.spot, fun a ha hn hm => by
    rcases hE _ hm with hk | hk
    · exact h.out a ha hn hk
    · have hx : xs[0]? = some (xs[0]'(by rw [← h.len]; exact hn)) := List.getElem?_eq_getElem _
      have hl := hw (xs[0]'(by rw [← h.len]; exact hn))
      have hc := h.cells a ha 0 _ hx 0 _ (List.getElem?_eq_getElem (by omega))
      have := World.block_lt_of_cell? w _ hc
      simp at this
      omega, h.cells⟩
theorem Sl.addr (h : Sl E w size enc ad n cap xs) (hn : 0 < n) : ∃ g o, ad = some ⟨g, o, none⟩ ∧ g ∉ E := by
  cases ad with
  | none => have := h.nil rfl; omega
  | some a =>
    obtain ⟨g, o, s⟩ := a
    have := h.spot _ rfl
    simp only at this
    subst this
    exact ⟨g, o, rfl, h.out _ rfl hn⟩
theorem Sl.at (h : Sl E w size enc (some ⟨g, o, none⟩) n cap xs) {i : Nat} {x : α} (hx : xs[i]? = some x) : At w g (o + i * size) (enc x) := h.cells _ rfl i x hx
/-- the first of it -/
theorem Sl.take (h : Sl E w size enc ad n cap xs) (k : Nat) (hk : k ≤ n) : Sl E w size enc ad k cap (xs.take k) :=
  ⟨by rw [List.length_take, ← h.len]; omega, Nat.le_trans hk h.nc, h.cm, fun ha => by have := h.nil ha; omega, h.spot, fun a ha hn => h.out a ha (by omega), fun a ha i x hx => h.cells a ha i x (by
    rw [List.getElem?_take] at hx; split at hx
    · exact hx
    · cases hx)⟩
/-- what is behind the k-th -/
theorem Sl.drop (h : Sl E w size enc (some ⟨g, o, none⟩) n cap xs) (k : Nat) (hk : k ≤ n) (p : Nat) (hp : p = (if cap = k then o else o + k * size)) : Sl E w size enc (some ⟨g, p, none⟩) (n - k) (cap - k) (xs.drop k) := by
  have hc := h.nc
  have hcm := h.cm
  refine ⟨by rw [List.length_drop, ← h.len], by omega, by omega, fun ha => (by cases ha), fun a ha => ?_, fun a ha hn => ?_, fun a ha i x hx => ?_⟩
  · cases ha; rfl
  · cases ha; exact h.out ⟨g, o, none⟩ rfl (by omega)
  · cases ha
    rw [List.getElem?_drop] at hx
    have hlt := (List.getElem?_eq_some_iff.1 hx).1
    have hl := h.len
    rw [hp, if_neg (by omega)]
    have := h.cells _ rfl (k + i) x hx
    simp only [Nat.add_mul] at this
    simp only
    rw [show o + k * size + i * size = o + (k * size + i * size) by omega]
    exact this
/-- all the cells of a row of elements -/
def flat (enc : α → List Value) (xs : List α) : List Value := xs.flatMap enc
theorem flat_length (hw : Wid size enc) : ∀ xs : List α, (flat enc xs).length = xs.length * size
  | [] => by simp [flat]
  | x :: r => by
    have := flat_length hw r
    simp only [flat] at this ⊢
    rw [List.flatMap_cons, List.length_append, this, hw x, List.length_cons, Nat.add_mul]
    omega
theorem flat_append (xs ys : List α) : flat enc (xs ++ ys) = flat enc xs ++ flat enc ys := List.flatMap_append
theorem flat_at (hw : Wid size enc) {xs : List α} {i : Nat} {x : α} (hx : xs[i]? = some x) (j : Nat) (hj : j < size) : (flat enc xs)[i * size + j]? = (enc x)[j]? := by
  induction xs generalizing i with
  | nil => simp at hx
  | cons y r ih =>
    simp only [flat, List.flatMap_cons]
    cases i with
    | zero =>
      simp only [List.getElem?_cons_zero, Option.some.injEq] at hx
      subst hx
      simp only [Nat.zero_mul, Nat.zero_add]
      rw [List.getElem?_append_left (by rw [hw]; exact hj)]
    | succ i =>
      simp only [List.getElem?_cons_succ] at hx
      rw [List.getElem?_append_right (by rw [hw, Nat.add_mul]; omega), hw]
      rw [show (i + 1) * size + j - size = i * size + j by rw [Nat.add_mul]; omega]
      exact ih hx
/-- the cells of a readable slice, all together -/
theorem Sl.flatAt (h : Sl E w size enc (some ⟨g, o, none⟩) n cap xs) (hw : Wid size enc) (hs : 0 < size) : At w g o (flat enc xs) := by
  intro j v hv
  have hlt := (List.getElem?_eq_some_iff.1 hv).1
  rw [flat_length hw] at hlt
  have hi : j / size < xs.length := (Nat.div_lt_iff_lt_mul hs).2 hlt
  have hx : xs[j / size]? = some xs[j / size] := List.getElem?_eq_getElem hi
  have hj : j % size < size := Nat.mod_lt _ hs
  have e : j / size * size + j % size = j := by rw [Nat.mul_comm]; exact Nat.div_add_mod j size
  have h1 := flat_at hw hx (j % size) hj
  rw [e, hv] at h1
  have := h.at hx (j % size) v h1.symm
  rw [show o + j / size * size + j % size = o + j by omega] at this
  exact this
/-- a row of one's own, or of whoever's, read as a list -/
theorem Sl.ofRow {g : Nat} {t : TypeId} {cs : List Value} {fz : Nat × Nat} (hw : Wid size enc) (hg : g ∉ E) (hh : w.heap[g]? = some (.cells cs.toArray t fz)) (hn : xs.length ≤ cap) (hc : cap ≤ maxLen)
    (hcs : cs.take (xs.length * size) = flat enc xs) : Sl E w size enc (some ⟨g, 0, none⟩) xs.length cap xs :=
  ⟨rfl, hn, hc, fun h => (by cases h), fun a ha => by cases ha; rfl, fun a ha _ => by cases ha; exact hg, fun a ha i x hx j v hv => by
    cases ha
    rw [cell_of_blk hh]
    have hj : j < size := by rw [← hw x]; exact (List.getElem?_eq_some_iff.1 hv).1
    have hi := (List.getElem?_eq_some_iff.1 hx).1
    have h1 := flat_at hw hx j hj
    rw [← hcs, List.getElem?_take, if_pos (by
      have : (i + 1) * size ≤ xs.length * size := Nat.mul_le_mul_right _ hi
      rw [Nat.add_mul] at this; omega)] at h1
    simp only [Nat.zero_add]
    rw [h1]; exact hv⟩
end
/-- a row of one's own, that reads as xs -/
structure RowOf {α : Type} (og : Option Nat) (size : Nat) (enc : α → List Value) (xs : List α) (cap : Nat) (row : List Value) : Prop where
  r : Row og size xs.length cap row
  t : row.take (xs.length * size) = flat enc xs
theorem RowOf.sl {α : Type} {E : List Nat} {w : World} {size cap : Nat} {enc : α → List Value} {xs : List α} {og : Option Nat} {row : List Value} {t : TypeId} (h : RowOf og size enc xs cap row) (hw : Wid size enc)
    (hh : ∀ g, og = some g → w.heap[g]? = some (.cells row.toArray t (0, 0))) (hE : ∀ g, og = some g → g ∉ E) : Sl E w size enc (adr og) xs.length cap xs := by
  cases og with
  | none =>
    have h0 := h.r.nil rfl
    have h1 := h.r.nc
    subst h0
    have h2 : xs = [] := List.eq_nil_of_length_eq_zero (by omega)
    subst h2
    exact Sl.nilOf E w size enc
  | some g => exact Sl.ofRow hw (hE g rfl) (hh g rfl) h.r.nc h.r.cm h.t
theorem RowOf.push {α : Type} {size cap cap' : Nat} {enc : α → List Value} {xs ys : List α} {og og' : Option Nat} {row row' : List Value} (h : RowOf og size enc xs cap row)
    (hr : Row og' size (xs.length + ys.length) cap' row') (ht : row'.take ((xs.length + ys.length) * size) = row.take (xs.length * size) ++ flat enc ys) : RowOf og' size enc (xs ++ ys) cap' row' :=
  ⟨by rw [List.length_append]; exact hr, by rw [List.length_append, ht, h.t, flat_append]⟩
theorem RowOf.nilOf {α : Type} (size : Nat) (enc : α → List Value) : RowOf none size enc ([] : List α) 0 [] := ⟨⟨Nat.le_refl _, Nat.zero_le _, by simp, fun _ => rfl⟩, by simp [flat]⟩
theorem flat_take {α : Type} {size : Nat} {enc : α → List Value} (hw : Wid size enc) (xs : List α) (k : Nat) : (flat enc xs).take (k * size) = flat enc (xs.take k) := by
  induction xs generalizing k with
  | nil => simp [flat]
  | cons x r ih =>
    cases k with
    | zero => simp [flat]
    | succ k =>
      have := ih k
      simp only [flat, List.flatMap_cons, List.take_succ_cons] at this ⊢
      rw [List.take_append, hw, List.take_of_length_le (by rw [hw, Nat.add_mul]; omega), show (k + 1) * size - size = k * size by rw [Nat.add_mul]; omega, this]
theorem flat_drop {α : Type} {size : Nat} {enc : α → List Value} (hw : Wid size enc) (xs : List α) (k : Nat) : (flat enc xs).drop (k * size) = flat enc (xs.drop k) := by
  induction xs generalizing k with
  | nil => simp [flat]
  | cons x r ih =>
    cases k with
    | zero => simp [flat]
    | succ k =>
      have := ih k
      simp only [flat, List.flatMap_cons, List.drop_succ_cons] at this ⊢
      rw [List.drop_append, hw, List.drop_of_length_le (by rw [hw, Nat.add_mul]; omega), show (k + 1) * size - size = k * size by rw [Nat.add_mul]; omega, this, List.nil_append]
theorem RowOf.isSome {α : Type} {size cap : Nat} {enc : α → List Value} {xs : List α} {og : Option Nat} {row : List Value} (h : RowOf og size enc xs cap row) (hn : 0 < xs.length) : ∃ g, og = some g := by
  cases og with
  | none => have := h.r.nil rfl; have := h.r.nc; omega
  | some g => exact ⟨g, rfl⟩
theorem flat_set {α : Type} {size : Nat} {enc : α → List Value} (hw : Wid size enc) {off : Nat} {v : Value} (ho : off < size) {x y : α} (hy : enc y = (enc x).set off v) : ∀ (xs : List α) (k : Nat), xs[k]? = some x → flat enc (xs.set k y) = (flat enc xs).set (k * size + off) v
  | [], k, h => by simp at h
  | z :: r, 0, h => by
    simp only [List.getElem?_cons_zero, Option.some.injEq] at h
    subst h
    simp only [flat, List.set_cons_zero, List.flatMap_cons, Nat.zero_mul, Nat.zero_add]
    rw [List.set_append_left _ _ (by rw [hw]; exact ho), hy]
  | z :: r, k + 1, h => by
    simp only [List.getElem?_cons_succ] at h
    have ih := flat_set hw ho hy r k h
    simp only [flat, List.set_cons_succ, List.flatMap_cons] at ih ⊢
    rw [List.set_append_right _ _ (by rw [hw, Nat.add_mul]; omega), hw, ih]
    congr 2
    rw [Nat.add_mul]; omega
theorem RowOf.put {α : Type} {size cap : Nat} {enc : α → List Value} {xs : List α} {og : Option Nat} {row : List Value} (h : RowOf og size enc xs cap row) (hw : Wid size enc) {off k : Nat} {v : Value} {x : α} (y : α) (hx : xs[k]? = some x) (hy : enc y = (enc x).set off v) (ho : off < size) :
    RowOf og size enc (xs.set k y) cap (putL row (0 + k * size + off) [v]) := by
  have hk := (List.getElem?_eq_some_iff.1 hx).1
  have hnc := h.r.nc
  have e : putL row (0 + k * size + off) [v] = row.set (k * size + off) v := by simp [putL, put1_eq]
  have hb : k * size + off < xs.length * size := by have : (k + 1) * size ≤ xs.length * size := Nat.mul_le_mul_right _ hk; rw [Nat.add_mul] at this; omega
  refine ⟨⟨by rw [List.length_set]; exact hnc, h.r.cm, by rw [putL_length]; exact h.r.len, h.r.nil⟩, ?_⟩
  rw [e, List.length_set, List.take_set, h.t, flat_set hw ho hy xs k hx]
/-- the row behind a Delete in place -/
theorem RowOf.del {α : Type} {size cap i j : Nat} {enc : α → List Value} {xs : List α} {og : Option Nat} {row l : List Value} (hw : Wid size enc) (h : RowOf og size enc xs cap row) (hij : i ≤ j) (hj : j ≤ xs.length)
    (hl : l.length = (xs.length - (i + (xs.length - j))) * size) :
    RowOf og size enc (xs.take i ++ xs.drop j) cap (putL (putL row (i * size) (flat enc (xs.drop j))) ((i + (xs.length - j)) * size) l) := by
  have hn := h.r.nc
  have hlen := h.r.len
  have h1 : i * size + (xs.length - j) * size ≤ cap * size := by rw [← Nat.add_mul]; exact Nat.mul_le_mul_right _ (by omega)
  have h2 : (xs.take i ++ xs.drop j).length = i + (xs.length - j) := by simp; omega
  have h3 : (flat enc (xs.drop j)).length = (xs.length - j) * size := by rw [flat_length hw]; simp
  refine ⟨⟨by rw [h2]; omega, h.r.cm, by rw [putL_length, putL_length, hlen], h.r.nil⟩, ?_⟩
  rw [h2, putL_eq l _ _ (by rw [putL_length, hlen, hl, ← Nat.add_mul]; exact Nat.mul_le_mul_right _ (by omega))]
  rw [List.append_assoc, List.take_append_of_le_length (by rw [List.length_take, putL_length, hlen]; simp only [Nat.add_mul]; omega), List.take_take, Nat.min_self]
  rw [putL_eq _ _ _ (by rw [h3, hlen]; omega), h3, List.take_append_of_le_length (by rw [List.length_append, List.length_take, hlen, h3, Nat.add_mul]; omega)]
  rw [List.take_of_length_le (by rw [List.length_append, List.length_take, hlen, h3, Nat.add_mul]; omega), flat_append]
  congr 1
  rw [← flat_take hw, ← h.t, List.take_take, Nat.min_eq_left (Nat.mul_le_mul_right _ (by omega))]
section
variable {cells : List Cel} {bs : List Base} {w W : World}
/-- the blocks of the cells -/
def blks (cells : List Cel) : List Nat := cells.filterMap Cel.g
theorem mem_blks {k : Nat} : k ∈ blks cells ↔ ∃ c ∈ cells, c.g = some k := List.mem_filterMap
theorem Hp.atW (H : Hp cells bs W) : Hp cells (bs ++ [⟨blks cells, W⟩]) W := H.base _ fun c hc g hg => mem_blks.2 ⟨c, hc, hg⟩
/-- fewer bases -/
theorem Hp.initB {b0 : Base} (H : Hp cells (bs ++ [b0]) w) : Hp cells bs w := H.bases fun b hb => List.mem_append_left _ hb

theorem Hp.ne {c d : Cel} {g : Nat} (H : Hp (c :: cells) bs w) (hc : c.g = some g) (hd : d ∈ cells) : d.g ≠ some g := nd_ne H.nd hc hd
end
section
variable {α : Type} {cells X : List Cel} {bs : List Base} {w w1 : World} {size n cap : Nat} {enc : α → List Value} {ad : Option Addr} {xs : List α}
theorem Hp.blkR (H : Hp cells bs w) : ∀ k ∈ blks cells, k ∈ List.range w.heap.size := by
  intro k hk
  obtain ⟨c, hc, hg⟩ := mem_blks.1 hk
  have := H.lt hc hg
  simpa using this
/-- what was readable at a base is readable now, out of blocks that are none of the cells' -/
theorem Sl.carry (h : Sl (blks X) w1 size enc ad n cap xs) (hw : Wid size enc) (hs : 0 < size) (H : Hp cells bs w) (hb : ⟨blks X, w1⟩ ∈ bs) : Sl (blks cells) w size enc ad n cap xs := by
  have hB := H.bo _ hb
  have h1 : Sl (blks X ++ blks cells) w1 size enc ad n cap xs := h.more hw hs fun k hk => by
    rcases List.mem_append.1 hk with hk | hk
    · exact .inl hk
    · obtain ⟨c, hc, hg⟩ := mem_blks.1 hk
      exact hB.2 c hc k hg
  exact (h1.old (hB.1.more fun k hk => List.mem_append_left _ hk)).less fun k hk => List.mem_append_right _ hk
/-- cells by their keys, in an order of one's own -/
def sel (ks : List Nat) (cells : List Cel) : List Cel := ks.filterMap (getC cells)
/-- other cells in their stead, behind a call that turned them -/
theorem Hp.through {new : List Cel} {w' : World} (H : Hp cells bs w) (hn : Hp new [⟨blks cells, w⟩] w') : Hp new bs w' := by
  have hb := hn.bo _ (List.mem_cons_self ..)
  refine ⟨hn.hp, hn.nd, fun b hbm => ?_⟩
  obtain ⟨h1, h2⟩ := H.bo b hbm
  refine ⟨⟨hb.1.os.trans h1.os, hb.1.tape.trans h1.tape, hb.1.out.trans h1.out, Nat.le_trans h1.sz hb.1.sz, fun k hk hE => ?_⟩, fun c hc g hg => ?_⟩
  · have hne : k ∉ blks cells := fun hm => by
      obtain ⟨c, hc, hg⟩ := mem_blks.1 hm
      rcases h2 c hc k hg with h | h
      · exact hE h
      · omega
    exact (hb.1.bl k (Nat.lt_of_lt_of_le hk h1.sz) hne).trans (h1.bl k hk hE)
  · rcases hb.2 c hc g hg with h | h
    · obtain ⟨d, hd, hdg⟩ := mem_blks.1 h
      exact h2 d hd g hdg
    · exact .inr (Nat.le_trans h1.sz h)
theorem Hp.only (H : Hp cells bs w) : Hp cells [] w := ⟨H.hp, H.nd, fun _ h => by cases h⟩
theorem Hp.to {c' : List Cel} (H : Hp cells bs w) (e : cells = c') : Hp c' bs w := e ▸ H
theorem getC_k {cells : List Cel} {k : Nat} {c : Cel} (h : getC cells k = some c) : c.k = k := by
  induction cells with
  | nil => cases h
  | cons d r ih =>
    unfold getC at h
    cases hb : Nat.beq d.k k <;> rw [hb] at h
    · exact ih h
    · cases h; exact Nat.eq_of_beq_eq_true hb
theorem nd_inj : ∀ {l : List Cel} {a b : Cel} {g : Nat}, (l.filterMap Cel.g).Nodup → a ∈ l → b ∈ l → a.g = some g → b.g = some g → a = b
  | [], _, _, _, _, h, _, _, _ => by cases h
  | c :: r, a, b, g, hn, ha, hb, hga, hgb => by
    rcases List.mem_cons.1 ha with rfl | ha'
    · rcases List.mem_cons.1 hb with rfl | hb'
      · rfl
      · exact absurd hgb (nd_ne hn hga hb')
    · rcases List.mem_cons.1 hb with rfl | hb'
      · exact absurd hga (nd_ne hn hgb ha')
      · exact nd_inj (nd_tail hn) ha' hb' hga hgb
theorem Hp.sel (H : Hp cells bs w) (ks : List Nat) (hk : ks.Nodup) : Hp (Sx.sel ks cells) bs w := by
  have hm : ∀ c ∈ Sx.sel ks cells, c ∈ cells := fun c hc => by
    obtain ⟨k, _, h⟩ := List.mem_filterMap.1 hc
    exact getC_mem h
  refine ⟨fun c hc => H.hp c (hm c hc), ?_, fun b hb => ⟨(H.bo b hb).1, fun c hc => (H.bo b hb).2 c (hm c hc)⟩⟩
  induction ks with
  | nil => simp [Sx.sel]
  | cons k r ih =>
    have hr := ih (List.nodup_cons.1 hk).2 (fun c hc => hm c (by
      obtain ⟨k', hk', h⟩ := List.mem_filterMap.1 hc
      exact List.mem_filterMap.2 ⟨k', List.mem_cons_of_mem _ hk', h⟩))
    unfold Sx.sel at hr ⊢
    rw [List.filterMap_cons]
    cases hc : getC cells k with
    | none => exact hr
    | some c =>
      rw [List.filterMap_cons]
      cases hg : c.g with
      | none => exact hr
      | some g =>
        simp only [List.nodup_cons]
        refine ⟨fun hin => ?_, hr⟩
        obtain ⟨d, hd, hdg⟩ := List.mem_filterMap.1 hin
        obtain ⟨k', hk', hd'⟩ := List.mem_filterMap.1 hd
        have : c = d := nd_inj H.nd (getC_mem hc) (getC_mem hd') hg hdg
        subst this
        have e : k = k' := by rw [← getC_k hc, getC_k hd']
        subst e
        exact (List.nodup_cons.1 hk).1 hk'
end
/-! numbers that fit -/
theorem wi64 {x : Int} (h : -9223372036854775808 ≤ x ∧ x ≤ 9223372036854775807) : IntKind.i64.wrap x = x := by rw [IntKind.wrap_i64]; omega
theorem wu64 {x : Int} (h : 0 ≤ x ∧ x ≤ 18446744073709551615) : IntKind.u64.wrap x = x := by
  have : IntKind.u64.wrap x = x % 18446744073709551616 := rfl
  omega
theorem wu32 {x : Int} (h : 0 ≤ x ∧ x ≤ 4294967295) : IntKind.u32.wrap x = x := by
  have : IntKind.u32.wrap x = x % 4294967296 := rfl
  omega
theorem wu8 {x : Int} (h : 0 ≤ x ∧ x ≤ 255) : IntKind.u8.wrap x = x := by
  have : IntKind.u8.wrap x = x % 256 := rfl
  omega
theorem wk {k : Nat} (h : k < 9223372036854775807) : IntKind.i64.wrap ((k : Int) + 1) = ((k + 1 : Nat) : Int) := by rw [wi64 (by omega)]; omega
section
variable {P : Program} {n : Nat} {ds : List Deferred} {ρ : Rho} {cells : List Cel} {bs : List Base}
variable {dst : Option Nat} {ty : TypeId} {pos : String} {aft : Array Edge} {gd : Option (Nat × Bool)}
/-- an element's address -/
theorem y_ix {x y : Operand} {k : IntKind} {s e : TypeId} {ad : Option Addr} {g o len cap m : Nat} {i : Int} (hs : P.underlying s = some (.slice e)) (hz : ∀ w, (sizeOf e).run P w = .ok m w)
    (hx : ev ρ x = some (.slice ad len cap)) (hy : ev ρ y = some (.int k i)) (had : ad = some ⟨g, o, none⟩) (j : Nat) (hi : i = (j : Int)) (hj : j < len) :
    Y P ⟨dst, .indexAddr s x y, ty, pos, aft, gd⟩ n ds ρ cells bs (.pointer (some ⟨g, o + j * m, none⟩)) := by
  subst had
  subst hi
  have := y_ia (dst := dst) (ty := ty) (pos := pos) (aft := aft) (gd := gd) (n := n) (ds := ds) (cells := cells) (bs := bs) hs hz hx hy (by omega) (by omega)
  simpa using this
end
end Go.Sx
