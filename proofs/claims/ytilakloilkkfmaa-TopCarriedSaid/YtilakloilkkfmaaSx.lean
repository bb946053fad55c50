/-
  A small engine for proofs over the model's code: facts about a frame (Fr) and about the heap (Hp), one lemma an operation.
-/
import Derived.WalkKit
import Derived.OrdersHeld
import Derived.LaidEql
namespace Go.Sx
open Go

abbrev Rho := List (Nat × Value)
/-- what is known of a temporary -/
def get : Rho → Nat → Option Value
  | [], _ => none
  | (j, v) :: r, i => bif Nat.beq j i then some v else get r i
def ev (ρ : Rho) : Operand → Option Value
  | .tmp t => get ρ t
  | .const v => some v
  | .global g => some (.pointer (some ⟨g, 0, none⟩))
  | .func f => some (.func (.func f) #[] #[])
structure Fr (n : Nat) (ds : List Deferred) (ρ : Rho) (a : Act) : Prop where
  df : a.defers = ds
  sz : a.tmps.size = n
  fr : ∀ i v, get ρ i = some v → a.tmps[i]? = some v

structure Cel where
  k : Nat
  /-- the block; none: there is none (a nil slice's row) -/
  g : Option Nat
  t : TypeId
  cs : List Value
structure Base where
  E : List Nat
  w : World
/-- what lay in w lies in w', but for the blocks of E -/
structure Old (E : List Nat) (w w' : World) : Prop where
  os : w'.os = w.os
  tape : w'.tape = w.tape
  out : w'.output = w.output
  sz : w.heap.size ≤ w'.heap.size
  bl : ∀ k, k < w.heap.size → k ∉ E → w'.heap[k]? = w.heap[k]?
structure Hp (cells : List Cel) (bs : List Base) (w : World) : Prop where
  hp : ∀ c ∈ cells, ∀ g, c.g = some g → w.heap[g]? = some (.cells c.cs.toArray c.t (0, 0))
  nd : (cells.filterMap Cel.g).Nodup
  bo : ∀ b ∈ bs, Old b.E b.w w ∧ ∀ c ∈ cells, ∀ g, c.g = some g → g ∈ b.E ∨ b.w.heap.size ≤ g

def getC : List Cel → Nat → Option Cel
  | [], _ => none
  | c :: r, k => bif Nat.beq c.k k then some c else getC r k
def setC : List Cel → Nat → List Value → List Cel
  | [], _, _ => []
  | c :: r, k, cs => bif Nat.beq c.k k then { c with cs := cs } :: r else c :: setC r k cs
def nth : List Value → Nat → Option Value
  | [], _ => none
  | v :: _, 0 => some v
  | _ :: r, i + 1 => nth r i
def slc (cs : List Value) : Nat → Nat → List Value
  | _, 0 => []
  | o, n + 1 => (nth cs o).getD undef :: slc cs (o + 1) n
def put1 : List Value → Nat → Value → List Value
  | [], _, _ => []
  | _ :: r, 0, v => v :: r
  | c :: r, i + 1, v => c :: put1 r i v
/-- values laid from an offset on -/
def putL (cs : List Value) (o : Nat) : List Value → List Value
  | [] => cs
  | v :: r => putL (put1 cs o v) (o + 1) r

theorem nth_eq (l : List Value) (i : Nat) : nth l i = l[i]? := by
  induction l generalizing i with
  | nil => simp [nth]
  | cons v r ih => cases i <;> simp [nth, ih]
theorem put1_eq (l : List Value) (i : Nat) (v : Value) : put1 l i v = l.set i v := by
  induction l generalizing i with
  | nil => simp [put1]
  | cons c r ih => cases i <;> simp [put1, ih]
theorem slc_eq (l : List Value) (n o : Nat) (h : o + n ≤ l.length) : slc l o n = (l.drop o).take n := by
  induction n generalizing o with
  | zero => simp [slc]
  | succ n ih =>
    rw [slc, ih (o + 1) (by omega), nth_eq, List.drop_eq_getElem_cons (by omega : o < l.length), List.take_succ_cons, List.getElem?_eq_getElem (by omega)]
    rfl
theorem slc_length (l : List Value) (n o : Nat) : (slc l o n).length = n := by
  induction n generalizing o with
  | zero => rfl
  | succ n ih => simp [slc, ih]

theorem getC_mem {cells : List Cel} {k : Nat} {c : Cel} (h : getC cells k = some c) : c ∈ cells := by
  induction cells with
  | nil => cases h
  | cons d r ih =>
    unfold getC at h
    cases hb : Nat.beq d.k k <;> rw [hb] at h
    · exact List.mem_cons_of_mem _ (ih h)
    · cases h; exact List.mem_cons_self ..

section frame
variable {n : Nat} {ds : List Deferred} {ρ ρ' : Rho} {a : Act}
theorem Fr.ev (F : Fr n ds ρ a) {x : Operand} {v : Value} (h : ev ρ x = some v) : a.eval x = v := by
  cases x with
  | tmp t =>
    have := F.fr t v h
    simp [Act.eval, this]
  | const u => exact Option.some.inj h
  | global g => exact Option.some.inj h
  | func f => exact Option.some.inj h
theorem Fr.put (F : Fr n ds ρ a) {d : Nat} (hd : Nat.blt d n = true) (v : Value) : Fr n ds ((d, v) :: ρ) (a.put (some d) v) := by
  refine ⟨by simpa [Act.put] using F.df, by simpa [Act.put] using F.sz, ?_⟩
  intro i u h
  have hd' : d < n := by simpa [Nat.blt_eq] using hd
  unfold Sx.get at h
  cases hb : Nat.beq d i <;> rw [hb] at h
  · have hne : d ≠ i := by intro e; subst e; simp at hb
    have := F.fr i u h
    simp [Act.put, hne, this]
  · have he : d = i := Nat.eq_of_beq_eq_true hb
    subst he
    simp only [cond_true, Option.some.injEq] at h
    subst h
    simp [Act.put, F.sz, hd']
theorem Fr.putN (F : Fr n ds ρ a) (v : Value) : Fr n ds ρ (a.put none v) := F
/-- ρ' holds of ρ, entry by entry -/
def AllGet : Rho → Rho → Prop
  | [], _ => True
  | (i, v) :: r, ρ => get ρ i = some v ∧ AllGet r ρ
theorem AllGet.get {r ρ : Rho} (h : AllGet r ρ) : ∀ i v, Sx.get r i = some v → Sx.get ρ i = some v := by
  induction r with
  | nil => intro i v hv; cases hv
  | cons p r ih =>
    intro i v hv
    unfold Sx.get at hv
    cases hb : Nat.beq p.1 i <;> rw [hb] at hv
    · exact ih h.2 i v hv
    · have he : p.1 = i := Nat.eq_of_beq_eq_true hb
      simp only [cond_true, Option.some.injEq] at hv
      rw [← he, ← hv]; exact h.1
theorem Fr.cut (F : Fr n ds ρ a) (h : AllGet ρ' ρ) : Fr n ds ρ' a := ⟨F.df, F.sz, fun i v hv => F.fr i v (h.get i v hv)⟩
/-- a new frame -/
theorem Fr.new {l : List Value} {m : Nat} (h : ∀ i v, Sx.get ρ i = some v → l[i]? = some v) :
    Fr (l.length + m) [] ρ { tmps := l.toArray ++ Array.replicate m undef, defers := [] } := by
  refine ⟨rfl, by simp, fun i v hv => ?_⟩
  have := h i v hv
  have hi : i < l.length := (List.getElem?_eq_some_iff.1 this).1
  simp only [Array.getElem?_append, List.size_toArray, hi, if_true, List.getElem?_toArray, this]
end frame

section old
theorem Old.refl (E : List Nat) (w : World) : Old E w w := ⟨rfl, rfl, rfl, Nat.le_refl _, fun _ _ _ => rfl⟩
theorem Old.trans {E : List Nat} {a b c : World} (h : Old E a b) (k : Old E b c) : Old E a c :=
  ⟨k.os.trans h.os, k.tape.trans h.tape, k.out.trans h.out, Nat.le_trans h.sz k.sz, fun i hi hE => (k.bl i (Nat.lt_of_lt_of_le hi h.sz) hE).trans (h.bl i hi hE)⟩
theorem Old.more {E E' : List Nat} {a b : World} (h : Old E a b) (hE : ∀ k, k ∈ E → k ∈ E') : Old E' a b :=
  ⟨h.os, h.tape, h.out, h.sz, fun i hi hn => h.bl i hi (fun hm => hn (hE i hm))⟩
theorem Old.nil {E : List Nat} {a b : World} (h : Old [] a b) : Old E a b := h.more (fun _ hk => by cases hk)
theorem Old.get {E : List Nat} {a b : World} (h : Old E a b) {k : Nat} {o : Obj} (hk : a.heap[k]? = some o) (hE : k ∉ E) : b.heap[k]? = some o := by
  have hlt : k < a.heap.size := (Array.getElem?_eq_some_iff.1 hk).1
  rw [h.bl k hlt hE, hk]
theorem Old.alloc (w : World) (o : Obj) : Old [] w (w.alloc o) :=
  ⟨rfl, rfl, rfl, by simp, fun k hk _ => by show (w.heap.push o)[k]? = _; rw [Array.getElem?_push, if_neg (by omega)]⟩
theorem Old.drew (w : World) : Old [] w w.drew := ⟨rfl, rfl, rfl, Nat.le_refl _, fun _ _ _ => rfl⟩
theorem Old.below {w w' : World} (h : RowKit.Below w.heap.size w w') : Old [] w w' := ⟨h.os, h.tape, h.output, h.size, fun k hk _ => h.block k hk⟩
theorem Old.toBelow {w w' : World} (h : Old [] w w') : RowKit.Below w.heap.size w w' := ⟨h.os, h.tape, h.out, h.sz, fun k hk => h.bl k hk (by simp)⟩
end old

section heap
variable {cells : List Cel} {bs : List Base} {w w' : World}
/-- nothing that is known has turned -/
theorem Hp.old (H : Hp cells bs w) (h : Old [] w w') : Hp cells bs w' :=
  ⟨fun c hc g hg => h.get (H.hp c hc g hg) (by simp), H.nd, fun b hb => ⟨(H.bo b hb).1.trans h.nil, (H.bo b hb).2⟩⟩
theorem Hp.lt (H : Hp cells bs w) {c : Cel} (hc : c ∈ cells) {g : Nat} (hg : c.g = some g) : g < w.heap.size := (Array.getElem?_eq_some_iff.1 (H.hp c hc g hg)).1
theorem Hp.start (w : World) (E : List Nat) : Hp [] [⟨E, w⟩] w := ⟨fun _ h => (by cases h), List.nodup_nil, fun b hb => by
  simp only [List.mem_singleton] at hb; subst hb; exact ⟨Old.refl _ _, fun _ h => (by cases h)⟩⟩
/-- with a row that came in, to be turned -/
theorem Hp.start1 (w : World) (k : Nat) (og : Option Nat) (t : TypeId) (cs : List Value) (h : ∀ g, og = some g → w.heap[g]? = some (.cells cs.toArray t (0, 0))) : Hp [⟨k, og, t, cs⟩] [⟨og.toList, w⟩] w :=
  ⟨fun c hc g hg => (by
    simp only [List.mem_singleton] at hc
    subst hc
    exact h g hg), by cases og <;> simp, fun b hb => by
    simp only [List.mem_singleton] at hb
    subst hb
    refine ⟨Old.refl _ _, fun c hc g hg => ?_⟩
    simp only [List.mem_singleton] at hc
    subst hc
    exact .inl (by simp only at hg; rw [hg]; simp)⟩
/-- a cell more: one that did not lie in w -/
theorem Hp.add (H : Hp cells bs w) (h : Old [] w w') (k : Nat) (og : Option Nat) (t : TypeId) (cs : List Value) (hg : ∀ g, og = some g → w.heap.size ≤ g ∧ w'.heap[g]? = some (.cells cs.toArray t (0, 0))) :
    Hp (⟨k, og, t, cs⟩ :: cells) bs w' := by
  have H' := H.old h
  refine ⟨?_, ?_, ?_⟩
  · intro c hc g hcg
    rcases List.mem_cons.1 hc with rfl | hc
    · exact (hg g hcg).2
    · exact H'.hp c hc g hcg
  · cases og with
    | none => exact H.nd
    | some g =>
      simp only [List.filterMap_cons, List.nodup_cons]
      refine ⟨fun hm => ?_, H.nd⟩
      obtain ⟨c, hc, he⟩ := List.mem_filterMap.1 hm
      have := H.lt hc he
      have := (hg g rfl).1
      omega
  · intro b hb
    refine ⟨(H'.bo b hb).1, fun c hc g hcg => ?_⟩
    rcases List.mem_cons.1 hc with rfl | hc
    · exact .inr (Nat.le_trans (H.bo b hb).1.sz (hg g hcg).1)
    · exact (H.bo b hb).2 c hc g hcg
theorem Hp.alloc (H : Hp cells bs w) (k : Nat) (t : TypeId) (cs : List Value) :
    Hp (⟨k, some w.heap.size, t, cs⟩ :: cells) bs (w.alloc (.cells cs.toArray t)) :=
  H.add (Old.alloc w _) k _ t cs fun g hg => by
    cases hg
    refine ⟨Nat.le_refl _, ?_⟩
    show (w.heap.push _)[w.heap.size]? = _
    simp
/-- another base: the world as it stands -/
theorem Hp.base (H : Hp cells bs w) (E : List Nat) (hE : ∀ c ∈ cells, ∀ g, c.g = some g → g ∈ E) : Hp cells (bs ++ [⟨E, w⟩]) w :=
  ⟨H.hp, H.nd, fun b hb => by
    rcases List.mem_append.1 hb with hb | hb
    · exact H.bo b hb
    · simp only [List.mem_singleton] at hb
      subst hb
      exact ⟨Old.refl _ _, fun c hc g hg => .inl (hE c hc g hg)⟩⟩
/-- since the first base -/
theorem Hp.b0 {b : Base} (H : Hp cells (b :: bs) w) : Old b.E b.w w := (H.bo _ (List.mem_cons_self ..)).1
/-- a block of one's own that did not lie in the first base's world -/
theorem Hp.fresh {w0 : World} (H : Hp cells (⟨[], w0⟩ :: bs) w) {k : Nat} {c : Cel} (hc : getC cells k = some c) {g : Nat} (hg : c.g = some g) : w0.heap.size ≤ g :=
  ((H.bo _ (List.mem_cons_self ..)).2 c (getC_mem hc) g hg).resolve_left (by simp)
theorem setC_g (cells : List Cel) (k : Nat) (cs : List Value) : (setC cells k cs).filterMap Cel.g = cells.filterMap Cel.g := by
  induction cells with
  | nil => rfl
  | cons c r ih =>
    unfold setC
    cases Nat.beq c.k k
    · simp only [cond_false, List.filterMap_cons, ih]
    · simp only [cond_true, List.filterMap_cons]
theorem nd_ne {r : List Cel} {x d : Cel} {g : Nat} (hn : ((x :: r).filterMap Cel.g).Nodup) (hx : x.g = some g) (hd : d ∈ r) : d.g ≠ some g := by
  simp only [List.filterMap_cons, hx, List.nodup_cons] at hn
  intro e
  exact hn.1 (List.mem_filterMap.2 ⟨d, hd, e⟩)
theorem nd_tail {r : List Cel} {x : Cel} (hn : ((x :: r).filterMap Cel.g).Nodup) : (r.filterMap Cel.g).Nodup := by
  cases hx : x.g with
  | none => simpa [List.filterMap_cons, hx] using hn
  | some g => simp only [List.filterMap_cons, hx, List.nodup_cons] at hn; exact hn.2
theorem mem_setC {cells : List Cel} {k : Nat} {c : Cel} (hc : getC cells k = some c) {cs : List Value} {d : Cel} (hn : (cells.filterMap Cel.g).Nodup) (hd : d ∈ setC cells k cs) :
    d = { c with cs := cs } ∨ (d ∈ cells ∧ ∀ g, c.g = some g → d.g ≠ some g) := by
  induction cells with
  | nil => cases hc
  | cons x r ih =>
    unfold getC at hc
    unfold setC at hd
    cases hb : Nat.beq x.k k <;> rw [hb] at hc hd
    · simp only [cond_false] at hc hd
      rcases List.mem_cons.1 hd with rfl | hd
      · refine .inr ⟨List.mem_cons_self .., fun g hg e => ?_⟩
        exact nd_ne hn e (getC_mem hc) hg
      · rcases ih hc (nd_tail hn) hd with h | ⟨h1, h2⟩
        · exact .inl h
        · exact .inr ⟨List.mem_cons_of_mem _ h1, h2⟩
    · simp only [cond_true, Option.some.injEq] at hc hd
      subst hc
      rcases List.mem_cons.1 hd with rfl | hd
      · exact .inl rfl
      · exact .inr ⟨List.mem_cons_of_mem _ hd, fun g hg => nd_ne hn hg hd⟩
/-- the world after its block g has become cs -/
theorem Hp.set (H : Hp cells bs w) {k : Nat} {c : Cel} (hc : getC cells k = some c) (cs : List Value)
    (hw : ∀ g, c.g = some g → w'.heap[g]? = some (.cells cs.toArray c.t (0, 0))) (hold : Old c.g.toList w w') : Hp (setC cells k cs) bs w' := by
  refine ⟨?_, by rw [setC_g]; exact H.nd, ?_⟩
  · intro d hd g hg
    rcases mem_setC hc H.nd hd with rfl | ⟨h1, h2⟩
    · exact hw g hg
    · exact hold.get (H.hp d h1 g hg) (by
        intro hm
        simp only [Option.mem_toList] at hm
        exact h2 g hm hg)
  · intro b hb
    obtain ⟨h1, h2⟩ := H.bo b hb
    have hcm := getC_mem hc
    refine ⟨⟨hold.os.trans h1.os, hold.tape.trans h1.tape, hold.out.trans h1.out, Nat.le_trans h1.sz hold.sz, fun i hi hE => ?_⟩, fun d hd => ?_⟩
    · have hne : i ∉ c.g.toList := by
        intro hm
        simp only [Option.mem_toList] at hm
        rcases h2 c hcm i hm with h | h
        · exact hE h
        · omega
      exact (hold.bl i (Nat.lt_of_lt_of_le hi h1.sz) hne).trans (h1.bl i hi hE)
    · rcases mem_setC hc H.nd hd with rfl | ⟨h3, _⟩
      · exact h2 c hcm
      · exact h2 d h3
/-- fewer cells, fewer bases -/
def keepC : List Bool → List Cel → List Cel
  | true :: m, c :: r => c :: keepC m r
  | false :: m, _ :: r => keepC m r
  | _, _ => []
theorem keepC_sub : ∀ (m : List Bool) (l : List Cel), (keepC m l).Sublist l
  | true :: m, c :: r => (keepC_sub m r).cons_cons c
  | false :: m, c :: r => (keepC_sub m r).cons c
  | [], _ => List.nil_sublist _
  | true :: _, [] => List.nil_sublist _
  | false :: _, [] => List.nil_sublist _
theorem Hp.sub {cells' : List Cel} (H : Hp cells bs w) (h : cells'.Sublist cells) : Hp cells' bs w :=
  ⟨fun c hc => H.hp c (h.subset hc), (h.filterMap Cel.g).nodup H.nd, fun b hb => ⟨(H.bo b hb).1, fun c hc => (H.bo b hb).2 c (h.subset hc)⟩⟩
theorem Hp.keep (H : Hp cells bs w) (m : List Bool) : Hp (keepC m cells) bs w := H.sub (keepC_sub m cells)
theorem Hp.bases {bs' : List Base} (H : Hp cells bs w) (h : ∀ b ∈ bs', b ∈ bs) : Hp cells bs' w :=
  ⟨H.hp, H.nd, fun b hb => H.bo b (h b hb)⟩
theorem Hp.cell (H : Hp cells bs w) {k : Nat} {c : Cel} (hc : getC cells k = some c) {g : Nat} (hg : c.g = some g) : w.heap[g]? = some (.cells c.cs.toArray c.t (0, 0)) := H.hp c (getC_mem hc) g hg
/-- the same key with another block: the old one, or one that did not lie in w -/
def rmC : List Cel → Nat → List Cel
  | [], _ => []
  | c :: r, k => bif Nat.beq c.k k then r else c :: rmC r k
theorem rmC_sub : ∀ (l : List Cel) (k : Nat), (rmC l k).Sublist l
  | [], _ => List.Sublist.refl _
  | c :: r, k => by
    unfold rmC
    cases Nat.beq c.k k
    · exact (rmC_sub r k).cons_cons c
    · exact List.sublist_cons_self c r
theorem rmC_ne {cells : List Cel} {k : Nat} {c : Cel} {g : Nat} (hc : getC cells k = some c) (hg : c.g = some g) (hn : (cells.filterMap Cel.g).Nodup) : ∀ d ∈ rmC cells k, d.g ≠ some g := by
  induction cells with
  | nil => cases hc
  | cons x r ih =>
    intro d hd
    unfold getC at hc
    unfold rmC at hd
    cases hb : Nat.beq x.k k <;> rw [hb] at hc hd
    · simp only [cond_false] at hc hd
      rcases List.mem_cons.1 hd with rfl | hd
      · intro e; exact nd_ne hn e (getC_mem hc) hg
      · exact ih hc (nd_tail hn) d hd
    · simp only [cond_true, Option.some.injEq] at hc hd
      subst hc
      exact nd_ne hn hg hd
theorem Hp.renew (H : Hp cells bs w) {key : Nat} {c : Cel} (hc : getC cells key = some c) (hold : Old c.g.toList w w') {og : Option Nat} {e : TypeId} {cs : List Value}
    (hg : ∀ g, og = some g → (c.g = some g ∨ w.heap.size ≤ g) ∧ w'.heap[g]? = some (.cells cs.toArray e (0, 0))) : Hp (⟨key, og, e, cs⟩ :: rmC cells key) bs w' := by
  have hsub := rmC_sub cells key
  have hne : ∀ d ∈ rmC cells key, ∀ g, d.g = some g → g ∉ c.g.toList := by
    intro d hd g hdg hm
    simp only [Option.mem_toList] at hm
    exact rmC_ne hc hm H.nd d hd hdg
  refine ⟨?_, ?_, ?_⟩
  · intro d hd g hdg
    rcases List.mem_cons.1 hd with rfl | hd
    · exact (hg g hdg).2
    · exact hold.get (H.hp d (hsub.subset hd) g hdg) (hne d hd g hdg)
  · cases og with
    | none => exact (hsub.filterMap Cel.g).nodup H.nd
    | some g =>
      simp only [List.filterMap_cons, List.nodup_cons]
      refine ⟨fun hm => ?_, (hsub.filterMap Cel.g).nodup H.nd⟩
      obtain ⟨d, hd, he⟩ := List.mem_filterMap.1 hm
      rcases (hg g rfl).1 with h | h
      · exact rmC_ne hc h H.nd d hd he
      · have := H.lt (hsub.subset hd) he; omega
  · intro b hb
    obtain ⟨h1, h2⟩ := H.bo b hb
    refine ⟨⟨hold.os.trans h1.os, hold.tape.trans h1.tape, hold.out.trans h1.out, Nat.le_trans h1.sz hold.sz, fun i hi hE => ?_⟩, fun d hd g hdg => ?_⟩
    · refine (hold.bl i (Nat.lt_of_lt_of_le hi h1.sz) (fun hm => ?_)).trans (h1.bl i hi hE)
      simp only [Option.mem_toList] at hm
      rcases h2 c (getC_mem hc) i hm with h | h
      · exact hE h
      · omega
    · rcases List.mem_cons.1 hd with rfl | hd
      · rcases (hg g hdg).1 with h | h
        · exact h2 c (getC_mem hc) g h
        · exact .inr (Nat.le_trans h1.sz h)
      · exact h2 d (hsub.subset hd) g hdg
end heap
end Go.Sx
