/- Plain laws of the list: every item is in one place; rows apart from each other. -/
import Derived.Test.YtcaennbagdipkaaLawsR
namespace Go.Proofs.Ytcaennbagdipkaa
open Go.RowKit Go.Maps Go.Proofs.YtcaennbagdipkaaW.PrintWords P
set_option linter.unusedSimpArgs false
set_option linter.unusedVariables false

section
open Go.ChangeShapes Go.WideShapes Go.ChangeAt Go.Joins
variable {H : Type} {enc : TypeId × Value → H} {w : World} {base : Nat} {spare : Nat → Bool} {held : Bool}
/-- As 'ops_of', and every kind is a byte. -/
theorem ops_of2 {r : Reach} {b0 : Nat} {v : Value} {d : DataW H} {p : List MemPlace} (hv : Value.okWide Try.prog w r b0 22 v) (h : DataW.Trod enc Try.prog w base spare held 22 v d p) :
    ∃ (A : Option Addr) (c : Nat) (l : List S29), v = .slice A l.length c ∧ Kd.C k29 w A l.length l ∧ l.length ≤ c ∧ ∀ o ∈ l, 0 ≤ o.f0 := by
  obtain ⟨a0, len0, cap0, rfl⟩ := okWide_slice Try.underlying22 hv
  obtain ⟨fuel, hf⟩ := h
  rcases open_slice_fields (H := H) Try.underlying22 Try.underlying29 (by kernel_rfl) (by kernel_rfl) hf with ⟨h1, h2⟩ | ⟨a, len, cap, m, D, Pl, h1, hb, hl, hm, hmm, hx, hi⟩
  · simp only [Value.cells, List.cons.injEq, and_true] at h1
    exact ⟨none, 0, [], h1, ⟨rfl, Nat.zero_le _, fun h => absurd h (Nat.lt_irrefl _)⟩, Nat.le_refl _, fun o ho => by cases ho⟩
  · simp only [Value.cells, List.cons.injEq, and_true] at h1
    have hlm : len ≤ m := by rw [hmm]; split <;> omega
    have hc : ∀ i, ∃ o : S29, 0 ≤ o.f0 ∧ (i < len → w.cell? (a.add (i * 3)) = some (.int .u8 o.f0) ∧ w.cell? (a.add (i * 3 + 1)) = some (.string o.f1) ∧ w.cell? (a.add (i * 3 + 2)) = some (.string o.f2)) := by
      intro i
      by_cases hil : i < len
      · obtain ⟨ys, n, _, _, _, hj⟩ := hi i (by omega)
        obtain ⟨v0, y0, c0, _, t0⟩ := hj 0 _ rfl
        obtain ⟨v1, y1, c1, _, t1⟩ := hj 1 _ rfl
        obtain ⟨v2, y2, c2, _, t2⟩ := hj 2 _ rfl
        obtain ⟨k, e0, _, wf⟩ := DataW.trod_int Try.underlying5 t0
        obtain ⟨s1, e1, _, _⟩ := DataW.trod_string Try.underlying9 t1
        obtain ⟨s2, e2, _, _⟩ := DataW.trod_string Try.underlying9 t2
        simp only [List.cons.injEq, and_true] at e0 e1 e2
        subst e0 e1 e2
        exact ⟨⟨k, s1, s2⟩, (Go.bounds_u8 wf).1, fun _ => ⟨c0, c1, c2⟩⟩
      · exact ⟨z29, Int.le_refl _, fun h => absurd h hil⟩
    obtain ⟨f, hf⟩ := Classical.axiomOfChoice hc
    refine ⟨some a, cap, (List.range len).map f, by rw [h1]; simp, ⟨by simp, by simp; unfold maxLen at hm; omega, fun _ => ⟨a, rfl, fun j o hj => ?_⟩⟩, by simpa using hl, fun o ho => ?_⟩
    · rw [List.getElem?_map] at hj
      by_cases hjl : j < len
      · rw [List.getElem?_range hjl] at hj
        simp only [Option.map_some, Option.some.injEq] at hj
        subst hj
        obtain ⟨c0, c1, c2⟩ := (hf j).2 hjl
        refine ⟨_, rfl, k29_mk w (f j), fun i u hu => ?_⟩
        match i with
        | 0 => simp only [List.getElem?_cons_zero, Option.some.injEq] at hu; subst hu; exact c0
        | 1 => simp only [List.getElem?_cons_succ, List.getElem?_cons_zero, Option.some.injEq] at hu; subst hu; exact c1
        | 2 => simp only [List.getElem?_cons_succ, List.getElem?_cons_zero, Option.some.injEq] at hu; subst hu; exact c2
        | i + 3 => simp at hu
      · rw [List.getElem?_eq_none (by simpa using hjl)] at hj
        cases hj
    · obtain ⟨i, _, rfl⟩ := List.mem_map.1 ho
      exact (hf i).1
end

/-! ### rows of strings, apart -/
abbrev SRow (w : World) (base : Nat) (v : Value) (xs : List ByteArray) : Prop := Kd.R Kd.string 9 w base (fun _ => True) v xs
/-- Two rows have no block in common. -/
def Apart (v u : Value) : Prop := ∀ k, v.ownBlock = some k → u.ownBlock ≠ some k
theorem Apart.symm {v u : Value} (h : Apart v u) : Apart u v := fun k h1 h2 => h k h2 h1
theorem Apart.nil (u : Value) : Apart (.slice none 0 0) u := fun k h => by simp [Value.ownBlock] at h
theorem Apart.new {w : World} {base' : Nat} {v u : Value} {ys : List ByteArray} (hu : SRow w base' u ys) (h : ∀ k, v.ownBlock = some k → k < base') : Apart v u := fun k h1 h2 => by
  have := (Kd.R_bound hu).1 k h2
  have := h k h1
  omega
theorem SRow.lt {w : World} {base : Nat} {v : Value} {xs : List ByteArray} (h : SRow w base v xs) : ∀ k, v.ownBlock = some k → k < w.heap.size := Kd.R_lt h
/-- A row, while another one grows. -/
theorem SRow.grown {W w1 : World} {base : Nat} {v u : Value} {xs : List ByteArray} (h : SRow W base v xs) (hg : W.grownBy w1 u.ownBlock) (ha : Apart v u) : SRow w1 base v xs := by
  have ho := Kd.own_of_R h
  refine Kd.R_of_own (own_other ho hg ?_) (fun _ _ => trivial)
  cases hb : v.ownBlock with
  | none => exact .inl rfl
  | some k => exact .inr (fun he => ha k hb he.symm)
theorem Apart.grown {W : World} {base : Nat} {v u u1 : Value} {xs : List ByteArray} (h : SRow W base v xs) (ha : Apart v u) (hat : u1.ownBlock = u.ownBlock ∨ ∃ b, u1.ownBlock = some b ∧ W.heap.size ≤ b) : Apart v u1 := fun k h1 h2 => by
  rcases hat with e | ⟨b, e, hb⟩
  · rw [e] at h2; exact ha k h1 h2
  · rw [e] at h2
    cases h2
    have := h.lt _ h1
    omega

/-! ### counting -/
def cnt (l : List ByteArray) (x : ByteArray) : Int := (((l.filter fun y => decide (y = x)).length : Nat) : Int)
theorem cnt_no {l : List ByteArray} {x : ByteArray} (h : x ∉ l) : cnt l x = 0 := by
  unfold cnt
  rw [List.filter_eq_nil_iff.2 (fun y hy => by simp; intro e; rw [e] at hy; exact h hy)]
  rfl
theorem cnt_yes {l : List ByteArray} (hn : l.Nodup) {x : ByteArray} (h : x ∈ l) : cnt l x = 1 := by
  unfold cnt
  induction l with
  | nil => cases h
  | cons y r ih =>
    obtain ⟨h1, h2⟩ := List.pairwise_cons.1 hn
    rw [List.filter_cons]
    by_cases e : y = x
    · have hr : x ∉ r := fun hx => h1 x hx e
      rw [if_pos (by simpa using e), List.filter_eq_nil_iff.2 (fun z hz => by simp; intro e2; rw [e2] at hz; exact hr hz)]
      rfl
    · rw [if_neg (by simpa using e)]
      exact ih h2 ((List.mem_cons.1 h).resolve_left (fun e2 => e e2.symm))
theorem cnt_pos {l : List ByteArray} {x : ByteArray} : 0 < cnt l x ↔ x ∈ l := by
  unfold cnt
  constructor
  · intro h
    have : 0 < (l.filter fun y => decide (y = x)).length := by omega
    obtain ⟨y, hy⟩ := List.length_pos_iff_exists_mem.1 this
    obtain ⟨h1, h2⟩ := List.mem_filter.1 hy
    rw [← of_decide_eq_true h2]; exact h1
  · intro h
    have : x ∈ l.filter fun y => decide (y = x) := List.mem_filter.2 ⟨h, by simp⟩
    have := List.length_pos_of_mem this
    omega
theorem cnt_zero {l : List ByteArray} {x : ByteArray} (h : x ∈ l) : cnt l x ≠ 0 := by have := cnt_pos.2 h; omega

theorem index_any {w : World} {A : Option Addr} {a : Nat} {xs : List ByteArray} {x : ByteArray} {r : Int} (hr : cnt xs x = r) (h1 : Kd.C Kd.string w A xs.length xs) (c1 : xs.length ≤ a) (hl : xs.length ≤ 100000) :
    Calls Try.prog 24 #[.slice A xs.length a, .string x] w fun e w' => e = .returned (.int .i64 r) ∧ Below w.heap.size w w' :=
  (sawmilllaw47_index.calls 100001 A a xs x r w h1 c1 (by rw [← hr]; exact index_eq 100001 xs x (by omega) (by omega))).mono fun e w' ⟨he, hd⟩ => ⟨he, hd.below⟩

theorem index_quiet {w : World} {n : Nat} {A : Option Addr} {a : Nat} {xs : List ByteArray} {x : ByteArray} {r : Int} (hr : cnt xs x = r) (h1 : Kd.C Kd.string w A xs.length xs) (c1 : xs.length ≤ a) (hl : xs.length ≤ 100000) :
    Calls Try.prog 24 #[.slice A xs.length a, .string x] (w.drewN n) fun e w'' => e = .returned (.int .i64 r) ∧ ∃ m, w'' = w.drewN m :=
  (sawmilllaw47_index.calls 100001 A a xs x r (w.drewN n) (Kd.C_drewN h1 n) c1 (by rw [← hr]; exact index_eq 100001 xs x (by omega) (by omega))).mono fun e w' ⟨he, hd⟩ => ⟨he, by obtain ⟨k, hk⟩ := hd.out; exact ⟨n + k, by rw [hk, World.drewN_drewN]⟩⟩

/-! ### items -/
def items (L : List Ent) : List ByteArray := L.map Ent.item
theorem items_length (L : List Ent) : (items L).length = L.length := by simp [items]
theorem items_nodup {L : List Ent} (h : L.Pairwise (fun a b => a.item ≠ b.item)) : (items L).Nodup := List.pairwise_map.2 h
theorem items_relL (L : List Ent) (o : ByteArray) : items (relL L o) = items L := by
  unfold items relL
  split
  · rfl
  · rw [List.map_map]
    apply List.map_congr_left
    intro e _
    simp only [Function.comp_apply]
    split <;> rfl
theorem items_setL (L : List Ent) (it o : ByteArray) : items (setL L it o) = items L := by
  unfold items setL
  rw [List.map_map]
  apply List.map_congr_left
  intro e _
  simp only [Function.comp_apply]
  split <;> rfl
theorem items_resS (L : List Ent) (it o : ByteArray) : items (resS L it o).2 = items L := by
  unfold resS
  split
  · rfl
  · split
    · rfl
    · split
      · exact items_setL L it o
      · rfl
theorem items_addS (L : List Ent) (c : Int) (it : ByteArray) : items (addS L c it).2.1 = if (addS L c it).1 = 0 then items L ++ [it] else items L := by
  unfold addS
  split
  · rfl
  · split
    · rfl
    · split
      · rfl
      · simp [items]

theorem items_mid (L : List Ent) (c : Int) (o : S29) (h0 : o.f0 ≠ 0) (h3 : o.f0 < 3) (hl : 0 ≤ o.f0) : items (doS L c o).L = items L := by
  unfold doS
  rw [if_neg h0]
  split
  · exact items_resS L o.f1 o.f2
  · rw [if_pos (by omega)]
    exact items_relL L o.f2

theorem doS_zero (L : List Ent) (c : Int) (o : S29) (h0 : o.f0 = 0) : items (doS L c o).L = (if (doS L c o).r = 0 then items L ++ [o.f1] else items L) := by
  unfold doS
  rw [if_pos h0]
  exact items_addS L c o.f1
theorem doS_three (L : List Ent) (c : Int) (o : S29) (h3 : ¬ o.f0 < 3) : (doS L c o).L = remL L o.f2 ∧ (doS L c o).xs = heldO L o.f2 := by
  unfold doS
  rw [if_neg (by omega), if_neg (by omega), if_neg (by omega)]
  exact ⟨rfl, rfl⟩

/-- Those of a list that are not in another one. -/
def without (I X : List ByteArray) : List ByteArray := I.filter fun y => !inB y X
theorem without_nil (X : List ByteArray) : without [] X = [] := rfl
theorem without_keep {I X : List ByteArray} {k : Nat} (hk : k < I.length) (h : I[k] ∉ X) : without (I.take (k + 1)) X = without (I.take k) X ++ [I[k]] := by
  rw [take_snoc_str I k hk]
  unfold without
  rw [List.filter_append]
  simp [inB_false h]
theorem without_drop {I X : List ByteArray} {k : Nat} (hk : k < I.length) (h : I[k] ∈ X) : without (I.take (k + 1)) X = without (I.take k) X := by
  rw [take_snoc_str I k hk]
  unfold without
  rw [List.filter_append]
  simp [(inB_iff _ _).2 h]
theorem without_length (I X : List ByteArray) : (without I X).length ≤ I.length := List.length_filter_le _ _

theorem without_held {L : List Ent} (hA : L.Pairwise (fun a b => a.item ≠ b.item)) (o : ByteArray) : without (items L) (heldO L o) = items (remL L o) := by
  rw [← remTo_all hA o]
  unfold without items remTo
  rw [List.filter_map]
  rfl
theorem places_count (L : List Ent) (o : ByteArray) : (items (remL L o)).length + (heldO L o).length = (items L).length := by
  rw [items_length, items_length]
  by_cases h : o = es
  · subst h; rw [remL_es, heldO_es]; simp
  · rw [heldO_of h]; exact remL_count L h

/-- How many of the first k are reserved. -/
def resd (L : List Ent) (k : Nat) : Nat := ((L.take k).filter fun e => decide (e.order ≠ es)).length
theorem resd_zero (L : List Ent) : resd L 0 = 0 := rfl
theorem resd_succ (L : List Ent) (k : Nat) (hk : k < L.length) : resd L (k + 1) = resd L k + (if L[k].order = es then 0 else 1) := by
  unfold resd
  rw [List.take_add_one, List.getElem?_eq_getElem hk]
  simp only [Option.toList_some, List.filter_append, List.length_append]
  by_cases h : L[k].order = es
  · simp [h]
  · simp [h]
theorem resd_all (L : List Ent) : (held L es).length + resd L L.length = L.length := by
  unfold resd held
  rw [List.take_length, List.length_map]
  induction L with
  | nil => rfl
  | cons e r ih =>
    simp only [List.filter_cons, List.length_cons]
    by_cases h : e.order = es
    · simp [h] at ih ⊢; omega
    · simp [h] at ih ⊢; omega

theorem resd_le (L : List Ent) (k : Nat) : resd L k ≤ k := by
  unfold resd
  exact Nat.le_trans (List.length_filter_le _ _) (by rw [List.length_take]; exact Nat.min_le_left _ _)

theorem in_held {L : List Ent} {e : Ent} (he : e ∈ L) : e.item ∈ held L e.order := List.mem_map.2 ⟨e, List.mem_filter.2 ⟨he, by simp⟩, rfl⟩
theorem not_held {L : List Ent} (hA : L.Pairwise (fun a b => a.item ≠ b.item)) {e : Ent} (he : e ∈ L) {o : ByteArray} (ho : e.order ≠ o) : e.item ∉ held L o := by
  intro h
  obtain ⟨y, hy, hyi, hyo⟩ := mem_held h
  obtain rfl := apart_eq hA hy he hyi
  exact ho hyo

theorem ofS_in {L : List Ent} (hA : L.Pairwise (fun a b => a.item ≠ b.item)) {e : Ent} (he : e ∈ L) : ofS L e.item = (e.order, true) := by
  unfold ofS
  rw [find_yes hA he]
theorem ofS_mem (L : List Ent) (x : ByteArray) : (ofS L x).2 = decide (0 < cnt (items L) x) := by
  unfold ofS
  cases hf : find L x with
  | none =>
    have : x ∉ items L := fun h => by
      obtain ⟨e, he, hx⟩ := List.mem_map.1 h
      exact find_none hf e he hx
    rw [cnt_no this]; rfl
  | some e =>
    obtain ⟨he, hi⟩ := find_some hf
    have : x ∈ items L := List.mem_map.2 ⟨e, he, hi⟩
    have := cnt_pos.2 this
    simp [this]

#print axioms ops_of2
#print axioms without_held
#print axioms ofS_mem
end Go.Proofs.Ytcaennbagdipkaa
