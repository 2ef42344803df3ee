/- Plain laws of the list: what is reserved and released leaves it as it was. -/
import Derived.Test.YtcaennbagdipkaaLaws
namespace Go.Proofs.Ytcaennbagdipkaa
open Go.RowKit Go.Maps
set_option linter.unusedSimpArgs false
set_option linter.unusedVariables false

def setMany (L : List Ent) (o : ByteArray) (ss : List ByteArray) : List Ent := L.map fun e => if inB e.item ss = true then { e with order := o } else e

theorem setMany_nil (L : List Ent) (o : ByteArray) : setMany L o [] = L := by
  unfold setMany
  rw [List.map_congr_left (g := id) (fun e _ => by simp [inB])]
  simp

theorem setMany_snoc (L : List Ent) (o : ByteArray) (ss : List ByteArray) (x : ByteArray) : setL (setMany L o ss) x o = setMany L o (ss ++ [x]) := by
  unfold setL setMany
  rw [List.map_map]
  apply List.map_congr_left
  intro e _
  simp only [Function.comp_apply, inB_snoc]
  by_cases h1 : inB e.item ss = true
  · simp only [h1, if_true, Bool.true_or]
    split <;> rfl
  · have h1' : inB e.item ss = false := by simpa using h1
    by_cases h2 : e.item = x
    · subst h2; simp [h1']
    · have : ¬ x = e.item := fun h => h2 h.symm
      simp [h1', h2, this]

theorem setMany_length (L : List Ent) (o : ByteArray) (ss : List ByteArray) : (setMany L o ss).length = L.length := by simp [setMany]

theorem setL_id {L : List Ent} {x o : ByteArray} (h : ∀ e ∈ L, e.item ≠ x) : setL L x o = L := by
  unfold setL
  rw [List.map_congr_left (g := id) (fun e he => by simp [h e he])]
  simp

theorem count_setL {L : List Ent} {x o : ByteArray} {n : Int} (hA : L.Pairwise (fun a b => a.item ≠ b.item)) (ho : o ≠ es) (hx : (⟨x, n, es⟩ : Ent) ∈ L) :
    (held (setL L x o) es).length + 1 = (held L es).length ∧ (held (setL L x o) o).length = (held L o).length + 1 := by
  induction L with
  | nil => cases hx
  | cons e r ih =>
    obtain ⟨h1, h2⟩ := List.pairwise_cons.1 hA
    rcases List.mem_cons.1 hx with he | hr
    · subst he
      have hs : setL (⟨x, n, es⟩ :: r) x o = ⟨x, n, o⟩ :: r := by
        have := setL_id (L := r) (x := x) (o := o) (fun e he => (h1 e he).symm)
        simp only [setL, List.map_cons, if_true] at this ⊢
        rw [this]
      rw [hs]
      have ho' : ¬ es = o := fun h => ho h.symm
      simp [held, List.filter_cons, ho, ho']
    · have hne : e.item ≠ x := h1 _ hr
      have hs : setL (e :: r) x o = e :: setL r x o := by simp [setL, hne]
      obtain ⟨i1, i2⟩ := ih h2 hr
      rw [hs]
      simp only [held, List.length_map] at i1 i2 ⊢
      simp only [List.filter_cons]
      constructor
      · by_cases q1 : e.order = es
        · simp [q1]; exact i1
        · simp [q1]; exact i1
      · by_cases q1 : e.order = o
        · simp [q1]; exact i2
        · simp [q1]; exact i2

theorem setMany_apart {L : List Ent} (hA : L.Pairwise (fun a b => a.item ≠ b.item)) (o : ByteArray) (ss : List ByteArray) : (setMany L o ss).Pairwise (fun a b => a.item ≠ b.item) := by
  unfold setMany
  rw [List.pairwise_map]
  exact hA.imp (fun {a b} h => by split <;> split <;> exact h)

theorem mem_held {L : List Ent} {o x : ByteArray} (h : x ∈ held L o) : ∃ e ∈ L, e.item = x ∧ e.order = o := by
  obtain ⟨e, he, rfl⟩ := List.mem_map.1 h
  obtain ⟨h1, h2⟩ := List.mem_filter.1 he
  exact ⟨e, h1, rfl, of_decide_eq_true h2⟩

theorem find_yes {L : List Ent} (hA : L.Pairwise (fun a b => a.item ≠ b.item)) {e : Ent} (he : e ∈ L) : find L e.item = some e := by
  cases hf : find L e.item with
  | none => exact absurd rfl (find_none hf e he)
  | some y =>
    obtain ⟨hy, hi⟩ := find_some hf
    rw [apart_eq hA hy he hi]

/-- Where free items are reserved for o, one behind the other. -/
structure Taken (L : List Ent) (o : ByteArray) (ss : List ByteArray) (Lk : List Ent) : Prop where
  eq : Lk = setMany L o ss
  sub : ∀ x ∈ ss, x ∈ held L es
  nums : (held Lk o).length = ss.length
  free : (held Lk es).length + ss.length = (held L es).length

theorem Taken.start {L : List Ent} {o : ByteArray} (h : held L o = []) : Taken L o [] L := ⟨(setMany_nil L o).symm, (fun x hx => by cases hx), by simp [h], by simp⟩

theorem Taken.step {L : List Ent} {o : ByteArray} {ss : List ByteArray} {Lk : List Ent} (h : Taken L o ss Lk) (hA : L.Pairwise (fun a b => a.item ≠ b.item)) (ho : o ≠ es) {x : ByteArray} (hx : x ∈ held L es) (hn : x ∉ ss) (p : ByteArray) (hp : p ≠ es) :
    ∃ L', resS Lk x o = (0, L') ∧ resS L' x p = (14, L') ∧ Taken L o (ss ++ [x]) L' := by
  obtain ⟨e, he, hi, hes⟩ := mem_held hx
  obtain ⟨hk, hsub, h1, h2⟩ := h
  have hAk : Lk.Pairwise (fun a b => a.item ≠ b.item) := by rw [hk]; exact setMany_apart hA o ss
  have hek : e ∈ Lk := by
    rw [hk]
    exact List.mem_map.2 ⟨e, he, by rw [inB_false (by rw [hi]; exact hn)]; rfl⟩
  have hf := find_yes hAk hek
  rw [hi] at hf
  have hx' : (⟨x, e.n, es⟩ : Ent) ∈ Lk := by
    have : e = ⟨x, e.n, es⟩ := by cases e; simp at hi hes ⊢; exact ⟨hi, hes⟩
    rw [← this]; exact hek
  obtain ⟨c1, c2⟩ := count_setL (o := o) hAk ho hx'
  refine ⟨setL Lk x o, ?_, ?_, ?_, ?_, ?_, ?_⟩
  · unfold resS
    rw [if_neg ho, hf]
    simp only [hes, if_true]
  · have hA' : (setL Lk x o).Pairwise (fun a b => a.item ≠ b.item) := by rw [hk, setMany_snoc]; exact setMany_apart hA o _
    have he' : (⟨x, e.n, o⟩ : Ent) ∈ setL Lk x o := List.mem_map.2 ⟨⟨x, e.n, es⟩, hx', by simp⟩
    have hf' := find_yes hA' he'
    unfold resS
    simp only at hf'
    rw [if_neg hp, hf']
    simp only [ho, if_false]
  · rw [hk, setMany_snoc]
  · intro y hy
    rcases List.mem_append.1 hy with hy | hy
    · exact hsub y hy
    · obtain rfl := List.mem_singleton.1 hy
      exact hx
  · rw [c2, h1]; simp
  · simp only [List.length_append, List.length_cons, List.length_nil]; omega

theorem Taken.back {L : List Ent} {o : ByteArray} {ss : List ByteArray} {Lk : List Ent} (h : Taken L o ss Lk) (hA : L.Pairwise (fun a b => a.item ≠ b.item)) (ho : o ≠ es) (hno : ∀ e ∈ L, e.order ≠ o) : relL Lk o = L := by
  rw [h.eq]
  unfold relL setMany
  rw [if_neg ho, List.map_map, List.map_congr_left (g := id)]
  · simp
  intro e he
  simp only [Function.comp_apply, id]
  by_cases hi : inB e.item ss = true
  · obtain ⟨y, hy, hyi, hyo⟩ := mem_held (h.sub _ ((inB_iff _ _).1 hi))
    obtain rfl := apart_eq hA hy he hyi
    simp [hi, hyo.symm]
  · rw [if_neg hi, if_neg (hno e he)]

theorem Taken.other {L : List Ent} {o q : ByteArray} {ss : List ByteArray} {Lk : List Ent} (h : Taken L o ss Lk) (hA : L.Pairwise (fun a b => a.item ≠ b.item)) (hoq : o ≠ q) : heldO Lk q = heldO L q := by
  rw [h.eq]
  unfold heldO
  by_cases hq : q = es
  · rw [if_pos hq, if_pos hq]
  · rw [if_neg hq, if_neg hq]
    have key : ∀ (M : List Ent), (∀ e ∈ M, inB e.item ss = true → e.order = es) → held (setMany M o ss) q = held M q := by
      intro M
      induction M with
      | nil => intro _; rfl
      | cons e r ih =>
        intro hM
        have ihr := ih (fun e he => hM e (List.mem_cons_of_mem _ he))
        have hh := hM e List.mem_cons_self
        unfold setMany held at ihr ⊢
        simp only [List.map_cons, List.filter_cons]
        by_cases hi : inB e.item ss = true
        · have h1 := hh hi
          rw [if_pos hi]
          simp only [h1]
          rw [if_neg (by simpa using hoq), if_neg (by simpa using fun h => hq h.symm)]
          exact ihr
        · rw [if_neg hi]
          split
          · rw [List.map_cons, List.map_cons, ihr]
          · exact ihr
    apply key
    intro e he hi
    obtain ⟨y, hy, hyi, hyo⟩ := mem_held (h.sub _ ((inB_iff _ _).1 hi))
    obtain rfl := apart_eq hA hy he hyi
    exact hyo

theorem relL_no {L : List Ent} {o : ByteArray} (ho : o ≠ es) : ∀ e ∈ relL L o, e.order ≠ o := by
  unfold relL
  rw [if_neg ho]
  intro e he
  obtain ⟨x, hx, rfl⟩ := List.mem_map.1 he
  split
  · exact fun h => ho h.symm
  · assumption

theorem held_no {L : List Ent} {o : ByteArray} (h : ∀ e ∈ L, e.order ≠ o) : held L o = [] := by
  unfold held
  rw [List.map_eq_nil_iff, List.filter_eq_nil_iff]
  intro e he
  simpa using h e he

theorem heldO_of {L : List Ent} {o : ByteArray} (ho : o ≠ es) : heldO L o = held L o := by unfold heldO; rw [if_neg ho]
theorem heldO_es (L : List Ent) : heldO L es = [] := by unfold heldO; rw [if_pos rfl]
theorem relL_es (L : List Ent) : relL L es = L := by unfold relL; rw [if_pos rfl]
theorem remL_es (L : List Ent) : remL L es = L := by unfold remL; rw [if_pos rfl]

/-- Every second one of a list, k of them. -/
def evens (F : List ByteArray) (k : Nat) : List ByteArray := (List.range k).map fun i => F.getD (2 * i) es
theorem evens_succ (F : List ByteArray) (k : Nat) (h : 2 * k < F.length) : evens F (k + 1) = evens F k ++ [F[2 * k]] := by
  simp [evens, List.range_succ, List.getD_eq_getElem?_getD, List.getElem?_eq_getElem h]
theorem evens_length (F : List ByteArray) (k : Nat) : (evens F k).length = k := by simp [evens]
theorem evens_not {F : List ByteArray} (hn : F.Nodup) (k : Nat) (h : 2 * k < F.length) : F[2 * k] ∉ evens F k := by
  intro hm
  obtain ⟨i, hi, he⟩ := List.mem_map.1 hm
  rw [List.mem_range] at hi
  have h2 : 2 * i < F.length := by omega
  rw [List.getD_eq_getElem?_getD, List.getElem?_eq_getElem h2] at he
  simp only [Option.getD_some] at he
  exact List.pairwise_iff_getElem.1 hn (2 * i) (2 * k) h2 h (by omega) he

theorem free_nodup {L : List Ent} (h : L.Pairwise (fun a b => a.item ≠ b.item)) (o : ByteArray) : (held L o).Nodup := by
  unfold held
  exact List.pairwise_map.2 ((h.filter _).imp (fun {a b} hab => hab))

theorem append_x_ne (q : ByteArray) : q ++ ⟨#[120]⟩ ≠ es := by
  intro h
  have h1 := congrArg ByteArray.size h
  rw [ByteArray.size_append] at h1
  have h2 : (⟨#[120]⟩ : ByteArray).size = 1 := rfl
  have h3 : es.size = 0 := rfl
  omega

#print axioms Taken.step
#print axioms Taken.other
#print axioms evens_not
end Go.Proofs.Ytcaennbagdipkaa
