/- Plain laws of the list: what Remove leaves, what can be added again. -/
import Derived.Test.YtcaennbagdipkaaArg
namespace Go.Proofs.Ytcaennbagdipkaa
open Go.RowKit Go.Maps
set_option linter.unusedSimpArgs false
set_option linter.unusedVariables false

theorem heldO_remL_self (L : List Ent) (o : ByteArray) : heldO (remL L o) o = [] := by
  unfold heldO remL
  by_cases h : o = es
  · rw [if_pos h]
  · rw [if_neg h, if_neg h]
    simp only [held, List.map_eq_nil_iff, List.filter_eq_nil_iff]
    intro e he
    have := of_decide_eq_true (List.mem_filter.1 he).2
    simpa using this

theorem filter_filter_of {α : Type} (p q : α → Bool) (L : List α) (h : ∀ x, p x = true → q x = true) : (L.filter q).filter p = L.filter p := by
  rw [List.filter_filter]
  congr 1
  funext x
  cases hp : p x
  · rfl
  · simp [h x hp]

theorem heldO_remL_other (L : List Ent) {o q : ByteArray} (hne : o ≠ q) : heldO (remL L o) q = heldO L q := by
  unfold heldO remL
  by_cases h : q = es
  · rw [if_pos h, if_pos h]
  · rw [if_neg h, if_neg h]
    split
    · rfl
    · unfold held
      rw [filter_filter_of]
      intro x hx
      have := of_decide_eq_true hx
      simp [this, hne.symm]

theorem free_remL (L : List Ent) (o : ByteArray) : held (remL L o) es = held L es := by
  unfold remL
  split
  · rfl
  · rename_i h
    unfold held
    rw [filter_filter_of]
    intro x hx
    have := of_decide_eq_true hx
    simp [this]
    exact fun e => h (by rw [← e])

theorem notin_remL {L : List Ent} (hA : L.Pairwise (fun a b => a.item ≠ b.item)) {o x : ByteArray} (hx : x ∈ heldO L o) : ∀ e ∈ remL L o, e.item ≠ x := by
  intro e he h
  obtain ⟨ho, y, hy, hyi, hyo⟩ := heldO_eq L o x hx
  have heL := remL_mem he
  obtain rfl := apart_eq hA heL hy (h.trans hyi.symm)
  unfold remL at he
  rw [if_neg ho] at he
  exact (of_decide_eq_true (List.mem_filter.1 he).2) hyo

theorem held_length (L : List Ent) (o : ByteArray) : (held L o).length ≤ L.length := by
  unfold held
  rw [List.length_map]
  exact List.length_filter_le _ _
theorem heldO_length (L : List Ent) (o : ByteArray) : (heldO L o).length ≤ L.length := by
  unfold heldO
  split
  · simp
  · exact held_length L o

theorem find_no {L : List Ent} {it : ByteArray} (h : ∀ e ∈ L, e.item ≠ it) : find L it = none := by
  unfold find
  rw [List.find?_eq_none]
  intro e he
  simpa using h e he

/-- Items put back, one behind the other. -/
structure Adding (R : List Ent) (c : Int) (xs : List ByteArray) (L : List Ent) (c' : Int) : Prop where
  items : L.map Ent.item = R.map Ent.item ++ xs
  free : held L es = held R es ++ xs
  count : c' = c + (xs.length : Int)

theorem Adding.start (R : List Ent) (c : Int) : Adding R c [] R c := ⟨by simp, by simp, by simp⟩
theorem Adding.length {R : List Ent} {c : Int} {xs : List ByteArray} {L : List Ent} {c' : Int} (h : Adding R c xs L c') : L.length = R.length + xs.length := by
  have := congrArg List.length h.items
  simpa using this

theorem Adding.step {R : List Ent} {c : Int} {xs : List ByteArray} {L : List Ent} {c' : Int} (h : Adding R c xs L c') {x : ByteArray} (h1 : ∀ e ∈ R, e.item ≠ x) (h2 : x ∉ xs) (hne : x ≠ es) (hl : R.length + xs.length < 512) :
    addS L c' x = (0, L ++ [⟨x, c' + 1, es⟩], c' + 1) ∧ ofS L x = (es, false) ∧ Adding R c (xs ++ [x]) (L ++ [⟨x, c' + 1, es⟩]) (c' + 1) := by
  have hno : ∀ e ∈ L, e.item ≠ x := by
    intro e he hx
    have : e.item ∈ L.map Ent.item := List.mem_map_of_mem he
    rw [h.items, hx, List.mem_append] at this
    rcases this with h3 | h3
    · obtain ⟨y, hy, hyx⟩ := List.mem_map.1 h3
      exact h1 y hy hyx
    · exact h2 h3
  have hf := find_no hno
  refine ⟨?_, ?_, ?_, ?_, ?_⟩
  · unfold addS
    rw [if_neg hne, hf, if_neg (by simp), if_neg (by have := h.length; omega)]
  · unfold ofS; rw [hf]
  · simp [h.items]
  · have := h.free
    unfold held at this ⊢
    simp [List.filter_append, this]
  · rw [h.count]; simp; omega

#print axioms Adding.step
end Go.Proofs.Ytcaennbagdipkaa
