/- Plain laws of the list: filling the stock up, taking some out. -/
import Derived.Test.YtcaennbagdipkaaLawsU
namespace Go.Proofs.Ytcaennbagdipkaa
open Go.RowKit Go.Maps Go.Proofs.YtcaennbagdipkaaW.PrintWords P
set_option linter.unusedSimpArgs false
set_option linter.unusedVariables false

/-- k items lie in stock, all free; x is the last one; none is longer than s + k. -/
structure Filled (s k : Nat) (x : ByteArray) (L : List Ent) (c : Int) : Prop where
  len : L.length = k
  cnt : c = (k : Int)
  size : x.size = s + k
  all : ∀ e ∈ L, e.order = es ∧ e.item.size ≤ s + k
  last : 0 < k → ∃ e ∈ L, e.item = x

theorem ne_of_size {a b : ByteArray} (h : a.size ≠ b.size) : a ≠ b := fun e => h (by rw [e])
theorem es_size : es.size = 0 := rfl
theorem ne_es {a : ByteArray} (h : 0 < a.size) : a ≠ es := ne_of_size (by rw [es_size]; omega)

theorem Filled.start (x : ByteArray) : Filled x.size 0 x [] 0 := ⟨rfl, rfl, rfl, (fun e h => by cases h), fun h => by omega⟩

theorem Filled.step {s k : Nat} {x y : ByteArray} {L : List Ent} {c : Int} (h : Filled s k x L c) (hy : y.size = s + k + 1) (hk : k < 512) :
    addS L c y = (0, L ++ [⟨y, c + 1, es⟩], c + 1) ∧ Filled s (k + 1) y (L ++ [⟨y, c + 1, es⟩]) (c + 1) := by
  obtain ⟨h1, h2, h3, h4, h5⟩ := h
  have hno : ∀ e ∈ L, e.item ≠ y := fun e he => ne_of_size (by have := (h4 e he).2; omega)
  refine ⟨?_, by simp [h1], by rw [h2]; simp, by omega, ?_, fun _ => ⟨⟨y, c + 1, es⟩, by simp, rfl⟩⟩
  · unfold addS
    rw [if_neg (ne_es (by omega)), find_no hno, if_neg (by simp), if_neg (by omega)]
  · intro e he
    rcases List.mem_append.1 he with he | he
    · exact ⟨(h4 e he).1, by have := (h4 e he).2; omega⟩
    · obtain rfl := List.mem_singleton.1 he
      exact ⟨rfl, by simp; omega⟩

theorem addS_in {L : List Ent} {c : Int} {x : ByteArray} (hx : x ≠ es) (h : ∃ e ∈ L, e.item = x) (hA : L.Pairwise (fun a b => a.item ≠ b.item)) : addS L c x = (7, L, c) := by
  obtain ⟨e, he, rfl⟩ := h
  unfold addS
  rw [if_neg hx, find_yes hA he, if_pos (by rfl)]
theorem addS_full {L : List Ent} {c : Int} {x : ByteArray} (hx : x ≠ es) (h : ∀ e ∈ L, e.item ≠ x) (hl : 512 ≤ L.length) : addS L c x = (12, L, c) := by
  unfold addS
  rw [if_neg hx, find_no h, if_neg (by simp), if_pos hl]
theorem addS_new {L : List Ent} {c : Int} {x : ByteArray} (hx : x ≠ es) (h : ∀ e ∈ L, e.item ≠ x) (hl : L.length < 512) : addS L c x = (0, L ++ [⟨x, c + 1, es⟩], c + 1) := by
  unfold addS
  rw [if_neg hx, find_no h, if_neg (by simp), if_neg (by omega)]

theorem all_free {L : List Ent} (h : ∀ e ∈ L, e.order = es) : (held L es).length = L.length := by
  unfold held
  rw [List.length_map, List.filter_eq_self.2 (fun e he => by simpa using h e he)]

theorem remL_count (L : List Ent) {o : ByteArray} (ho : o ≠ es) : (remL L o).length + (held L o).length = L.length := by
  unfold remL held
  rw [if_neg ho, List.length_map]
  induction L with
  | nil => rfl
  | cons e r ih =>
    simp only [List.filter_cons]
    by_cases h : e.order = o
    · simp [h] at ih ⊢; omega
    · simp [h] at ih ⊢; omega

theorem held_snoc (L : List Ent) (x : ByteArray) (n : Int) : (held (L ++ [⟨x, n, es⟩]) es).length = (held L es).length + 1 := by
  unfold held
  simp [List.filter_append]

theorem setMany_items {L : List Ent} {o : ByteArray} {ss : List ByteArray} {e : Ent} (h : e ∈ setMany L o ss) : ∃ x ∈ L, x.item = e.item := by
  obtain ⟨x, hx, rfl⟩ := List.mem_map.1 h
  exact ⟨x, hx, by split <;> rfl⟩

theorem strOfNums_size (b : Int) : (strOfNums [b]).size = 1 := rfl
theorem size_snoc (x : ByteArray) (b : Int) : (x ++ strOfNums [b]).size = x.size + 1 := by rw [ByteArray.size_append, strOfNums_size]
theorem x_size : (⟨#[120]⟩ : ByteArray).size = 1 := rfl

/-- string([]byte{b}) -/
theorem conv8 (w : World) (b : Int) : (convert 45 9 (.slice (some ⟨w.heap.size, 0, none⟩) 1 1)).run Try.prog (w.alloc (.cells #[.int .u8 b] 5)) = .ok (.string (strOfNums [b])) (w.alloc (.cells #[.int .u8 b] 5)) := by
  have h : Kd.R (Kd.int .u8) 5 (w.alloc (.cells #[.int .u8 b] 5)) 0 (fun _ => True) (.slice (some ⟨w.heap.size, 0, none⟩) 1 1) [b] :=
    Kd.R_of_own (World.ownsRow_lit w #[.int .u8 b] 1 (Nat.zero_le _) (by unfold maxLen; omega) rfl) (fun _ _ => trivial)
  exact Kd.C_string Try.underlying45 Try.underlying5 Try.underlying9 (Kd.R_reads' h).2.2

#print axioms conv8
#print axioms Filled.step
end Go.Proofs.Ytcaennbagdipkaa
