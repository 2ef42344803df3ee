/- Len and Longest, on lists. -/
import Derived.Test.YtioglhaofcmebaaMathL
import Derived.Test.YtioglhaofcmebaaMathS
import Derived.Test.YtioglhaofcmebaaPA3
import Derived.Test.YtioglhaofcmebaaPR1
import Derived.Test.YtioglhaofcmebaaExt
namespace Go.Proofs.Ytioglhaofcmebaa
open Go.RowKit P
set_option linter.unusedSimpArgs false
set_option linter.unusedVariables false

theorem len_same' (a b : Int) : span_Len.f a b = sawmillref03_Len.f a b := by
  unfold span_Len.f sawmillref03_Len.f span_empty.f
  simp only [Option.bind_some]
  by_cases h : a ≥ b <;> simp [h]

/-- The number of integers, or the greatest int. -/
def lenI (a b : Int) : Int := if a ≥ b then 0 else min (b - a) 9223372036854775807
/-- The numbers of a span are 64-bit. -/
def In64 (s : S23) : Prop := (-9223372036854775808 ≤ s.f0 ∧ s.f0 ≤ 9223372036854775807) ∧ (-9223372036854775808 ≤ s.f1 ∧ s.f1 ≤ 9223372036854775807)

theorem refLen_eq (a b : Int) (h : In64 ⟨a, b⟩) : sawmillref03_Len.f a b = some (lenI a b) := by
  have h1 : -9223372036854775808 ≤ a ∧ a ≤ 9223372036854775807 := h.1
  have h2 : -9223372036854775808 ≤ b ∧ b ≤ 9223372036854775807 := h.2
  unfold sawmillref03_Len.f lenI wrap64
  by_cases q : a ≥ b
  · rw [if_pos q, if_pos q]
  · rw [if_neg q, if_neg q]
    by_cases q2 : a < 0
    · rw [if_pos q2]
      split
      · congr 1; omega
      · congr 1; omega
    · rw [if_neg q2]; congr 1; omega
theorem Len_eq (a b : Int) (h : In64 ⟨a, b⟩) : span_Len.f a b = some (lenI a b) := by rw [len_same', refLen_eq a b h]

/-- The first of the longest, from 'b' on. -/
def longP : List S23 → S23 → S23
  | [], b => b
  | s :: r, b => longP r (if lenI s.f0 s.f1 > lenI b.f0 b.f1 then s else b)

theorem long_go (l : List S23) (hb : ∀ s ∈ l, In64 s) : ∀ (r p : List S23) (b : S23) (k : Nat), l = p ++ r → In64 b → r.length < k → l.length ≤ 1000000 →
    span_Longest.l0 k l (l.length : Int) (p.length : Int) b.f0 b.f1 = some ((longP r b).f0, (longP r b).f1, !decide ((longP r b).f0 ≥ (longP r b).f1)) := by
  intro r
  induction r with
  | nil =>
    intro p b k hl hbb hk hm
    obtain ⟨k, rfl⟩ : ∃ m, k = m + 1 := ⟨k - 1, by omega⟩
    simp only [span_Longest.l0, longP, span_empty.f, Option.bind_some]
    rw [if_neg (by subst hl; simp)]
    rfl
  | cons t r ih =>
    intro p b k hl hbb hk hm
    obtain ⟨k, rfl⟩ : ∃ m, k = m + 1 := ⟨k - 1, by omega⟩
    have hlen : l.length = p.length + (r.length + 1) := by subst hl; simp
    simp only [List.length_cons] at hk
    have r1 : rd_T23 l (p.length : Int) = t := by rw [hl, rd23_mid]
    have hp : l = (p ++ [t]) ++ r := by rw [hl]; simp
    have hpl : ((p.length + 1 : Nat) : Int) = ((p ++ [t]).length : Int) := by simp
    have ht : In64 t := hb t (by rw [hl]; simp)
    simp only [span_Longest.l0]
    rw [if_pos (by omega), if_pos (by omega), if_pos (by omega), r1, Len_eq t.f0 t.f1 ht, Len_eq b.f0 b.f1 hbb, wrap_succ p.length (by omega), hpl]
    simp only [Option.bind_some, longP]
    by_cases h : lenI t.f0 t.f1 > lenI b.f0 b.f1
    · simp only [if_pos h]
      exact ih (p ++ [t]) t k hp ht (by omega) hm
    · simp only [if_neg h]
      exact ih (p ++ [t]) b k hp hbb (by omega) hm

theorem longP_in : ∀ (r : List S23) (b : S23), longP r b = b ∨ longP r b ∈ r
  | [], b => .inl rfl
  | s :: r, b => by
    unfold longP
    split
    · rcases longP_in r s with h | h
      · rw [h]; exact .inr List.mem_cons_self
      · exact .inr (List.mem_cons_of_mem _ h)
    · rcases longP_in r b with h | h
      · exact .inl h
      · exact .inr (List.mem_cons_of_mem _ h)

theorem in64_canon {l : List S23} (h : ∀ s ∈ l, In64 s) : ∀ s ∈ canonL l, In64 s :=
  canonL_ends (Q := fun n => -9223372036854775808 ≤ n ∧ n ≤ 9223372036854775807) h

theorem lenI_pos {s : S23} (h : s.f0 < s.f1) : 0 < lenI s.f0 s.f1 := by
  unfold lenI; rw [if_neg (by omega)]; omega

theorem Longest_eq (k : Nat) (l : List S23) (hb : ∀ s ∈ l, In64 s) (hk : 2 * l.length + 1 < k) (hm : l.length ≤ 100000) :
    span_Longest.f k l = some ((longP (canonL l) ⟨0, 0⟩).f0, (longP (canonL l) ⟨0, 0⟩).f1, !decide ((longP (canonL l) ⟨0, 0⟩).f0 ≥ (longP (canonL l) ⟨0, 0⟩).f1)) := by
  obtain ⟨a1, a2, a3⟩ := canonL_can l
  unfold span_Longest.f Ext.span_Canon.f
  rw [if_pos (by omega)]
  exact long_go (canonL l) (in64_canon hb) (canonL l) [] ⟨0, 0⟩ k rfl ⟨⟨by decide, by decide⟩, ⟨by decide, by decide⟩⟩ (by omega) (by omega)

/-- The first of the longest: where it stands. -/
theorem longP_first : ∀ (r : List S23) (b : S23), (longP r b = b ∧ ∀ u ∈ r, lenI u.f0 u.f1 ≤ lenI b.f0 b.f1) ∨
    (∃ p q, r = p ++ longP r b :: q ∧ lenI (longP r b).f0 (longP r b).f1 > lenI b.f0 b.f1 ∧ (∀ u ∈ p, lenI u.f0 u.f1 < lenI (longP r b).f0 (longP r b).f1) ∧ (∀ u ∈ q, lenI u.f0 u.f1 ≤ lenI (longP r b).f0 (longP r b).f1))
  | [], b => .inl ⟨rfl, fun u hu => by cases hu⟩
  | s :: r, b => by
    unfold longP
    by_cases h : lenI s.f0 s.f1 > lenI b.f0 b.f1
    · rw [if_pos h]
      rcases longP_first r s with ⟨h1, h2⟩ | ⟨p, q, h1, h2, h3, h4⟩
      · rw [h1]
        exact .inr ⟨[], r, rfl, h, (fun u hu => by cases hu), h2⟩
      · refine .inr ⟨s :: p, q, by rw [List.cons_append, ← h1], by omega, fun u hu => ?_, h4⟩
        rcases List.mem_cons.1 hu with rfl | hu
        · exact h2
        · exact h3 u hu
    · rw [if_neg h]
      rcases longP_first r b with ⟨h1, h2⟩ | ⟨p, q, h1, h2, h3, h4⟩
      · refine .inl ⟨h1, fun u hu => ?_⟩
        rcases List.mem_cons.1 hu with rfl | hu
        · omega
        · exact h2 u hu
      · refine .inr ⟨s :: p, q, by rw [List.cons_append, ← h1], h2, fun u hu => ?_, h4⟩
        rcases List.mem_cons.1 hu with rfl | hu
        · omega
        · exact h3 u hu


end Go.Proofs.Ytioglhaofcmebaa
