/- Minus, on lists: canonical, of the members of the one that the other lacks. -/
import Derived.Test.YtioglhaofcmebaaPx0
import Derived.Test.YtioglhaofcmebaaPx1
import Derived.Test.YtioglhaofcmebaaPA1
import Derived.Test.YtioglhaofcmebaaPA3
import Derived.Test.YtioglhaofcmebaaMathC
namespace Go.Proofs.Ytioglhaofcmebaa
open Go.RowKit P
open Go.Proofs.YtioglhaofcmebaaW.PrintWords (mx mn)
set_option linter.unusedSimpArgs false
set_option linter.unusedVariables false

/-- What one span leaves behind the spans of y. -/
def cutP : List S23 → Int → Int → List S23 → List S23
  | [], a, b, out => if a < b then out ++ [⟨a, b⟩] else out
  | t :: r, a, b, out => if t.f1 ≤ a ∨ t.f0 ≥ b then cutP r a b out else cutP r (min t.f1 b) b (if a < t.f0 then out ++ [⟨a, t.f0⟩] else out)

theorem cutP_can : ∀ (r : List S23) (a b : Int) (out : List S23), Can r → a ≤ b → Can out → (∀ u ∈ out, u.f1 < a) →
    Can (cutP r a b out) ∧ (∀ n, mem (cutP r a b out) n ↔ mem out n ∨ ((a ≤ n ∧ n < b) ∧ ¬ mem r n)) ∧ (∀ u ∈ cutP r a b out, u ∈ out ∨ u.f1 ≤ b) ∧ (cutP r a b out).length ≤ out.length + r.length + 1 := by
  intro r
  induction r with
  | nil =>
    intro a b out hr hab ho hu
    unfold cutP
    by_cases h : a < b
    · rw [if_pos h]
      refine ⟨can_append.2 ⟨ho, can_cons.2 ⟨h, (fun v hv => by cases hv), Can.nil⟩, fun u hu' v hv => ?_⟩, fun n => ?_, fun u hu' => ?_, by simp⟩
      · rw [List.mem_singleton.1 hv]; exact hu u hu'
      · rw [mem_append, mem_cons]
        constructor
        · rintro (h1 | h1 | h1)
          · exact .inl h1
          · exact .inr ⟨h1, mem_nil n⟩
          · exact absurd h1 (mem_nil n)
        · rintro (h1 | ⟨h1, _⟩)
          · exact .inl h1
          · exact .inr (.inl h1)
      · rcases List.mem_append.1 hu' with h1 | h1
        · exact .inl h1
        · rw [List.mem_singleton.1 h1]; exact .inr (Int.le_refl b)
    · rw [if_neg h]
      refine ⟨ho, fun n => ⟨.inl, fun h1 => h1.elim id (fun h2 => by omega)⟩, fun u hu' => .inl hu', by simp⟩
  | cons t r ih =>
    intro a b out hr hab ho hu
    obtain ⟨t1, t2, t3⟩ := can_cons.1 hr
    unfold cutP
    by_cases h : t.f1 ≤ a ∨ t.f0 ≥ b
    · rw [if_pos h]
      obtain ⟨c1, c2, c3, c4⟩ := ih a b out t3 hab ho hu
      refine ⟨c1, fun n => ?_, c3, by simp only [List.length_cons]; omega⟩
      rw [c2, mem_cons]
      constructor
      · rintro (h1 | ⟨h1, h2⟩)
        · exact .inl h1
        · exact .inr ⟨h1, fun h3 => h3.elim (fun h4 => by omega) h2⟩
      · rintro (h1 | ⟨h1, h2⟩)
        · exact .inl h1
        · exact .inr ⟨h1, fun h3 => h2 (.inr h3)⟩
    · rw [if_neg h]
      have g1 : a < t.f1 := by omega
      have g2 : t.f0 < b := by omega
      have ho' : Can (if a < t.f0 then out ++ [⟨a, t.f0⟩] else out) := by
        split
        · rename_i q
          refine can_append.2 ⟨ho, can_cons.2 ⟨q, (fun v hv => by cases hv), Can.nil⟩, fun u hu' v hv => ?_⟩
          rw [List.mem_singleton.1 hv]; exact hu u hu'
        · exact ho
      have hu2 : ∀ u ∈ (if a < t.f0 then out ++ [⟨a, t.f0⟩] else out), u.f1 < min t.f1 b ∧ (u ∈ out ∨ u.f1 ≤ b) := by
        intro u hu'
        split at hu'
        · rcases List.mem_append.1 hu' with h1 | h1
          · have := hu u h1; exact ⟨by omega, .inl h1⟩
          · rw [List.mem_singleton.1 h1]; exact ⟨by show t.f0 < min t.f1 b; omega, .inr (by show t.f0 ≤ b; omega)⟩
        · have := hu u hu'; exact ⟨by omega, .inl hu'⟩
      have hl2 : (if a < t.f0 then out ++ [(⟨a, t.f0⟩ : S23)] else out).length ≤ out.length + 1 := by split <;> simp
      have hm2 : ∀ n, mem (if a < t.f0 then out ++ [⟨a, t.f0⟩] else out) n ↔ mem out n ∨ (a ≤ n ∧ n < t.f0) := by
        intro n
        split
        · rw [mem_append, mem_cons]
          constructor
          · rintro (h1 | h1 | h1)
            · exact .inl h1
            · exact .inr h1
            · exact absurd h1 (mem_nil n)
          · rintro (h1 | h1)
            · exact .inl h1
            · exact .inr (.inl h1)
        · exact ⟨.inl, fun h1 => h1.elim id (fun h2 => by omega)⟩
      obtain ⟨c1, c2, c3, c4⟩ := ih (min t.f1 b) b _ t3 (by omega) ho' (fun u hu' => (hu2 u hu').1)
      refine ⟨c1, fun n => ?_, fun u hu' => (c3 u hu').elim (fun h1 => (hu2 u h1).2) .inr, by simp only [List.length_cons]; omega⟩
      rw [c2, hm2, mem_cons]
      constructor
      · rintro ((h1 | h1) | ⟨h1, h2⟩)
        · exact .inl h1
        · refine .inr ⟨by omega, fun h3 => h3.elim (fun h4 => by omega) (fun ⟨v, hv, h4⟩ => by have := t2 v hv; omega)⟩
        · exact .inr ⟨by omega, fun h3 => h3.elim (fun h4 => by omega) h2⟩
      · rintro (h1 | ⟨h1, h2⟩)
        · exact .inl (.inl h1)
        · by_cases q : n < t.f0
          · exact .inl (.inr ⟨h1.1, q⟩)
          · have : ¬ n < t.f1 := fun h3 => h2 (.inl ⟨by omega, h3⟩)
            exact .inr ⟨by omega, fun h3 => h2 (.inr h3)⟩

/-- The inner loop. -/
theorem minus_in (x y : List S23) (i : Nat) : ∀ (r p : List S23) (a b : Int) (out : List S23) (k : Nat), y = p ++ r → 2 * r.length < k → y.length ≤ 1000000 → out.length + r.length ≤ 1000000 → i ≤ 1000000 → (x.length : Int) ≤ 1000000 →
    span_Minus.l1 (k + 1) out y x (x.length : Int) (i : Int) y (y.length : Int) (p.length : Int) a b = span_Minus.l0 (k - 2 * r.length) (cutP r a b out) y x (x.length : Int) ((i + 1 : Nat) : Int) := by
  intro r
  induction r with
  | nil =>
    intro p a b out k hy hk hm ho hi hx
    have hpl : (p.length : Int) = (y.length : Int) := by rw [hy]; simp
    simp only [span_Minus.l1, hpl]
    rw [if_neg (by omega)]
    simp only [span_empty.f, Option.bind_some, decide_eq_true_eq, cutP, wrap_succ i (by omega), List.length_nil, Nat.mul_zero, Nat.sub_zero]
    by_cases h : a < b
    · rw [if_neg (by omega), if_pos (by omega), if_pos h]
    · rw [if_pos (by omega), if_neg h]
  | cons t r ih =>
    intro p a b out k hy hk hm ho hi hx
    simp only [List.length_cons] at hk ho
    obtain ⟨k, rfl⟩ : ∃ m, k = m + 2 := ⟨k - 2, by omega⟩
    have hlen : y.length = p.length + (r.length + 1) := by subst hy; simp
    have r1 : rd_T23 y (p.length : Int) = t := by rw [hy, rd23_mid]
    have hp : y = (p ++ [t]) ++ r := by rw [hy]; simp
    have hpl : ((p.length + 1 : Nat) : Int) = ((p ++ [t]).length : Int) := by simp
    have hsub : k + 2 - 2 * (r.length + 1) = k - 2 * r.length := by omega
    have ih' := fun a out ho => ih (p ++ [t]) a b out k hp (by omega) hm ho hi hx
    rw [List.length_cons, hsub]
    conv => lhs; unfold span_Minus.l1
    rw [if_pos (by omega), if_pos (by omega), if_pos (by omega), r1]
    unfold cutP
    by_cases h1 : t.f1 ≤ a
    · rw [if_pos h1, if_pos (.inl h1)]
      simp only [span_Minus.j2, if_true]
      rw [wrap_succ p.length (by omega), hpl]
      exact ih' a out (by omega)
    · rw [if_neg h1]
      by_cases h2 : t.f0 ≥ b
      · rw [if_pos (Or.inr h2)]
        simp only [span_Minus.j2, decide_eq_true h2, if_true]
        rw [wrap_succ p.length (by omega), hpl]
        exact ih' a out (by omega)
      · rw [if_neg (fun h => h.elim h1 h2)]
        simp only [span_Minus.j2, decide_eq_false h2, Bool.false_eq_true, if_false, mn_eq]
        rw [wrap_succ p.length (by omega), hpl]
        by_cases h3 : a < t.f0
        · rw [if_pos h3, if_pos (by omega), if_pos h3]
          exact ih' _ _ (by simp; omega)
        · rw [if_neg h3, if_neg h3]
          exact ih' _ _ (by omega)

theorem minus_go (x y : List S23) (hy : Can y) : ∀ (r p out : List S23) (k : Nat), x = p ++ r → r.length * (2 * y.length + 2) < k → y.length ≤ 1000000 → out.length + r.length * (y.length + 1) ≤ 1000000 → x.length ≤ 1000000 → Can r → Can out → (∀ u ∈ out, ∀ s ∈ r, u.f1 < s.f0) →
    ∃ z, span_Minus.l0 k out y x (x.length : Int) (p.length : Int) = some z ∧ Can z ∧ (∀ n, mem z n ↔ mem out n ∨ (mem r n ∧ ¬ mem y n)) ∧ z.length ≤ out.length + r.length * (y.length + 1) := by
  intro r
  induction r with
  | nil =>
    intro p out k hx hk hm ho hxm hr hc hu
    obtain ⟨k, rfl⟩ : ∃ m, k = m + 1 := ⟨k - 1, by omega⟩
    have hpl : (p.length : Int) = (x.length : Int) := by rw [hx]; simp
    refine ⟨out, ?_, hc, fun n => ⟨.inl, fun h => h.elim id (fun h => absurd h.1 (mem_nil n))⟩, by omega⟩
    simp only [span_Minus.l0, hpl]
    rw [if_neg (by omega)]
  | cons s r ih =>
    intro p out k hx hk hm ho hxm hr hc hu
    obtain ⟨s1, s2, s3⟩ := can_cons.1 hr
    have hlen : x.length = p.length + (r.length + 1) := by subst hx; simp
    have e1 : (r.length + 1) * (2 * y.length + 2) = r.length * (2 * y.length + 2) + (2 * y.length + 2) := Nat.succ_mul _ _
    have e2 : (r.length + 1) * (y.length + 1) = r.length * (y.length + 1) + (y.length + 1) := Nat.succ_mul _ _
    simp only [List.length_cons] at hk ho
    rw [e1] at hk
    rw [e2] at ho
    obtain ⟨k, rfl⟩ : ∃ m, k = m + 2 := ⟨k - 2, by omega⟩
    have r1 : rd_T23 x (p.length : Int) = s := by rw [hx, rd23_mid]
    have hp : x = (p ++ [s]) ++ r := by rw [hx]; simp
    have hpl : ((p.length + 1 : Nat) : Int) = ((p ++ [s]).length : Int) := by simp
    obtain ⟨c1, c2, c3, c4⟩ := cutP_can y s.f0 s.f1 out hy (by omega) hc (fun u hu' => hu u hu' s List.mem_cons_self)
    obtain ⟨z, z1, z2, z3, z4⟩ := ih (p ++ [s]) (cutP y s.f0 s.f1 out) (k - 2 * y.length) hp (by omega) hm (by omega) hxm s3 c1 (fun u hu' v hv => by
      rcases c3 u hu' with h | h
      · exact hu u h v (List.mem_cons_of_mem _ hv)
      · have := s2 v hv; omega)
    refine ⟨z, ?_, z2, fun n => ?_, by simp only [List.length_cons]; omega⟩
    · conv => lhs; unfold span_Minus.l0
      rw [if_pos (by omega), if_pos (by omega), if_pos (by omega), r1]
      have := minus_in x y p.length y [] s.f0 s.f1 out k rfl (by omega) hm (by omega) (by omega) (by omega)
      rw [show (([] : List S23).length : Int) = 0 from rfl] at this
      rw [this, hpl]
      exact z1
    · rw [z3, c2, mem_cons]
      constructor
      · rintro ((h | ⟨h, h'⟩) | ⟨h, h'⟩)
        · exact .inl h
        · exact .inr ⟨.inl h, h'⟩
        · exact .inr ⟨.inr h, h'⟩
      · rintro (h | ⟨h | h, h'⟩)
        · exact .inl (.inl h)
        · exact .inl (.inr ⟨h, h'⟩)
        · exact .inr ⟨h, h'⟩

/-- Minus of any two lists. -/
theorem Minus_eq (k : Nat) (a b : List S23) (ha : a.length ≤ 1000) (hb : b.length ≤ 900) (hk : 2000000 < k) :
    ∃ z, span_Minus.f k a b = some z ∧ Can z ∧ (∀ n, mem z n ↔ mem a n ∧ ¬ mem b n) ∧ z.length ≤ a.length * (b.length + 1) := by
  obtain ⟨a1, a2, a3⟩ := canonL_can a
  obtain ⟨b1, b2, b3⟩ := canonL_can b
  have hm1 : (canonL a).length * (2 * (canonL b).length + 2) ≤ 1000 * 1802 := Nat.mul_le_mul (by omega) (by omega)
  have hm2 : (canonL a).length * ((canonL b).length + 1) ≤ a.length * (b.length + 1) := Nat.mul_le_mul (by omega) (by omega)
  have hm3 : a.length * (b.length + 1) ≤ 1000 * 901 := Nat.mul_le_mul (by omega) (by omega)
  obtain ⟨z, z1, z2, z3, z4⟩ := minus_go (canonL a) (canonL b) b1 (canonL a) [] [] k rfl (by omega) (by omega) (by simp only [List.length_nil]; omega) (by omega) a1 Can.nil (fun u hu => by cases hu)
  refine ⟨z, ?_, z2, fun n => ?_, by simp only [List.length_nil] at z4; omega⟩
  · unfold span_Minus.f Ext.span_Canon.f
    rw [if_pos (by omega), if_pos (by omega)]
    exact z1
  · rw [z3, a2, b2]
    exact ⟨fun h => h.elim (fun h => absurd h (mem_nil n)) id, .inr⟩

#print axioms Minus_eq
end Go.Proofs.Ytioglhaofcmebaa
