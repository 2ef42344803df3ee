/- Is, Same: the program's and the reference's. -/
import Derived.Test.YtioglhaofcmebaaPx0
import Derived.Test.YtioglhaofcmebaaPx1
import Derived.Test.YtioglhaofcmebaaPA1
import Derived.Test.YtioglhaofcmebaaPR4
import Derived.Test.YtioglhaofcmebaaMathR
namespace Go.Proofs.Ytioglhaofcmebaa
open Go.RowKit P
set_option linter.unusedSimpArgs false
set_option linter.unusedVariables false

theorem is_go (l : List S23) : ∀ (r p : List S23) (k : Nat), l = p ++ r → r.length < k → l.length ≤ 1000000 → ∃ b, sawmillref03_Is.l0 k l (p.length : Int) = some b ∧ (Can l → b = true) := by
  intro r
  induction r with
  | nil =>
    intro p k hl hk hm
    obtain ⟨k, rfl⟩ : ∃ m, k = m + 1 := ⟨k - 1, by omega⟩
    refine ⟨true, ?_, fun _ => rfl⟩
    simp only [sawmillref03_Is.l0]
    rw [if_neg (by subst hl; simp)]
  | cons t r ih =>
    intro p k hl hk hm
    obtain ⟨k, rfl⟩ : ∃ m, k = m + 1 := ⟨k - 1, by omega⟩
    have hlen : l.length = p.length + (r.length + 1) := by subst hl; simp
    simp only [List.length_cons] at hk
    have r1 : rd_T23 l (p.length : Int) = t := by rw [hl, rd23_mid]
    have hp : l = (p ++ [t]) ++ r := by rw [hl]; simp
    have hpl : ((p.length + 1 : Nat) : Int) = ((p ++ [t]).length : Int) := by simp
    have hih := ih (p ++ [t]) k hp (by omega) hm
    simp only [sawmillref03_Is.l0]
    rw [if_pos (by omega), if_pos (by omega), r1, wrap_succ p.length (by omega), hpl]
    by_cases h1 : t.f0 ≥ t.f1
    · rw [if_pos h1]
      refine ⟨false, rfl, fun hc => ?_⟩
      have := hc.1 t (by rw [hl]; simp)
      omega
    · rw [if_neg h1]
      rcases snoc_cases p with rfl | ⟨q, u, rfl⟩
      · rw [if_neg (by simp)]
        exact hih
      · have e : (q ++ [u]).length = q.length + 1 := by simp
        have hw : wrap64 (((q ++ [u]).length : Int) - 1) = (q.length : Int) := by
          rw [e] at hlen ⊢
          unfold wrap64
          omega
        have hu : rd_T23 l (q.length : Int) = u := by rw [hl, List.append_assoc]; exact rd23_mid q u _
        rw [hw, if_pos (by simp), if_pos (by omega), if_pos (by rw [hlen]; simp; omega), hu]
        by_cases h2 : t.f0 ≤ u.f1
        · rw [if_pos h2]
          refine ⟨false, rfl, fun hc => ?_⟩
          rw [hl] at hc
          have := (can_append.1 hc).2.2 u (by simp) t (by simp)
          omega
        · rw [if_neg h2]
          exact hih

theorem is_same (l : List S23) : ∀ (k : Nat) (i : Int), span_Is.l0 k l l (l.length : Int) i = sawmillref03_Is.l0 k l i := by
  intro k
  induction k with
  | zero => intro i; rfl
  | succ k ih =>
    intro i
    simp only [span_Is.l0, sawmillref03_Is.l0, span_empty.f, Option.bind_some, decide_eq_true_eq, ih]
    by_cases h : i < (l.length : Int)
    · simp only [if_pos h]
    · simp only [if_neg h]

/-- Both are the same, and true of a canonical list. -/
theorem Is_eq (k : Nat) (l : List S23) (hk : l.length < k) (hm : l.length ≤ 1000000) : ∃ b, span_Is.f k l = some b ∧ sawmillref03_Is.f k l = some b ∧ (Can l → b = true) := by
  obtain ⟨b, h1, h2⟩ := is_go l l [] k rfl hk hm
  exact ⟨b, (is_same l k 0).trans h1, h1, h2⟩

#print axioms Is_eq
#print axioms Same_refl
end Go.Proofs.Ytioglhaofcmebaa
