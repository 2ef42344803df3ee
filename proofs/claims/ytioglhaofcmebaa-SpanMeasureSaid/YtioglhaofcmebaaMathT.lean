/- Has and Total: the program's and the reference's. -/
import Derived.Test.YtioglhaofcmebaaMathH
import Derived.Test.YtioglhaofcmebaaPx0
import Derived.Test.YtioglhaofcmebaaPx1
import Derived.Test.YtioglhaofcmebaaPA1
import Derived.Test.YtioglhaofcmebaaPA3
import Derived.Test.YtioglhaofcmebaaPR1
import Derived.Test.YtioglhaofcmebaaPR8
import Derived.Test.YtioglhaofcmebaaPR9
import Derived.Test.YtioglhaofcmebaaMathI
namespace Go.Proofs.Ytioglhaofcmebaa
open Go.RowKit P
set_option linter.unusedSimpArgs false
set_option linter.unusedVariables false

theorem refHas_go (l : List S23) (n : Int) : ∀ (r p : List S23) (k : Nat), l = p ++ r → r.length < k → l.length ≤ 1000000 → sawmillref03_Has.l0 k l n (p.length : Int) = some (r.any (pH n)) := by
  intro r
  induction r with
  | nil =>
    intro p k hl hk hm
    obtain ⟨k, rfl⟩ : ∃ m, k = m + 1 := ⟨k - 1, by omega⟩
    simp only [sawmillref03_Has.l0]
    rw [if_neg (by subst hl; simp)]
    rfl
  | cons t r ih =>
    intro p k hl hk hm
    obtain ⟨k, rfl⟩ : ∃ m, k = m + 1 := ⟨k - 1, by omega⟩
    have hlen : l.length = p.length + (r.length + 1) := by subst hl; simp
    simp only [List.length_cons] at hk
    have r1 : rd_T23 l (p.length : Int) = t := by rw [hl, rd23_mid]
    have hpl : ((p.length + 1 : Nat) : Int) = ((p ++ [t]).length : Int) := by simp
    have hih := ih (p ++ [t]) k (by rw [hl]; simp) (by omega) hm
    simp only [sawmillref03_Has.l0]
    rw [if_pos (by omega), if_pos (by omega), r1, wrap_succ p.length (by omega), hpl, hih]
    by_cases h1 : t.f0 ≤ n
    · rw [if_pos h1]
      by_cases h2 : n < t.f1
      · rw [if_pos h2]; simp [pH, h1, h2]
      · rw [if_neg h2]; simp [pH, h1, h2]
    · rw [if_neg h1]; simp [pH, h1]
theorem refHas (k : Nat) (l : List S23) (n : Int) (hk : l.length < k) (hm : l.length ≤ 1000000) : sawmillref03_Has.f k l n = some (l.any (pH n)) := refHas_go l n l [] k rfl hk hm

theorem total_same (l : List S23) : ∀ (k : Nat) (x i : Int), span_Total.l0 k x l (l.length : Int) i = sawmillref03_Total.l0 k x l i := by
  intro k
  induction k with
  | zero => intro x i; rfl
  | succ k ih =>
    intro x i
    simp only [span_Total.l0, sawmillref03_Total.l0, len_same', ih]
    by_cases h : i < (l.length : Int)
    · simp only [if_pos h]
      by_cases h0 : 0 ≤ i
      · simp only [if_pos h0]
        cases sawmillref03_Len.f (rd_T23 l i).f0 (rd_T23 l i).f1 with
        | none => rfl
        | some v => simp
      · simp only [if_neg h0]
    · simp only [if_neg h]

#print axioms refHas
#print axioms total_same
end Go.Proofs.Ytioglhaofcmebaa
