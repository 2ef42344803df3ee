/- Union of the reference: the canonical list of both. -/
import Derived.Test.YtioglhaofcmebaaMathR
import Derived.Test.YtioglhaofcmebaaPR5
import Derived.Test.YtioglhaofcmebaaMathC
namespace Go.Proofs.Ytioglhaofcmebaa
open Go.RowKit P
open Go.Proofs.YtioglhaofcmebaaW.PrintWords (mx mn)
set_option linter.unusedSimpArgs false
set_option linter.unusedVariables false

theorem union_go (l : List S23) : ∀ (r p out : List S23) (k : Nat), l = p ++ r → out.length + 2 * r.length < k → l.length ≤ 100000 → out.length + r.length ≤ 100000 → Can out →
    ∃ x, sawmillref03_Union.l0 k l out (p.length : Int) = some x ∧ Can x ∧ (∀ n, mem x n ↔ mem out n ∨ mem r n) := by
  intro r
  induction r with
  | nil =>
    intro p out k hl hk hm ho hc
    obtain ⟨k, rfl⟩ : ∃ m, k = m + 1 := ⟨k - 1, by omega⟩
    refine ⟨out, ?_, hc, fun n => ⟨.inl, fun h => h.elim id (fun h => absurd h (mem_nil n))⟩⟩
    simp only [sawmillref03_Union.l0]
    rw [if_neg (by subst hl; simp)]
  | cons t r ih =>
    intro p out k hl hk hm ho hc
    obtain ⟨k, rfl⟩ : ∃ m, k = m + 1 := ⟨k - 1, by omega⟩
    have hlen : l.length = p.length + (r.length + 1) := by subst hl; simp
    simp only [List.length_cons] at hk ho
    have r1 : rd_T23 l (p.length : Int) = t := by rw [hl, rd23_mid]
    have hp : l = (p ++ [t]) ++ r := by rw [hl]; simp
    have hpl : ((p.length + 1 : Nat) : Int) = ((p ++ [t]).length : Int) := by simp
    simp only [sawmillref03_Union.l0]
    rw [if_pos (by omega), if_pos (by omega), r1, wrap_succ p.length (by omega), hpl]
    by_cases h1 : t.f0 < t.f1
    · obtain ⟨q1, q2, q3⟩ := insP_set hc h1
      rw [if_pos h1, insert_eq k out t (by omega) (by omega)]
      simp only [Option.bind_some]
      obtain ⟨x, x1, x2, x3⟩ := ih (p ++ [t]) (insP out t [] []) k hp (by omega) hm (by omega) q1
      exact ⟨x, x1, x2, fun n => by rw [x3, q2, mem_cons, or_assoc]⟩
    · rw [if_neg h1]
      obtain ⟨x, x1, x2, x3⟩ := ih (p ++ [t]) out k hp (by omega) hm (by omega) hc
      refine ⟨x, x1, x2, fun n => ?_⟩
      rw [x3, mem_cons]
      constructor
      · rintro (h | h)
        · exact .inl h
        · exact .inr (.inr h)
      · rintro (h | h | h)
        · exact .inl h
        · omega
        · exact .inr h

theorem refUnion (k : Nat) (a b : List S23) (hk : 2 * a.length + 2 * b.length < k) (hm : a.length + b.length ≤ 100000) : sawmillref03_Union.f k a b = some (canonL (a ++ b)) := by
  obtain ⟨a1, a2, a3⟩ := canonL_can a
  obtain ⟨x, x1, x2, x3⟩ := union_go b b [] (canonL a) k rfl (by omega) (by omega) (by omega) a1
  have : x = canonL (a ++ b) := canonL_eq x2 (fun n => by rw [x3, a2, mem_append])
  unfold sawmillref03_Union.f
  rw [refCanon k a (by omega) (by omega), ← this]
  exact x1

#print axioms refUnion
end Go.Proofs.Ytioglhaofcmebaa
