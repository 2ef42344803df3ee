/- Len, Total and Longest, on lists. -/
import Derived.Test.YtioglhaofcmebaaMathH
import Derived.Test.YtioglhaofcmebaaMathT
import Derived.Test.YtioglhaofcmebaaMathR
import Derived.Test.YtioglhaofcmebaaPx0
import Derived.Test.YtioglhaofcmebaaPx1
import Derived.Test.YtioglhaofcmebaaPA1
import Derived.Test.YtioglhaofcmebaaPA3
import Derived.Test.YtioglhaofcmebaaPR1
import Derived.Test.YtioglhaofcmebaaPR7
import Derived.Test.YtioglhaofcmebaaPR8
import Derived.Test.YtioglhaofcmebaaMathL
namespace Go.Proofs.Ytioglhaofcmebaa
open Go.RowKit P
set_option linter.unusedSimpArgs false
set_option linter.unusedVariables false

theorem len_ex (a b : Int) : ∃ x, sawmillref03_Len.f a b = some x := by
  unfold sawmillref03_Len.f
  split
  · exact ⟨_, rfl⟩
  · split
    · split <;> exact ⟨_, rfl⟩
    · exact ⟨_, rfl⟩

/-- Total ends. -/
theorem total_ex (l : List S23) : ∀ (r p : List S23) (x : Int) (k : Nat), l = p ++ r → r.length < k → l.length ≤ 1000000 → ∃ v, sawmillref03_Total.l0 k x l (p.length : Int) = some v := by
  intro r
  induction r with
  | nil =>
    intro p x k hl hk hm
    obtain ⟨k, rfl⟩ : ∃ m, k = m + 1 := ⟨k - 1, by omega⟩
    refine ⟨x, ?_⟩
    simp only [sawmillref03_Total.l0]
    rw [if_neg (by subst hl; simp)]
  | cons t r ih =>
    intro p x k hl hk hm
    obtain ⟨k, rfl⟩ : ∃ m, k = m + 1 := ⟨k - 1, by omega⟩
    have hlen : l.length = p.length + (r.length + 1) := by subst hl; simp
    simp only [List.length_cons] at hk
    have hp : l = (p ++ [t]) ++ r := by rw [hl]; simp
    have hpl : ((p.length + 1 : Nat) : Int) = ((p ++ [t]).length : Int) := by simp
    obtain ⟨v, hv⟩ := len_ex (rd_T23 l (p.length : Int)).f0 (rd_T23 l (p.length : Int)).f1
    simp only [sawmillref03_Total.l0]
    rw [if_pos (by omega), if_pos (by omega), hv, wrap_succ p.length (by omega), hpl]
    simp only [Option.bind_some]
    split
    · exact ⟨_, rfl⟩
    · exact ih (p ++ [t]) _ k hp (by omega) hm

theorem Totals_eq (k : Nat) (l : List S23) (hk : 2 * l.length < k) (hm : l.length ≤ 100000) : ∃ v, span_Total.f k l = some v ∧ sawmillref03_Total.f k l = some v := by
  obtain ⟨a1, a2, a3⟩ := canonL_can l
  obtain ⟨v, hv⟩ := total_ex (canonL l) (canonL l) [] 0 k rfl (by omega) (by omega)
  refine ⟨v, ?_, ?_⟩
  · unfold span_Total.f Ext.span_Canon.f
    rw [if_pos (by omega)]
    exact (total_same (canonL l) k 0 0).trans hv
  · unfold sawmillref03_Total.f
    rw [refCanon k l hk hm]
    exact hv

theorem rlong_go (l : List S23) (hb : ∀ s ∈ l, In64 s) : ∀ (r p : List S23) (b : S23) (k : Nat), l = p ++ r → In64 b → r.length < k → l.length ≤ 1000000 →
    sawmillref03_Longest.l0 k l (p.length : Int) b.f0 b.f1 = some ((longP r b).f0, (longP r b).f1, true) := by
  intro r
  induction r with
  | nil =>
    intro p b k hl hbb hk hm
    obtain ⟨k, rfl⟩ : ∃ m, k = m + 1 := ⟨k - 1, by omega⟩
    simp only [sawmillref03_Longest.l0, longP]
    rw [if_neg (by subst hl; simp)]
  | cons t r ih =>
    intro p b k hl hbb hk hm
    obtain ⟨k, rfl⟩ : ∃ m, k = m + 1 := ⟨k - 1, by omega⟩
    have hlen : l.length = p.length + (r.length + 1) := by subst hl; simp
    simp only [List.length_cons] at hk
    have r1 : rd_T23 l (p.length : Int) = t := by rw [hl, rd23_mid]
    have hp : l = (p ++ [t]) ++ r := by rw [hl]; simp
    have hpl : ((p.length + 1 : Nat) : Int) = ((p ++ [t]).length : Int) := by simp
    have ht : In64 t := hb t (by rw [hl]; simp)
    simp only [sawmillref03_Longest.l0]
    rw [if_pos (by omega), if_pos (by omega), r1, refLen_eq t.f0 t.f1 ht, refLen_eq b.f0 b.f1 hbb, wrap_succ p.length (by omega), hpl]
    simp only [Option.bind_some, longP]
    by_cases h : lenI t.f0 t.f1 > lenI b.f0 b.f1
    · simp only [if_pos h]
      exact ih (p ++ [t]) t k hp ht (by omega) hm
    · simp only [if_neg h]
      exact ih (p ++ [t]) b k hp hbb (by omega) hm

theorem Longests_eq (k : Nat) (l : List S23) (hb : ∀ s ∈ l, In64 s) (hk : 2 * l.length + 1 < k) (hm : l.length ≤ 100000) :
    ∃ v, span_Longest.f k l = some v ∧ sawmillref03_Longest.f k l = some v := by
  obtain ⟨a1, a2, a3⟩ := canonL_can l
  have hb' := in64_canon hb
  refine ⟨_, Longest_eq k l hb hk hm, ?_⟩
  unfold sawmillref03_Longest.f
  rw [refCanon k l (by omega) hm]
  simp only [Option.bind_some]
  cases hc : canonL l with
  | nil => rfl
  | cons s r =>
    rw [hc] at a1 a3 hb'
    obtain ⟨s1, s2, s3⟩ := can_cons.1 a1
    simp only [List.length_cons] at a3
    rw [if_neg (by simp only [List.length_cons]; omega), if_pos (by simp only [List.length_cons]; omega), rd23_zero]
    have := rlong_go (s :: r) hb' r [s] s k rfl (hb' s List.mem_cons_self) (by omega) (by simp; omega)
    rw [show (([s] : List S23).length : Int) = 1 from rfl] at this
    rw [this]
    have e0 : lenI 0 0 = 0 := by unfold lenI; rw [if_pos (by omega)]
    have e : longP (s :: r) ⟨0, 0⟩ = longP r s := by
      show longP r (if lenI s.f0 s.f1 > lenI 0 0 then s else ⟨0, 0⟩) = longP r s
      rw [e0, if_pos (lenI_pos s1)]
    rw [e]
    have hne : ¬ (longP r s).f0 ≥ (longP r s).f1 := by
      have : (longP r s) ∈ s :: r := (longP_in r s).elim (fun h => by rw [h]; exact List.mem_cons_self) (fun h => List.mem_cons_of_mem _ h)
      have := a1.1 _ this
      omega
    rw [decide_eq_false hne]
    rfl

#print axioms Totals_eq
#print axioms Longests_eq
end Go.Proofs.Ytioglhaofcmebaa
