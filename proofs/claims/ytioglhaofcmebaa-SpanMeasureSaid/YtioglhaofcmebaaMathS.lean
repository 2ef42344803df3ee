/- Small laws on lists; equal lists are the same. -/
import Derived.Test.YtioglhaofcmebaaPx0
import Derived.Test.YtioglhaofcmebaaPA1
import Derived.Test.YtioglhaofcmebaaMath
import Derived.Test.YtioglhaofcmebaaSpB
namespace Go.Proofs.Ytioglhaofcmebaa
open Go.RowKit P
set_option linter.unusedSimpArgs false
set_option linter.unusedVariables false

theorem wrap_succ (n : Nat) (h : n ≤ 4611686018427387904) : wrap64 ((n : Int) + 1) = ((n + 1 : Nat) : Int) := by
  unfold wrap64; omega
theorem rd23_mid (a : List S23) (e : S23) (b : List S23) : rd_T23 (a ++ e :: b) (a.length : Int) = e := by
  simp [rd_T23]

theorem rd23_zero (s : S23) (r : List S23) : rd_T23 (s :: r) 0 = s := rfl

theorem same_go (l m : List S23) (hlm : l.length = m.length) : ∀ (r s p : List S23) (q : List S23) (k : Nat), l = p ++ r → m = q ++ s → p = q → r.length < k → l.length ≤ 1000000 → r = s → sawmillref03_Same.l0 k l m (p.length : Int) = some true := by
  intro r
  induction r with
  | nil =>
    intro s p q k hl hm' hpq hk hb hrs
    obtain ⟨k, rfl⟩ : ∃ m, k = m + 1 := ⟨k - 1, by omega⟩
    simp only [sawmillref03_Same.l0]
    rw [if_neg (by subst hl; simp)]
  | cons t r ih =>
    intro s p q k hl hm' hpq hk hb hrs
    obtain ⟨k, rfl⟩ : ∃ m, k = m + 1 := ⟨k - 1, by omega⟩
    subst hrs hpq
    have hlen : l.length = p.length + (r.length + 1) := by subst hl; simp
    simp only [List.length_cons] at hk
    have r1 : rd_T23 l (p.length : Int) = t := by rw [hl, rd23_mid]
    have r2 : rd_T23 m (p.length : Int) = t := by rw [hm', rd23_mid]
    have hpl : ((p.length + 1 : Nat) : Int) = ((p ++ [t]).length : Int) := by simp
    have hih := ih r (p ++ [t]) (p ++ [t]) k (by rw [hl]; simp) (by rw [hm']; simp) rfl (by omega) hb rfl
    simp only [sawmillref03_Same.l0]
    rw [r1, r2, wrap_succ p.length (by omega), hpl, hih]
    simp
    omega

theorem Same_refl (k : Nat) (l : List S23) (hk : l.length < k) (hm : l.length ≤ 1000000) : sawmillref03_Same.f k l l = some true := by
  unfold sawmillref03_Same.f
  rw [if_pos rfl]
  exact same_go l l rfl l l [] [] k rfl rfl rfl hk hm rfl

theorem any_mem (l : List S23) (n : Int) : l.any (pH n) = true ↔ mem l n := by
  rw [List.any_eq_true]
  constructor
  · rintro ⟨s, hs, h⟩
    simp only [pH, Bool.and_eq_true, decide_eq_true_eq] at h
    exact ⟨s, hs, h⟩
  · rintro ⟨s, hs, h⟩
    exact ⟨s, hs, by simpa [pH] using h⟩


end Go.Proofs.Ytioglhaofcmebaa
