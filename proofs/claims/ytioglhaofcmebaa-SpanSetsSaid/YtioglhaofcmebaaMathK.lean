/- Common, of the program and of the reference: canonical, of the members of both. -/
import Derived.Test.YtioglhaofcmebaaMathR
import Derived.Test.YtioglhaofcmebaaPx0
import Derived.Test.YtioglhaofcmebaaPx1
import Derived.Test.YtioglhaofcmebaaPA2
import Derived.Test.YtioglhaofcmebaaPR2
import Derived.Test.YtioglhaofcmebaaPR6
import Derived.Test.YtioglhaofcmebaaMathC
namespace Go.Proofs.Ytioglhaofcmebaa
open Go.RowKit P
open Go.Proofs.YtioglhaofcmebaaW.PrintWords (mx mn)
set_option linter.unusedSimpArgs false
set_option linter.unusedVariables false

def meetP : List S23 → S23 → List S23 → List S23
  | [], s, out => out
  | t :: q, s, out => meetP q s (if max s.f0 t.f0 < min s.f1 t.f1 then out ++ [⟨max s.f0 t.f0, min s.f1 t.f1⟩] else out)

theorem meetP_can (s : S23) : ∀ (q out : List S23), Can q → Can out → (∀ u ∈ out, u.f1 < s.f0 ∨ ∀ t ∈ q, u.f1 < t.f0) →
    Can (meetP q s out) ∧ (∀ n, mem (meetP q s out) n ↔ mem out n ∨ ((s.f0 ≤ n ∧ n < s.f1) ∧ mem q n)) ∧ (∀ u ∈ meetP q s out, u ∈ out ∨ u.f1 ≤ s.f1) ∧ (meetP q s out).length ≤ out.length + q.length := by
  intro q
  induction q with
  | nil =>
    intro out hq ho hu
    refine ⟨ho, fun n => ⟨.inl, fun h => h.elim id (fun h => absurd h.2 (mem_nil n))⟩, fun u hu' => .inl hu', Nat.le_add_right _ _⟩
  | cons t q ih =>
    intro out hq ho hu
    obtain ⟨t1, t2, t3⟩ := can_cons.1 hq
    unfold meetP
    by_cases h : max s.f0 t.f0 < min s.f1 t.f1
    · rw [if_pos h]
      obtain ⟨c1, c2, c3, c4⟩ := ih (out ++ [⟨max s.f0 t.f0, min s.f1 t.f1⟩]) t3 (can_append.2 ⟨ho, can_cons.2 ⟨h, (fun v hv => by cases hv), Can.nil⟩, fun u hu' v hv => by
        rw [List.mem_singleton.1 hv]
        show u.f1 < max s.f0 t.f0
        rcases hu u hu' with h1 | h1
        · omega
        · have := h1 t List.mem_cons_self; omega⟩) (fun u hu' => by
        rcases List.mem_append.1 hu' with h1 | h1
        · rcases hu u h1 with h2 | h2
          · exact .inl h2
          · exact .inr (fun v hv => h2 v (List.mem_cons_of_mem _ hv))
        · rw [List.mem_singleton.1 h1]
          refine .inr (fun v hv => ?_)
          have := t2 v hv
          show min s.f1 t.f1 < v.f0
          omega)
      refine ⟨c1, fun n => ?_, fun u hu' => ?_, by simp only [List.length_append, List.length_cons, List.length_nil] at c4 ⊢; omega⟩
      · rw [c2, mem_append, mem_cons, mem_cons t]
        constructor
        · rintro ((h1 | h1 | h1) | ⟨h1, h2⟩)
          · exact .inl h1
          · have h1 : max s.f0 t.f0 ≤ n ∧ n < min s.f1 t.f1 := h1
            exact .inr ⟨by omega, .inl (by omega)⟩
          · exact absurd h1 (mem_nil n)
          · exact .inr ⟨h1, .inr h2⟩
        · rintro (h1 | ⟨h1, h2 | h2⟩)
          · exact .inl (.inl h1)
          · exact .inl (.inr (.inl (show max s.f0 t.f0 ≤ n ∧ n < min s.f1 t.f1 by omega)))
          · exact .inr ⟨h1, h2⟩
      · rcases c3 u hu' with h1 | h1
        · rcases List.mem_append.1 h1 with h2 | h2
          · exact .inl h2
          · rw [List.mem_singleton.1 h2]; exact .inr (by show min s.f1 t.f1 ≤ s.f1; omega)
        · exact .inr h1
    · rw [if_neg h]
      obtain ⟨c1, c2, c3, c4⟩ := ih out t3 ho (fun u hu' => (hu u hu').elim .inl (fun h1 => .inr (fun v hv => h1 v (List.mem_cons_of_mem _ hv))))
      refine ⟨c1, fun n => ?_, c3, by simp only [List.length_cons]; omega⟩
      rw [c2, mem_cons]
      constructor
      · rintro (h1 | ⟨h1, h2⟩)
        · exact .inl h1
        · exact .inr ⟨h1, .inr h2⟩
      · rintro (h1 | ⟨h1, h2 | h2⟩)
        · exact .inl h1
        · omega
        · exact .inr ⟨h1, h2⟩

theorem refMeet_eq (a b c d : Int) : sawmillref03_Meet.f a b c d = some (if max a c < min b d then (max a c, min b d) else (0, 0)) := by
  unfold sawmillref03_Meet.f
  rw [mx_eq, mn_eq]
  by_cases h : max a c < min b d
  · rw [if_neg (by omega), if_pos h]
  · rw [if_pos (by omega), if_neg h]

theorem rcommon_in (x y : List S23) (i : Nat) (s : S23) (hi : i < x.length) (hs : rd_T23 x (i : Int) = s) : ∀ (r p out : List S23) (k : Nat), y = p ++ r → r.length < k → y.length ≤ 1000000 → out.length + r.length ≤ 1000000 → x.length ≤ 1000000 →
    sawmillref03_Common.l1 (k + 1) x y out (i : Int) (p.length : Int) = sawmillref03_Common.l0 (k - r.length) x y (meetP r s out) ((i + 1 : Nat) : Int) := by
  intro r
  induction r with
  | nil =>
    intro p out k hy hk hm ho hx
    have hpl : (p.length : Int) = (y.length : Int) := by rw [hy]; simp
    simp only [sawmillref03_Common.l1, hpl]
    rw [if_neg (by omega), wrap_succ i (by omega)]
    rfl
  | cons t r ih =>
    intro p out k hy hk hm ho hx
    simp only [List.length_cons] at hk ho
    obtain ⟨k, rfl⟩ : ∃ m, k = m + 1 := ⟨k - 1, by omega⟩
    have hlen : y.length = p.length + (r.length + 1) := by subst hy; simp
    have r1 : rd_T23 y (p.length : Int) = t := by rw [hy, rd23_mid]
    have hp : y = (p ++ [t]) ++ r := by rw [hy]; simp
    have hpl : ((p.length + 1 : Nat) : Int) = ((p ++ [t]).length : Int) := by simp
    have hsub : k + 1 - (r.length + 1) = k - r.length := by omega
    rw [List.length_cons, hsub]
    conv => lhs; unfold sawmillref03_Common.l1
    rw [if_pos (by omega), if_pos (by omega), if_pos (by omega), if_pos (by omega), r1, hs, refMeet_eq]
    simp only [Option.bind_some]
    rw [wrap_succ p.length (by omega), hpl]
    unfold meetP
    by_cases h : max s.f0 t.f0 < min s.f1 t.f1
    · simp only [if_pos h]
      rw [if_pos (by omega)]
      exact ih (p ++ [t]) _ k hp (by omega) hm (by simp; omega) hx
    · simp only [if_neg h]
      rw [if_neg (by omega)]
      exact ih (p ++ [t]) _ k hp (by omega) hm (by omega) hx

theorem rcommon_go (x y : List S23) (hy : Can y) : ∀ (r p out : List S23) (k : Nat), x = p ++ r → r.length * (y.length + 2) < k → y.length ≤ 1000000 → out.length + r.length * y.length ≤ 1000000 → x.length ≤ 1000000 → Can r → Can out → (∀ u ∈ out, ∀ s ∈ r, u.f1 < s.f0) →
    ∃ z, sawmillref03_Common.l0 k x y out (p.length : Int) = some z ∧ Can z ∧ (∀ n, mem z n ↔ mem out n ∨ (mem r n ∧ mem y n)) := by
  intro r
  induction r with
  | nil =>
    intro p out k hx hk hm ho hxm hr hc hu
    obtain ⟨k, rfl⟩ : ∃ m, k = m + 1 := ⟨k - 1, by omega⟩
    have hpl : (p.length : Int) = (x.length : Int) := by rw [hx]; simp
    refine ⟨out, ?_, hc, fun n => ⟨.inl, fun h => h.elim id (fun h => absurd h.1 (mem_nil n))⟩⟩
    simp only [sawmillref03_Common.l0, hpl]
    rw [if_neg (by omega)]
  | cons s r ih =>
    intro p out k hx hk hm ho hxm hr hc hu
    obtain ⟨s1, s2, s3⟩ := can_cons.1 hr
    have hlen : x.length = p.length + (r.length + 1) := by subst hx; simp
    have e1 : (r.length + 1) * (y.length + 2) = r.length * (y.length + 2) + (y.length + 2) := Nat.succ_mul _ _
    have e2 : (r.length + 1) * y.length = r.length * y.length + y.length := Nat.succ_mul _ _
    simp only [List.length_cons] at hk ho
    rw [e1] at hk
    rw [e2] at ho
    obtain ⟨k, rfl⟩ : ∃ m, k = m + 2 := ⟨k - 2, by omega⟩
    have r1 : rd_T23 x (p.length : Int) = s := by rw [hx, rd23_mid]
    have hp : x = (p ++ [s]) ++ r := by rw [hx]; simp
    have hpl : ((p.length + 1 : Nat) : Int) = ((p ++ [s]).length : Int) := by simp
    obtain ⟨c1, c2, c3, c4⟩ := meetP_can s y out hy hc (fun u hu' => .inl (hu u hu' s List.mem_cons_self))
    obtain ⟨z, z1, z2, z3⟩ := ih (p ++ [s]) (meetP y s out) (k - y.length) hp (by omega) hm (by omega) hxm s3 c1 (fun u hu' v hv => by
      rcases c3 u hu' with h | h
      · exact hu u h v (List.mem_cons_of_mem _ hv)
      · have := s2 v hv; omega)
    refine ⟨z, ?_, z2, fun n => ?_⟩
    · conv => lhs; unfold sawmillref03_Common.l0
      rw [if_pos (by omega)]
      have := rcommon_in x y p.length s (by omega) r1 y [] out k rfl (by omega) hm (by omega) hxm
      rw [show (([] : List S23).length : Int) = 0 from rfl] at this
      rw [this, hpl]
      exact z1
    · rw [z3, c2, mem_cons]
      constructor
      · rintro ((h | ⟨h, h'⟩) | ⟨h, h'⟩)
        · exact .inl h
        · exact .inr ⟨.inl h, h'⟩
        · exact .inr ⟨.inr h, h'⟩
      · rintro (h | ⟨h | h, h'⟩)
        · exact .inl (.inl h)
        · exact .inl (.inr ⟨h, h'⟩)
        · exact .inr ⟨h, h'⟩

theorem refCommon (k : Nat) (a b : List S23) (ha : a.length ≤ 900) (hb : b.length ≤ 900) (hk : 2000000 < k) :
    ∃ z, sawmillref03_Common.f k a b = some z ∧ Can z ∧ (∀ n, mem z n ↔ mem a n ∧ mem b n) := by
  obtain ⟨a1, a2, a3⟩ := canonL_can a
  obtain ⟨b1, b2, b3⟩ := canonL_can b
  have hm1 : (canonL a).length * ((canonL b).length + 2) ≤ 900 * 902 := Nat.mul_le_mul (by omega) (by omega)
  have hm2 : (canonL a).length * (canonL b).length ≤ 900 * 900 := Nat.mul_le_mul (by omega) (by omega)
  obtain ⟨z, z1, z2, z3⟩ := rcommon_go (canonL a) (canonL b) b1 (canonL a) [] [] k rfl (by omega) (by omega) (by simp only [List.length_nil]; omega) (by omega) a1 Can.nil (fun u hu => by cases hu)
  refine ⟨z, ?_, z2, fun n => ?_⟩
  · unfold sawmillref03_Common.f
    rw [refCanon k a (by omega) (by omega), refCanon k b (by omega) (by omega)]
    exact z1
  · rw [z3, a2, b2]
    exact ⟨fun h => h.elim (fun h => absurd h (mem_nil n)) id, .inr⟩

#print axioms refCommon
end Go.Proofs.Ytioglhaofcmebaa
