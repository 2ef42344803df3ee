/- Total counts the members; the statements' bound on the numbers. -/
import Derived.Test.YtioglhaofcmebaaPx0
import Derived.Test.YtioglhaofcmebaaPx1
import Derived.Test.YtioglhaofcmebaaPA3
import Derived.Test.YtioglhaofcmebaaPR8
import Derived.Test.YtioglhaofcmebaaPS
import Derived.Test.YtioglhaofcmebaaMathG
namespace Go.Proofs.Ytioglhaofcmebaa
open Go.RowKit P
set_option linter.unusedSimpArgs false
set_option linter.unusedVariables false

/-- How many of the n integers from lo on. -/
def count (p : Int → Bool) (lo : Int) : Nat → Int
  | 0 => 0
  | n + 1 => count p lo n + (if p (lo + n) then 1 else 0)

theorem count_congr {p q : Int → Bool} (lo : Int) (h : ∀ x, p x = q x) : ∀ n, count p lo n = count q lo n
  | 0 => rfl
  | n + 1 => by simp only [count, count_congr lo h n, h]
theorem count_bound (p : Int → Bool) (lo : Int) : ∀ n : Nat, 0 ≤ count p lo n ∧ count p lo n ≤ n
  | 0 => ⟨Int.le_refl _, Int.le_refl _⟩
  | n + 1 => by
    have := count_bound p lo n
    simp only [count]
    split <;> omega
theorem count_or (p q : Int → Bool) (lo : Int) : ∀ n : Nat, count (fun x => p x || q x) lo n + count (fun x => p x && q x) lo n = count p lo n + count q lo n
  | 0 => rfl
  | n + 1 => by
    have := count_or p q lo n
    simp only [count]
    rcases Bool.eq_false_or_eq_true (p (lo + n)) with hp | hp <;> rcases Bool.eq_false_or_eq_true (q (lo + n)) with hq | hq <;> simp only [hp, hq, Bool.or_true, Bool.true_or, Bool.or_false, Bool.and_true, Bool.and_false, Bool.false_eq_true, if_true, if_false, Bool.or_self, Bool.and_self] <;> omega
theorem count_diff (p q : Int → Bool) (lo : Int) : ∀ n : Nat, count (fun x => p x && !q x) lo n = count p lo n - count (fun x => p x && q x) lo n
  | 0 => rfl
  | n + 1 => by
    have := count_diff p q lo n
    simp only [count]
    rcases Bool.eq_false_or_eq_true (p (lo + n)) with hp | hp <;> rcases Bool.eq_false_or_eq_true (q (lo + n)) with hq | hq <;> simp only [hp, hq, Bool.not_true, Bool.not_false, Bool.and_true, Bool.and_false, Bool.false_eq_true, if_true, if_false, Bool.and_self] <;> omega
theorem count_none (lo : Int) {p : Int → Bool} (h : ∀ x, p x = false) : ∀ n : Nat, count p lo n = 0
  | 0 => rfl
  | n + 1 => by simp only [count, count_none lo h n, h]; rfl
theorem count_span (a b lo : Int) (h1 : lo ≤ a) (h2 : a ≤ b) : ∀ n : Nat, count (fun x => pH x ⟨a, b⟩) lo n = if lo + n ≤ a then 0 else if lo + n ≤ b then lo + n - a else b - a
  | 0 => by rw [if_pos (by omega)]; rfl
  | n + 1 => by
    simp only [count, count_span a b lo h1 h2 n]
    have : pH (lo + n) ⟨a, b⟩ = decide (a ≤ lo + n ∧ lo + n < b) := by simp [pH]
    simp only [this, decide_eq_true_eq]
    split <;> split <;> split <;> first | omega | (split <;> omega)

def sumL : List S23 → Int
  | [] => 0
  | s :: r => (s.f1 - s.f0) + sumL r
theorem sumL_pos : ∀ {z : List S23}, (∀ s ∈ z, s.f0 < s.f1) → 0 ≤ sumL z
  | [], _ => Int.le_refl _
  | s :: r, h => by
    have := sumL_pos (z := r) (fun t ht => h t (List.mem_cons_of_mem _ ht))
    have := h s List.mem_cons_self
    simp only [sumL]; omega

theorem ends_of {z : List S23} {lo hi : Int} (hz : ∀ s ∈ z, s.f0 < s.f1) (h : ∀ x, mem z x → lo ≤ x ∧ x < hi) : ∀ s ∈ z, lo ≤ s.f0 ∧ s.f1 ≤ hi := by
  intro s hs
  have := hz s hs
  have h1 := h s.f0 ⟨s, hs, by omega, by omega⟩
  have h2 := h (s.f1 - 1) ⟨s, hs, by omega, by omega⟩
  omega

theorem sumL_count (lo : Int) (n : Nat) : ∀ {z : List S23}, Can z → (∀ s ∈ z, lo ≤ s.f0 ∧ s.f1 ≤ lo + n) → sumL z = count (fun x => z.any (pH x)) lo n := by
  intro z
  induction z with
  | nil => intro _ _; rw [count_none lo (by intro x; rfl)]; rfl
  | cons s r ih =>
    intro hz hb
    obtain ⟨s1, s2, s3⟩ := can_cons.1 hz
    have h1 := ih s3 (fun t ht => hb t (List.mem_cons_of_mem _ ht))
    have h2 := hb s List.mem_cons_self
    have e : ∀ x, (s :: r).any (pH x) = (pH x ⟨s.f0, s.f1⟩ || r.any (pH x)) := fun x => by simp [List.any_cons]
    rw [count_congr lo e n]
    have h3 : count (fun x => pH x ⟨s.f0, s.f1⟩ || r.any (pH x)) lo n + count (fun x => pH x ⟨s.f0, s.f1⟩ && r.any (pH x)) lo n = count (fun x => pH x ⟨s.f0, s.f1⟩) lo n + count (fun x => r.any (pH x)) lo n := count_or (fun x => pH x ⟨s.f0, s.f1⟩) (fun x => r.any (pH x)) lo n
    have h4 := count_none lo (p := fun x => pH x ⟨s.f0, s.f1⟩ && r.any (pH x)) (fun x => by
      cases hx : r.any (pH x) with
      | false => simp
      | true =>
        obtain ⟨t, ht, hm⟩ := (any_mem r x).1 hx
        have := s2 t ht
        have : pH x ⟨s.f0, s.f1⟩ = false := by simp [pH]; omega
        rw [this]; rfl) n
    have h5 := count_span s.f0 s.f1 lo h2.1 (by omega) n
    rw [h4, h5] at h3
    simp only [sumL, h1]
    rw [if_neg (by omega)] at h3
    split at h3 <;> omega

theorem total_go (l : List S23) : ∀ (r p : List S23) (x : Int) (k : Nat), l = p ++ r → r.length < k → l.length ≤ 1000000 → (∀ s ∈ r, s.f0 < s.f1) → (∀ s ∈ r, -1152921504606846976 ≤ s.f0 ∧ s.f1 ≤ 1152921504606846976) → 0 ≤ x → x + sumL r ≤ 2305843009213693952 →
    sawmillref03_Total.l0 k x l (p.length : Int) = some (x + sumL r) := by
  intro r
  induction r with
  | nil =>
    intro p x k hl hk hm _ _ _ _
    obtain ⟨k, rfl⟩ : ∃ m, k = m + 1 := ⟨k - 1, by omega⟩
    simp only [sawmillref03_Total.l0, sumL]
    rw [if_neg (by subst hl; simp), Int.add_zero]
  | cons t r ih =>
    intro p x k hl hk hm h1 h2 h3 h4
    obtain ⟨k, rfl⟩ : ∃ m, k = m + 1 := ⟨k - 1, by omega⟩
    have hlen : l.length = p.length + (r.length + 1) := by subst hl; simp
    simp only [List.length_cons] at hk
    have r1 : rd_T23 l (p.length : Int) = t := by rw [hl, rd23_mid]
    have hp : l = (p ++ [t]) ++ r := by rw [hl]; simp
    have hpl : ((p.length + 1 : Nat) : Int) = ((p ++ [t]).length : Int) := by simp
    have ht := h1 t List.mem_cons_self
    have hb := h2 t List.mem_cons_self
    have hs := sumL_pos (z := r) (fun s hs => h1 s (List.mem_cons_of_mem _ hs))
    simp only [sumL] at h4 ⊢
    have hL : lenI t.f0 t.f1 = t.f1 - t.f0 := by unfold lenI; rw [if_neg (by omega)]; omega
    have w1 : wrap64 (9223372036854775807 - x) = 9223372036854775807 - x := by unfold wrap64; omega
    have w2 : wrap64 (x + (t.f1 - t.f0)) = x + (t.f1 - t.f0) := by unfold wrap64; omega
    simp only [sawmillref03_Total.l0]
    rw [if_pos (by omega), if_pos (by omega), r1, refLen_eq t.f0 t.f1 ⟨⟨by show _ ≤ t.f0; omega, by show t.f0 ≤ _; omega⟩, ⟨by show _ ≤ t.f1; omega, by show t.f1 ≤ _; omega⟩⟩, wrap_succ p.length (by omega), hpl]
    simp only [Option.bind_some, hL, w1, w2]
    rw [if_neg (by omega), ih (p ++ [t]) _ k hp (by omega) hm (fun s hs => h1 s (List.mem_cons_of_mem _ hs)) (fun s hs => h2 s (List.mem_cons_of_mem _ hs)) (by omega) (by omega), Int.add_assoc]

/-- Total counts the members. -/
theorem Total_count (k : Nat) (l : List S23) (hk : l.length < k) (hm : l.length ≤ 100000) (n : Nat) (hn : (n : Int) = 2305843009213693952) (hb : ∀ x, mem l x → -1152921504606846976 ≤ x ∧ x < 1152921504606846976) :
    span_Total.f k l = some (count (fun x => l.any (pH x)) (-1152921504606846976) n) := by
  obtain ⟨a1, a2, a3⟩ := canonL_can l
  have he := ends_of a1.1 (fun x hx => hb x ((a2 x).1 hx))
  have hc := sumL_count (-1152921504606846976) n a1 (fun s hs => by have := he s hs; omega)
  have hcb := count_bound (fun x => (canonL l).any (pH x)) (-1152921504606846976) n
  unfold span_Total.f Ext.span_Canon.f
  rw [if_pos (by omega)]
  simp only [Option.bind_some]
  rw [total_same]
  have := total_go (canonL l) (canonL l) [] 0 k rfl (by omega) (by omega) a1.1 he (Int.le_refl _) (by omega)
  rw [show (([] : List S23).length : Int) = 0 from rfl] at this
  rw [this, hc, Int.zero_add]
  congr 1
  refine count_congr _ (fun x => ?_) n
  rw [Bool.eq_iff_iff, any_mem, any_mem, a2]

theorem small_go (l : List S23) : ∀ (r p : List S23) (k : Nat), l = p ++ r → r.length < k → l.length ≤ 1000000 → ∃ b, sawmilllaw03_small.l0 k l (p.length : Int) = some b ∧ (b = true → ∀ s ∈ r, (-1152921504606846976 ≤ s.f0 ∧ s.f1 ≤ 1152921504606846976)) := by
  intro r
  induction r with
  | nil =>
    intro p k hl hk hm
    obtain ⟨k, rfl⟩ : ∃ m, k = m + 1 := ⟨k - 1, by omega⟩
    refine ⟨true, ?_, fun _ s hs => by cases hs⟩
    simp only [sawmilllaw03_small.l0]
    rw [if_neg (by subst hl; simp)]
  | cons t r ih =>
    intro p k hl hk hm
    obtain ⟨k, rfl⟩ : ∃ m, k = m + 1 := ⟨k - 1, by omega⟩
    have hlen : l.length = p.length + (r.length + 1) := by subst hl; simp
    simp only [List.length_cons] at hk
    have r1 : rd_T23 l (p.length : Int) = t := by rw [hl, rd23_mid]
    have hp : l = (p ++ [t]) ++ r := by rw [hl]; simp
    have hpl : ((p.length + 1 : Nat) : Int) = ((p ++ [t]).length : Int) := by simp
    simp only [sawmilllaw03_small.l0]
    rw [if_pos (by omega), if_pos (by omega), r1, wrap_succ p.length (by omega), hpl]
    by_cases q1 : t.f0 < -1152921504606846976
    · exact ⟨false, by rw [if_pos q1], (fun h => by cases h)⟩
    rw [if_neg q1]
    by_cases q2 : t.f0 > 1152921504606846976
    · exact ⟨false, by rw [if_pos q2], (fun h => by cases h)⟩
    rw [if_neg q2]
    by_cases q3 : t.f1 < -1152921504606846976
    · exact ⟨false, by rw [if_pos q3], (fun h => by cases h)⟩
    rw [if_neg q3]
    by_cases q4 : t.f1 > 1152921504606846976
    · exact ⟨false, by rw [if_pos q4], (fun h => by cases h)⟩
    rw [if_neg q4]
    obtain ⟨b, b1, b2⟩ := ih (p ++ [t]) k hp (by omega) hm
    refine ⟨b, b1, fun h s hs => ?_⟩
    rcases List.mem_cons.1 hs with rfl | hs
    · omega
    · exact b2 h s hs

theorem small_eq (k : Nat) (l : List S23) (hk : l.length < k) (hm : l.length ≤ 1000000) : ∃ b, sawmilllaw03_small.f k l = some b ∧ (b = true → ∀ x, mem l x → -1152921504606846976 ≤ x ∧ x < 1152921504606846976) := by
  obtain ⟨b, b1, b2⟩ := small_go l l [] k rfl hk hm
  refine ⟨b, b1, fun h x ⟨s, hs, hx⟩ => ?_⟩
  have := b2 h s hs
  omega

#print axioms Total_count
#print axioms small_eq
end Go.Proofs.Ytioglhaofcmebaa
