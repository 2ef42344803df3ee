/- Minus of the reference, on lists. -/
import Derived.Test.YtioglhaofcmebaaMath
namespace Go.Proofs.Ytioglhaofcmebaa
open P
set_option linter.unusedSimpArgs false
set_option linter.unusedVariables false

def left1 (t s : S23) : List S23 := if s.f0 < min s.f1 t.f0 then [⟨s.f0, min s.f1 t.f0⟩] else []
def right1 (t s : S23) : List S23 := if max s.f0 t.f1 < s.f1 then [⟨max s.f0 t.f1, s.f1⟩] else []
/-- What is left of the spans 'out' without the span t. -/
def roundM (t : S23) : List S23 → List S23
  | [] => []
  | s :: r => left1 t s ++ right1 t s ++ roundM t r
def minusR (x y : List S23) : List S23 := y.foldl (fun out t => roundM t out) x

theorem roundM_append (t : S23) : ∀ (a b : List S23), roundM t (a ++ b) = roundM t a ++ roundM t b
  | [], b => rfl
  | s :: a, b => by simp only [List.cons_append, roundM, roundM_append t a b, List.append_assoc]
theorem roundM_take (t : S23) (out : List S23) (i : Nat) (h : i < out.length) : roundM t (out.take (i + 1)) = roundM t (out.take i) ++ left1 t out[i] ++ right1 t out[i] := by
  rw [List.take_add_one, List.getElem?_eq_getElem h]
  simp only [Option.toList_some, roundM_append, roundM, List.append_nil, List.append_assoc]
theorem left1_len (t s : S23) : (left1 t s).length ≤ 1 := by unfold left1; split <;> simp
theorem right1_len (t s : S23) : (right1 t s).length ≤ 1 := by unfold right1; split <;> simp
theorem roundM_len2 (t : S23) : ∀ (out : List S23), (roundM t out).length ≤ 2 * out.length
  | [] => by simp [roundM]
  | s :: r => by
    have := roundM_len2 t r
    have h1 := left1_len t s
    have h2 := right1_len t s
    simp only [roundM, List.length_append, List.length_cons]
    omega
theorem minusR_take (x y : List S23) (k : Nat) (h : k < y.length) : minusR x (y.take (k + 1)) = roundM y[k] (minusR x (y.take k)) := by
  unfold minusR
  rw [List.take_add_one, List.getElem?_eq_getElem h]
  simp only [Option.toList_some, List.foldl_append, List.foldl_cons, List.foldl_nil]

theorem one_mem {t s : S23} (hs : s.f0 < s.f1) (ht : t.f0 < t.f1) (n : Int) : mem (left1 t s ++ right1 t s) n ↔ (s.f0 ≤ n ∧ n < s.f1) ∧ ¬ (t.f0 ≤ n ∧ n < t.f1) := by
  have h1 : mem (left1 t s) n ↔ (s.f0 ≤ n ∧ n < min s.f1 t.f0) := by
    unfold left1
    split
    · rw [mem_cons]
      exact ⟨fun h => h.elim id (fun h => absurd h (mem_nil n)), .inl⟩
    · exact ⟨fun h => absurd h (mem_nil n), fun h => by omega⟩
  have h2 : mem (right1 t s) n ↔ (max s.f0 t.f1 ≤ n ∧ n < s.f1) := by
    unfold right1
    split
    · rw [mem_cons]
      exact ⟨fun h => h.elim id (fun h => absurd h (mem_nil n)), .inl⟩
    · exact ⟨fun h => absurd h (mem_nil n), fun h => by omega⟩
  rw [mem_append, h1, h2]
  omega
theorem one_in {t s u : S23} (hs : s.f0 < s.f1) (ht : t.f0 < t.f1) (h : u ∈ left1 t s ++ right1 t s) : s.f0 ≤ u.f0 ∧ u.f1 ≤ s.f1 ∧ u.f0 < u.f1 := by
  rcases List.mem_append.1 h with h | h
  · unfold left1 at h
    split at h
    · rw [List.mem_singleton.1 h]; exact ⟨Int.le_refl _, by show min s.f1 t.f0 ≤ s.f1; omega, by assumption⟩
    · cases h
  · unfold right1 at h
    split at h
    · rw [List.mem_singleton.1 h]; exact ⟨by show s.f0 ≤ max s.f0 t.f1; omega, Int.le_refl _, by assumption⟩
    · cases h
theorem one_can {t s : S23} (hs : s.f0 < s.f1) (ht : t.f0 < t.f1) : Can (left1 t s ++ right1 t s) := by
  unfold left1 right1
  split
  · split
    · refine can_cons.2 ⟨by assumption, fun u hu => ?_, can_cons.2 ⟨by assumption, (fun v hv => by cases hv), Can.nil⟩⟩
      rw [List.mem_singleton.1 hu]
      show min s.f1 t.f0 < max s.f0 t.f1
      omega
    · exact can_cons.2 ⟨by assumption, (fun v hv => by cases hv), Can.nil⟩
  · split
    · exact can_cons.2 ⟨by assumption, (fun v hv => by cases hv), Can.nil⟩
    · exact Can.nil

theorem roundM_in {t : S23} (ht : t.f0 < t.f1) : ∀ {out : List S23}, (∀ s ∈ out, s.f0 < s.f1) → ∀ u ∈ roundM t out, ∃ s ∈ out, s.f0 ≤ u.f0 ∧ u.f1 ≤ s.f1
  | [], _, u, hu => by cases hu
  | s :: r, hs, u, hu => by
    rw [roundM] at hu
    rcases List.mem_append.1 hu with h | h
    · have := one_in (hs s List.mem_cons_self) ht h
      exact ⟨s, List.mem_cons_self, this.1, this.2.1⟩
    · obtain ⟨v, hv, h1⟩ := roundM_in ht (fun s h => hs s (List.mem_cons_of_mem _ h)) u h
      exact ⟨v, List.mem_cons_of_mem _ hv, h1⟩

theorem roundM_can {t : S23} (ht : t.f0 < t.f1) : ∀ {out : List S23}, Can out → Can (roundM t out) ∧ (∀ n, mem (roundM t out) n ↔ mem out n ∧ ¬ (t.f0 ≤ n ∧ n < t.f1))
  | [], _ => ⟨Can.nil, fun n => ⟨fun h => absurd h (mem_nil n), fun h => absurd h.1 (mem_nil n)⟩⟩
  | s :: r, hc => by
    obtain ⟨s1, s2, s3⟩ := can_cons.1 hc
    obtain ⟨h1, h2⟩ := roundM_can ht s3
    rw [roundM]
    refine ⟨can_append.2 ⟨one_can s1 ht, h1, fun u hu v hv => ?_⟩, fun n => ?_⟩
    · have h3 := one_in s1 ht hu
      obtain ⟨z, hz, h4⟩ := roundM_in ht (fun s h => s3.1 s h) v hv
      have := s2 z hz
      omega
    · rw [mem_append, one_mem s1 ht, h2, mem_cons]
      constructor
      · rintro (⟨h, h'⟩ | ⟨h, h'⟩)
        · exact ⟨.inl h, h'⟩
        · exact ⟨.inr h, h'⟩
      · rintro ⟨h | h, h'⟩
        · exact .inl ⟨h, h'⟩
        · exact .inr ⟨h, h'⟩

/-- At most one span is cut in two. -/
theorem roundM_none {t : S23} (ht : t.f0 < t.f1) : ∀ {out : List S23}, (∀ s ∈ out, s.f0 < s.f1) → (∀ s ∈ out, ¬ (s.f0 < t.f0 ∧ t.f1 < s.f1)) → (roundM t out).length ≤ out.length
  | [], _, _ => Nat.le_refl _
  | s :: r, hs, h => by
    have h1 := roundM_none ht (fun u hu => hs u (List.mem_cons_of_mem _ hu)) (fun u hu => h u (List.mem_cons_of_mem _ hu))
    have h2 := h s List.mem_cons_self
    have h3 : (left1 t s ++ right1 t s).length ≤ 1 := by
      unfold left1 right1
      split <;> split
      · omega
      · simp
      · simp
      · simp
    simp only [roundM, List.length_append, List.length_cons] at h3 ⊢
    omega
theorem roundM_len {t : S23} (ht : t.f0 < t.f1) : ∀ {out : List S23}, Can out → (roundM t out).length ≤ out.length + 1
  | [], _ => Nat.zero_le _
  | s :: r, hc => by
    obtain ⟨s1, s2, s3⟩ := can_cons.1 hc
    have h1 := left1_len t s
    have h2 := right1_len t s
    have h0 := roundM_len ht s3
    by_cases h : s.f0 < t.f0 ∧ t.f1 < s.f1
    · have h3 := roundM_none (out := r) ht (fun u hu => s3.1 u hu) (fun u hu => by have := s2 u hu; omega)
      simp only [roundM, List.length_append, List.length_cons]
      omega
    · have h3 : (left1 t s ++ right1 t s).length ≤ 1 := by
        unfold left1 right1
        split <;> split
        · omega
        · simp
        · simp
        · simp
      simp only [roundM, List.length_append, List.length_cons] at h3 ⊢
      omega

theorem minusR_can : ∀ (y x : List S23), Can x → (∀ t ∈ y, t.f0 < t.f1) → Can (minusR x y) ∧ (∀ n, mem (minusR x y) n ↔ mem x n ∧ ¬ mem y n) ∧ (minusR x y).length ≤ x.length + y.length
  | [], x, hx, _ => ⟨hx, fun n => ⟨fun h => ⟨h, mem_nil n⟩, fun h => h.1⟩, Nat.le_refl _⟩
  | t :: y, x, hx, hy => by
    have ht := hy t List.mem_cons_self
    obtain ⟨h1, h2⟩ := roundM_can ht hx
    have h3 := roundM_len ht hx
    obtain ⟨c1, c2, c3⟩ := minusR_can y (roundM t x) h1 (fun u hu => hy u (List.mem_cons_of_mem _ hu))
    refine ⟨c1, fun n => ?_, by
      have e : minusR x (t :: y) = minusR (roundM t x) y := rfl
      rw [e, List.length_cons]; omega⟩
    have e : minusR x (t :: y) = minusR (roundM t x) y := rfl
    rw [e, c2, h2, mem_cons]
    constructor
    · rintro ⟨⟨h, h'⟩, h''⟩
      exact ⟨h, fun q => q.elim h' h''⟩
    · rintro ⟨h, h'⟩
      exact ⟨⟨h, fun q => h' (.inl q)⟩, fun q => h' (.inr q)⟩

theorem minusR_len (x y : List S23) (hx : Can x) (hy : Can y) (k : Nat) : (minusR x (y.take k)).length ≤ x.length + k := by
  have := (minusR_can (y.take k) x hx (fun t ht => hy.1 t (List.mem_of_mem_take ht))).2.2
  have h2 : (y.take k).length ≤ k := by rw [List.length_take]; exact Nat.min_le_left _ _
  omega

#print axioms minusR_can
#print axioms minusR_len
end Go.Proofs.Ytioglhaofcmebaa
