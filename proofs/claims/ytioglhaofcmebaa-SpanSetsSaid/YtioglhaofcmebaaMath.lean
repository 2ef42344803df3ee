/- Sets of intervals as lists: canonical lists, membership, and that a canonical list is told by its members. Plain lists alone. -/
import Derived.Test.YtioglhaofcmebaaPx0
import Derived.Test.YtioglhaofcmebaaPx1
namespace Go.Proofs.Ytioglhaofcmebaa
open P
set_option linter.unusedSimpArgs false
set_option linter.unusedVariables false

/-- n is a member of one of the spans. -/
def mem (l : List S23) (n : Int) : Prop := ∃ s ∈ l, s.f0 ≤ n ∧ n < s.f1
/-- The list is ascending, of spans that are not empty, and that neither overlap nor touch. -/
def Can (l : List S23) : Prop := (∀ s ∈ l, s.f0 < s.f1) ∧ l.Pairwise (fun a b => a.f1 < b.f0)

theorem mem_nil (n : Int) : ¬ mem [] n := fun ⟨s, h, _⟩ => by cases h
theorem mem_cons (s : S23) (l : List S23) (n : Int) : mem (s :: l) n ↔ (s.f0 ≤ n ∧ n < s.f1) ∨ mem l n := by
  constructor
  · rintro ⟨t, ht, h⟩
    rcases List.mem_cons.1 ht with rfl | ht
    · exact .inl h
    · exact .inr ⟨t, ht, h⟩
  · rintro (h | ⟨t, ht, h⟩)
    · exact ⟨s, List.mem_cons_self, h⟩
    · exact ⟨t, List.mem_cons_of_mem _ ht, h⟩
theorem mem_append (a b : List S23) (n : Int) : mem (a ++ b) n ↔ mem a n ∨ mem b n := by
  constructor
  · rintro ⟨t, ht, h⟩
    rcases List.mem_append.1 ht with ht | ht
    · exact .inl ⟨t, ht, h⟩
    · exact .inr ⟨t, ht, h⟩
  · rintro (⟨t, ht, h⟩ | ⟨t, ht, h⟩)
    · exact ⟨t, List.mem_append_left _ ht, h⟩
    · exact ⟨t, List.mem_append_right _ ht, h⟩

theorem Can.nil : Can [] := ⟨(fun s h => by cases h), List.Pairwise.nil⟩
theorem can_cons {s : S23} {l : List S23} : Can (s :: l) ↔ s.f0 < s.f1 ∧ (∀ t ∈ l, s.f1 < t.f0) ∧ Can l := by
  unfold Can
  rw [List.pairwise_cons]
  constructor
  · rintro ⟨h1, h2, h3⟩
    exact ⟨h1 s List.mem_cons_self, h2, fun t ht => h1 t (List.mem_cons_of_mem _ ht), h3⟩
  · rintro ⟨h1, h2, h3, h4⟩
    refine ⟨fun t ht => ?_, h2, h4⟩
    rcases List.mem_cons.1 ht with rfl | ht
    · exact h1
    · exact h3 t ht
theorem can_append {a b : List S23} : Can (a ++ b) ↔ Can a ∧ Can b ∧ ∀ s ∈ a, ∀ t ∈ b, s.f1 < t.f0 := by
  unfold Can
  rw [List.pairwise_append]
  constructor
  · rintro ⟨h1, h2, h3, h4⟩
    exact ⟨⟨fun s hs => h1 s (List.mem_append_left _ hs), h2⟩, ⟨fun s hs => h1 s (List.mem_append_right _ hs), h3⟩, h4⟩
  · rintro ⟨⟨h1, h2⟩, ⟨h3, h4⟩, h5⟩
    refine ⟨fun s hs => ?_, h2, h4, h5⟩
    rcases List.mem_append.1 hs with hs | hs
    · exact h1 s hs
    · exact h3 s hs

/-- Two canonical lists with the same members are equal. -/
theorem can_unique : ∀ (x y : List S23), Can x → Can y → (∀ n, mem x n ↔ mem y n) → x = y := by
  intro x
  induction x with
  | nil =>
    intro y _ hy h
    cases y with
    | nil => rfl
    | cons t r =>
      have h1 := (can_cons.1 hy).1
      exact absurd ((h t.f0).2 ((mem_cons _ _ _).2 (.inl ⟨Int.le_refl _, h1⟩))) (mem_nil _)
  | cons s l ih =>
    intro y hx hy h
    obtain ⟨s1, s2, s3⟩ := can_cons.1 hx
    cases y with
    | nil => exact absurd ((h s.f0).1 ((mem_cons _ _ _).2 (.inl ⟨Int.le_refl _, s1⟩))) (mem_nil _)
    | cons t r =>
      obtain ⟨t1, t2, t3⟩ := can_cons.1 hy
      -- what lies in the tails lies behind
      have ls : ∀ n, mem l n → s.f1 < n := fun n ⟨u, hu, h1, _⟩ => by have := s2 u hu; omega
      have lt : ∀ n, mem r n → t.f1 < n := fun n ⟨u, hu, h1, _⟩ => by have := t2 u hu; omega
      have e0 : s.f0 = t.f0 := by
        have a := (mem_cons _ _ _).1 ((h s.f0).1 ((mem_cons _ _ _).2 (.inl ⟨Int.le_refl _, s1⟩)))
        have b := (mem_cons _ _ _).1 ((h t.f0).2 ((mem_cons _ _ _).2 (.inl ⟨Int.le_refl _, t1⟩)))
        rcases a with a | a
        · rcases b with b | b
          · omega
          · have := ls _ b; omega
        · have := lt _ a
          rcases b with b | b
          · omega
          · have := ls _ b; omega
      have e1 : s.f1 = t.f1 := by
        rcases Int.lt_trichotomy s.f1 t.f1 with hlt | heq | hgt
        · exfalso
          have a := (mem_cons _ _ _).1 ((h s.f1).2 ((mem_cons _ _ _).2 (.inl ⟨by omega, hlt⟩)))
          rcases a with a | a
          · omega
          · have := ls _ a; omega
        · exact heq
        · exfalso
          have a := (mem_cons _ _ _).1 ((h t.f1).1 ((mem_cons _ _ _).2 (.inl ⟨by omega, hgt⟩)))
          rcases a with a | a
          · omega
          · have := lt _ a; omega
      have est : s = t := by cases s; cases t; simp only at e0 e1; rw [e0, e1]
      subst est
      rw [ih r s3 t3 (fun n => ?_)]
      constructor
      · intro hn
        have := ls n hn
        rcases (mem_cons _ _ _).1 ((h n).1 ((mem_cons _ _ _).2 (.inr hn))) with a | a
        · omega
        · exact a
      · intro hn
        have := lt n hn
        rcases (mem_cons _ _ _).1 ((h n).2 ((mem_cons _ _ _).2 (.inr hn))) with a | a
        · omega
        · exact a

/-! ### merging a list that is sorted by its lower ends -/
/-- One span more, at or behind the last one's lower end. -/
def push (out : List S23) (s : S23) : List S23 :=
  match out.getLast? with
  | none => [s]
  | some t => if s.f0 ≤ t.f1 then out.dropLast ++ [⟨t.f0, max t.f1 s.f1⟩] else out ++ [s]
def merge (l : List S23) : List S23 := l.foldl push []

theorem push_nil (s : S23) : push [] s = [s] := rfl
theorem push_snoc (a : List S23) (t s : S23) : push (a ++ [t]) s = if s.f0 ≤ t.f1 then a ++ [⟨t.f0, max t.f1 s.f1⟩] else a ++ [t] ++ [s] := by
  unfold push
  simp

theorem snoc_cases {α : Type} (l : List α) : l = [] ∨ ∃ a t, l = a ++ [t] := by
  rcases List.eq_nil_or_concat l with h | ⟨a, t, h⟩
  · exact .inl h
  · exact .inr ⟨a, t, by simpa using h⟩

theorem push_can {out : List S23} {s : S23} (h : Can out) (hs : s.f0 < s.f1) (hl : ∀ t ∈ out, t.f0 ≤ s.f0) : Can (push out s) ∧ (∀ n, mem (push out s) n ↔ mem out n ∨ (s.f0 ≤ n ∧ n < s.f1)) ∧ (∀ t ∈ push out s, t.f0 ≤ s.f0) ∧ (push out s).length ≤ out.length + 1 := by
  rcases snoc_cases out with rfl | ⟨a, t, rfl⟩
  · rw [push_nil]
    refine ⟨can_cons.2 ⟨hs, (fun t h => by cases h), Can.nil⟩, fun n => ?_, fun t ht => ?_, by simp⟩
    · rw [mem_cons]; constructor
      · rintro (h | h)
        · exact .inr h
        · exact .inl h
      · rintro (h | h)
        · exact .inr h
        · exact .inl h
    · obtain rfl := List.mem_singleton.1 ht; exact Int.le_refl _
  · rw [push_snoc]
    obtain ⟨h1, h2, h3⟩ := can_append.1 h
    have h4 := (can_cons.1 h2).1
    have h5 := hl t (by simp)
    by_cases hle : s.f0 ≤ t.f1
    · rw [if_pos hle]
      refine ⟨can_append.2 ⟨h1, can_cons.2 ⟨?_, (fun t h => by cases h), Can.nil⟩, fun u hu v hv => ?_⟩, fun n => ?_, fun u hu => ?_, by simp⟩
      · show t.f0 < max t.f1 s.f1
        omega
      · obtain rfl := List.mem_singleton.1 hv
        exact h3 u hu t (by simp)
      · rw [mem_append, mem_append, mem_cons, mem_cons]
        have e1 : mem [] n ↔ False := ⟨mem_nil n, False.elim⟩
        rw [e1]
        simp only [or_false]
        constructor
        · rintro (q | ⟨q1, q2⟩)
          · exact .inl (.inl q)
          · by_cases hn : n < t.f1
            · exact .inl (.inr ⟨q1, hn⟩)
            · exact .inr ⟨by omega, by omega⟩
        · rintro ((q | ⟨q1, q2⟩) | ⟨q1, q2⟩)
          · exact .inl q
          · exact .inr ⟨q1, by omega⟩
          · exact .inr ⟨by show t.f0 ≤ n; omega, by omega⟩
      · rcases List.mem_append.1 hu with hu | hu
        · exact hl u (by simp [hu])
        · obtain rfl := List.mem_singleton.1 hu; exact h5
    · rw [if_neg hle]
      refine ⟨can_append.2 ⟨h, can_cons.2 ⟨hs, (fun t h => by cases h), Can.nil⟩, fun u hu v hv => ?_⟩, fun n => ?_, fun u hu => ?_, by simp⟩
      · obtain rfl := List.mem_singleton.1 hv
        rcases List.mem_append.1 hu with hu | hu
        · have := h3 u hu t (by simp); omega
        · obtain rfl := List.mem_singleton.1 hu; omega
      · rw [mem_append, mem_cons]
        have e1 : mem [] n ↔ False := ⟨mem_nil n, False.elim⟩
        rw [e1]
        simp only [or_false]
      · rcases List.mem_append.1 hu with hu | hu
        · exact hl u hu
        · obtain rfl := List.mem_singleton.1 hu; exact Int.le_refl _

theorem merge_go : ∀ (l out : List S23), Can out → (∀ s ∈ l, s.f0 < s.f1) → (∀ t ∈ out, ∀ s ∈ l, t.f0 ≤ s.f0) → l.Pairwise (fun a b => a.f0 ≤ b.f0) →
    Can (l.foldl push out) ∧ (∀ n, mem (l.foldl push out) n ↔ mem out n ∨ mem l n) ∧ (l.foldl push out).length ≤ out.length + l.length := by
  intro l
  induction l with
  | nil => intro out h _ _ _; exact ⟨h, fun n => ⟨.inl, fun q => q.elim id (fun q => absurd q (mem_nil n))⟩, by simp⟩
  | cons s r ih =>
    intro out h h1 h2 h3
    obtain ⟨h4, h5⟩ := List.pairwise_cons.1 h3
    obtain ⟨p1, p2, p3, p4⟩ := push_can h (h1 s List.mem_cons_self) (fun t ht => h2 t ht s List.mem_cons_self)
    obtain ⟨q1, q2, q3⟩ := ih (push out s) p1 (fun t ht => h1 t (List.mem_cons_of_mem _ ht)) (fun t ht u hu => Int.le_trans (p3 t ht) (h4 u hu)) h5
    refine ⟨q1, fun n => ?_, ?_⟩
    · rw [List.foldl_cons, q2, p2, mem_cons, or_assoc]
    · rw [List.foldl_cons]; simp; omega

theorem merge_can {l : List S23} (h1 : ∀ s ∈ l, s.f0 < s.f1) (h2 : l.Pairwise (fun a b => a.f0 ≤ b.f0)) : Can (merge l) ∧ (∀ n, mem (merge l) n ↔ mem l n) ∧ (merge l).length ≤ l.length := by
  obtain ⟨a, b, c⟩ := merge_go l [] Can.nil h1 (fun t h => by cases h) h2
  exact ⟨a, fun n => (b n).trans ⟨fun q => q.elim (fun q => absurd q (mem_nil n)) id, .inr⟩, by simpa [merge] using c⟩

/-! ### the canonical list -/
def full (l : List S23) : List S23 := l.filter fun s => decide (s.f0 < s.f1)
theorem full_mem (l : List S23) (n : Int) : mem (full l) n ↔ mem l n := by
  constructor
  · rintro ⟨s, hs, h⟩; exact ⟨s, (List.mem_filter.1 hs).1, h⟩
  · rintro ⟨s, hs, h1, h2⟩; exact ⟨s, List.mem_filter.2 ⟨hs, by simp; omega⟩, h1, h2⟩
theorem mem_perm {a b : List S23} (h : a.Perm b) (n : Int) : mem a n ↔ mem b n := ⟨fun ⟨s, hs, q⟩ => ⟨s, h.mem_iff.1 hs, q⟩, fun ⟨s, hs, q⟩ => ⟨s, h.mem_iff.2 hs, q⟩⟩

def canonL (l : List S23) : List S23 := merge ((full l).mergeSort fun a b => decide (a.f0 ≤ b.f0))
theorem canonL_can (l : List S23) : Can (canonL l) ∧ (∀ n, mem (canonL l) n ↔ mem l n) ∧ (canonL l).length ≤ l.length := by
  have hp := List.mergeSort_perm (full l) (fun a b => decide (a.f0 ≤ b.f0))
  have hs : ((full l).mergeSort fun a b => decide (a.f0 ≤ b.f0)).Pairwise (fun a b => a.f0 ≤ b.f0) :=
    (List.pairwise_mergeSort (le := fun a b : S23 => decide (a.f0 ≤ b.f0)) (fun a b c h1 h2 => by simp at *; omega) (fun a b => by simp; omega) (full l)).imp (fun {a b} h => by simpa using h)
  obtain ⟨a, b, c⟩ := merge_can (fun s h => by
    have := hp.mem_iff.1 h
    simpa [full] using (List.mem_filter.1 this).2) hs
  refine ⟨a, fun n => (b n).trans ((mem_perm hp n).trans (full_mem l n)), Nat.le_trans c ?_⟩
  rw [hp.length_eq]
  exact List.length_filter_le _ _
/-- Any merging of any sorting of the spans that are not empty. -/
theorem canonL_of {l d : List S23} (hp : d.Perm (full l)) (hs : d.Pairwise (fun a b => a.f0 ≤ b.f0)) : merge d = canonL l := by
  obtain ⟨a, b, _⟩ := merge_can (fun s h => by
    have := hp.mem_iff.1 h
    simpa [full] using (List.mem_filter.1 this).2) hs
  obtain ⟨c, e, _⟩ := canonL_can l
  exact can_unique _ _ a c (fun n => (b n).trans ((mem_perm hp n).trans ((full_mem l n).trans (e n).symm)))
theorem canonL_eq {l x : List S23} (h : Can x) (hm : ∀ n, mem x n ↔ mem l n) : x = canonL l :=
  can_unique _ _ h (canonL_can l).1 (fun n => (hm n).trans ((canonL_can l).2.1 n).symm)

#print axioms can_unique
#print axioms canonL_of
end Go.Proofs.Ytioglhaofcmebaa
