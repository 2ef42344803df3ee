/- The ends of a canonical list are ends of the list itself. -/
import Derived.Test.YtioglhaofcmebaaMath
namespace Go.Proofs.Ytioglhaofcmebaa
open P
set_option linter.unusedSimpArgs false
set_option linter.unusedVariables false

theorem push_ends {Q : Int → Prop} {out : List S23} {s : S23} (h : ∀ t ∈ out, Q t.f0 ∧ Q t.f1) (hs : Q s.f0 ∧ Q s.f1) : ∀ t ∈ push out s, Q t.f0 ∧ Q t.f1 := by
  rcases snoc_cases out with rfl | ⟨a, t, rfl⟩
  · rw [push_nil]; intro u hu; rw [List.mem_singleton.1 hu]; exact hs
  · rw [push_snoc]
    have ht := h t (by simp)
    split
    · intro u hu
      rcases List.mem_append.1 hu with hu | hu
      · exact h u (by simp [hu])
      · rw [List.mem_singleton.1 hu]
        refine ⟨ht.1, ?_⟩
        show Q (max t.f1 s.f1)
        rcases Int.le_total t.f1 s.f1 with hle | hle
        · rw [Int.max_eq_right hle]; exact hs.2
        · rw [Int.max_eq_left hle]; exact ht.2
    · intro u hu
      rcases List.mem_append.1 hu with hu | hu
      · exact h u hu
      · rw [List.mem_singleton.1 hu]; exact hs

theorem foldl_ends {Q : Int → Prop} : ∀ (l out : List S23), (∀ t ∈ out, Q t.f0 ∧ Q t.f1) → (∀ t ∈ l, Q t.f0 ∧ Q t.f1) → ∀ t ∈ l.foldl push out, Q t.f0 ∧ Q t.f1
  | [], out, h, _ => h
  | s :: r, out, h, hl => foldl_ends r (push out s) (push_ends h (hl s List.mem_cons_self)) (fun t ht => hl t (List.mem_cons_of_mem _ ht))

theorem canonL_ends {Q : Int → Prop} {l : List S23} (h : ∀ t ∈ l, Q t.f0 ∧ Q t.f1) : ∀ t ∈ canonL l, Q t.f0 ∧ Q t.f1 := by
  unfold canonL merge
  refine foldl_ends _ [] (fun t ht => by cases ht) (fun t ht => ?_)
  have := (List.mergeSort_perm (full l) (fun a b => decide (a.f0 ≤ b.f0))).mem_iff.1 ht
  exact h t (List.mem_filter.1 this).1

#print axioms canonL_ends
end Go.Proofs.Ytioglhaofcmebaa
