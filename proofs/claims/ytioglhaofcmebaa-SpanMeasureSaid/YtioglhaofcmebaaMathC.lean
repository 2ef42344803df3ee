/- span.Common: canonical, of the members of both. -/
import Derived.Test.YtioglhaofcmebaaMathS
import Derived.Test.YtioglhaofcmebaaExt
import Derived.Test.YtioglhaofcmebaaPx0
import Derived.Test.YtioglhaofcmebaaPx1
import Derived.Test.YtioglhaofcmebaaPA1
import Derived.Test.YtioglhaofcmebaaPA2
namespace Go.Proofs.Ytioglhaofcmebaa
open Go.RowKit P
open Go.Proofs.YtioglhaofcmebaaW.PrintWords (mx mn)
set_option linter.unusedSimpArgs false
set_option linter.unusedVariables false

theorem mx_eq (a b : Int) : mx a b = max a b := by unfold mx; split <;> omega
theorem mn_eq (a b : Int) : mn a b = min a b := by unfold mn; split <;> omega
/-- What is left to be found lies behind what has been found. -/
def Behind (out x y : List S23) : Prop := ∀ u ∈ out, (∀ s ∈ x, u.f1 < s.f0) ∨ (∀ t ∈ y, u.f1 < t.f0)

theorem common_go : ∀ (N : Nat) (x y out : List S23) (k : Nat), x.length + y.length ≤ N → 2 * N + 2 < k → out.length + N ≤ 1000000 → Can x → Can y → Can out → Behind out x y →
    ∃ z, span_Common.l0 k x y out = some z ∧ Can z ∧ (∀ n, mem z n ↔ mem out n ∨ (mem x n ∧ mem y n)) ∧ z.length ≤ out.length + N := by
  intro N
  induction N with
  | zero =>
    intro x y out k h1 h2 h3 hx hy ho hb
    have e1 : x = [] := List.length_eq_zero_iff.1 (by omega)
    subst e1
    obtain ⟨k, rfl⟩ : ∃ m, k = m + 2 := ⟨k - 2, by omega⟩
    refine ⟨out, ?_, ho, fun n => ⟨.inl, fun h => h.elim id (fun h => absurd h.1 (mem_nil n))⟩, by omega⟩
    simp only [span_Common.l0, span_Common.j1]
    simp
  | succ N ih =>
    intro x y out k h1 h2 h3 hx hy ho hb
    obtain ⟨k, rfl⟩ : ∃ m, k = m + 2 := ⟨k - 2, by omega⟩
    cases x with
    | nil =>
      refine ⟨out, ?_, ho, fun n => ⟨.inl, fun h => h.elim id (fun h => absurd h.1 (mem_nil n))⟩, by omega⟩
      simp only [span_Common.l0, span_Common.j1]
      simp
    | cons s x =>
      cases y with
      | nil =>
        refine ⟨out, ?_, ho, fun n => ⟨.inl, fun h => h.elim id (fun h => absurd h.2 (mem_nil n))⟩, by omega⟩
        simp only [span_Common.l0, span_Common.j1]
        simp
      | cons t y =>
        obtain ⟨s1, s2, s3⟩ := can_cons.1 hx
        obtain ⟨t1, t2, t3⟩ := can_cons.1 hy
        simp only [List.length_cons] at h1
        have e1 : mem [] = fun _ => False := funext fun n => propext ⟨mem_nil n, False.elim⟩
        -- whatever was found at these two, the search goes on
        have next : ∀ out', Can out' → out'.length ≤ out.length + 1 → (∀ n, mem out' n ↔ mem out n ∨ ((s.f0 ≤ n ∧ n < s.f1) ∧ (t.f0 ≤ n ∧ n < t.f1))) → (∀ u ∈ out', u ∈ out ∨ (u.f1 ≤ s.f1 ∧ u.f1 ≤ t.f1)) →
            ∃ z, (if s.f1 < t.f1 then span_Common.l0 k x (t :: y) out' else span_Common.l0 k (s :: x) y out') = some z ∧ Can z ∧ (∀ n, mem z n ↔ mem out n ∨ (mem (s :: x) n ∧ mem (t :: y) n)) ∧ z.length ≤ out.length + (N + 1) := by
          intro out' c1 c2 c3 c4
          by_cases hlt : s.f1 < t.f1
          · rw [if_pos hlt]
            obtain ⟨z, z1, z2, z3, z4⟩ := ih x (t :: y) out' k (by simp; omega) (by omega) (by omega) s3 hy c1 (fun u hu => by
              rcases c4 u hu with h | h
              · rcases hb u h with h | h
                · exact .inl (fun v hv => h v (List.mem_cons_of_mem _ hv))
                · exact .inr h
              · exact .inl (fun v hv => by have := s2 v hv; omega))
            refine ⟨z, z1, z2, fun n => ?_, by omega⟩
            rw [z3, c3, mem_cons s, mem_cons t]
            constructor
            · rintro ((h | h) | ⟨h, h'⟩)
              · exact .inl h
              · exact .inr ⟨.inl h.1, .inl h.2⟩
              · exact .inr ⟨.inr h, h'⟩
            · rintro (h | ⟨h | h, h'⟩)
              · exact .inl (.inl h)
              · rcases h' with h' | ⟨v, hv, h'⟩
                · exact .inl (.inr ⟨h, h'⟩)
                · have := t2 v hv; omega
              · exact .inr ⟨h, h'⟩
          · rw [if_neg hlt]
            obtain ⟨z, z1, z2, z3, z4⟩ := ih (s :: x) y out' k (by simp; omega) (by omega) (by omega) hx t3 c1 (fun u hu => by
              rcases c4 u hu with h | h
              · rcases hb u h with h | h
                · exact .inl h
                · exact .inr (fun v hv => h v (List.mem_cons_of_mem _ hv))
              · exact .inr (fun v hv => by have := t2 v hv; omega))
            refine ⟨z, z1, z2, fun n => ?_, by omega⟩
            rw [z3, c3, mem_cons s, mem_cons t]
            constructor
            · rintro ((h | h) | ⟨h, h'⟩)
              · exact .inl h
              · exact .inr ⟨.inl h.1, .inl h.2⟩
              · exact .inr ⟨h, .inr h'⟩
            · rintro (h | ⟨h, h' | h'⟩)
              · exact .inl (.inl h)
              · rcases h with h | ⟨v, hv, h⟩
                · exact .inl (.inr ⟨h, h'⟩)
                · have := s2 v hv; omega
              · exact .inr ⟨h, h'⟩
        have hd1 : (s :: x).drop (1 : Int).toNat = x := rfl
        have hd2 : (t :: y).drop (1 : Int).toNat = y := rfl
        have hA : ((s :: x).length : Int) > 0 := by simp
        have hB : ((t :: y).length : Int) > 0 := by simp
        have hA1 : 1 ≤ ((s :: x).length : Int) := by omega
        have hB1 : 1 ≤ ((t :: y).length : Int) := by omega
        simp only [span_Common.l0, span_Common.j1]
        rw [if_pos hA, if_pos (decide_eq_true hB), if_pos hA, if_pos hB, rd23_zero, rd23_zero, hd1, hd2]
        simp only [if_pos hA1, if_pos hB1]
        have hm : span_Meet.f s.f0 s.f1 t.f0 t.f1 = some (if max s.f0 t.f0 ≥ min s.f1 t.f1 then (0, 0) else (max s.f0 t.f0, min s.f1 t.f1)) := by
          unfold span_Meet.f span_empty.f
          simp only [Option.bind_some, decide_eq_true_eq, mx_eq, mn_eq]
          rw [if_neg (by omega), if_neg (by omega)]
          split <;> rfl
        rw [hm]
        simp only [Option.bind_some, span_empty.f, decide_eq_true_eq]
        by_cases hne : max s.f0 t.f0 ≥ min s.f1 t.f1
        · simp only [if_pos hne]
          rw [if_pos (by omega)]
          exact next out ho (by omega) (fun n => ⟨.inl, fun h => h.elim id (fun h => by omega)⟩) (fun u hu => .inl hu)
        · simp only [if_neg hne]
          rw [if_pos (by omega)]
          refine next (out ++ [⟨max s.f0 t.f0, min s.f1 t.f1⟩]) ?_ (by simp) (fun n => ?_) (fun u hu => ?_)
          · refine can_append.2 ⟨ho, can_cons.2 ⟨by show max s.f0 t.f0 < min s.f1 t.f1; omega, (fun v hv => by cases hv), Can.nil⟩, fun u hu v hv => ?_⟩
            rw [List.mem_singleton.1 hv]
            show u.f1 < max s.f0 t.f0
            rcases hb u hu with h | h
            · have := h s List.mem_cons_self; omega
            · have := h t List.mem_cons_self; omega
          · rw [mem_append, mem_cons, e1]
            simp only [or_false]
            have : (max s.f0 t.f0 ≤ n ∧ n < min s.f1 t.f1) ↔ ((s.f0 ≤ n ∧ n < s.f1) ∧ (t.f0 ≤ n ∧ n < t.f1)) := by omega
            rw [this]
          · rcases List.mem_append.1 hu with hu | hu
            · exact .inl hu
            · rw [List.mem_singleton.1 hu]
              exact .inr ⟨by show min s.f1 t.f1 ≤ s.f1; omega, by show min s.f1 t.f1 ≤ t.f1; omega⟩

theorem Common_eq (k : Nat) (a b : List S23) (ha : a.length ≤ 400000) (hb : b.length ≤ 400000) (hk : 2000000 < k) :
    ∃ z, span_Common.f k a b = some z ∧ Can z ∧ (∀ n, mem z n ↔ mem a n ∧ mem b n) ∧ z.length ≤ a.length + b.length := by
  obtain ⟨a1, a2, a3⟩ := canonL_can a
  obtain ⟨b1, b2, b3⟩ := canonL_can b
  obtain ⟨z, z1, z2, z3, z4⟩ := common_go ((canonL a).length + (canonL b).length) (canonL a) (canonL b) [] k (Nat.le_refl _) (by omega) (by simp; omega) a1 b1 Can.nil (fun u hu => by cases hu)
  refine ⟨z, ?_, z2, fun n => ?_, by simp only [List.length_nil] at z4; omega⟩
  · unfold span_Common.f Ext.span_Canon.f
    rw [if_pos (by omega), if_pos (by omega)]
    exact z1
  · rw [z3, a2, b2]
    exact ⟨fun h => h.elim (fun h => absurd h (mem_nil n)) id, .inr⟩

theorem Union_eq (a b : List S23) (ha : a.length ≤ 400000) (hb : b.length ≤ 400000) :
    Ext.span_Union.f a b = some (canonL (a ++ b)) := by
  unfold Ext.span_Union.f
  first | rw [if_pos ⟨ha, hb⟩] | rw [if_pos ha, if_pos hb]

#print axioms common_go
end Go.Proofs.Ytioglhaofcmebaa
