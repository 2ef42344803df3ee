/- The reference's insert, Canon and Is on lists. -/
import Derived.Test.YtioglhaofcmebaaMathS
import Derived.Test.YtioglhaofcmebaaPx0
import Derived.Test.YtioglhaofcmebaaPx1
import Derived.Test.YtioglhaofcmebaaPR3
import Derived.Test.YtioglhaofcmebaaMath
namespace Go.Proofs.Ytioglhaofcmebaa
open Go.RowKit P
open Go.Proofs.YtioglhaofcmebaaW.PrintWords (mx mn)
set_option linter.unusedSimpArgs false
set_option linter.unusedVariables false

def insP : List S23 → S23 → List S23 → List S23 → List S23
  | [], s, b, a => b ++ [s] ++ a
  | t :: r, s, b, a => if t.f1 < s.f0 then insP r s (b ++ [t]) a else if t.f0 > s.f1 then insP r s b (a ++ [t]) else insP r ⟨mn s.f0 t.f0, mx s.f1 t.f1⟩ b a

structure Ins (r : List S23) (s : S23) (b a : List S23) : Prop where
  cb : Can b
  ca : Can a
  cr : Can r
  ne : s.f0 < s.f1
  bs : ∀ u ∈ b, u.f1 < s.f0
  sa : ∀ u ∈ a, s.f1 < u.f0
  br : ∀ u ∈ b, ∀ v ∈ r, u.f1 < v.f0
  ar : ∀ u ∈ a, ∀ v ∈ r, u.f1 < v.f0

theorem insP_can : ∀ (r : List S23) (s : S23) (b a : List S23), Ins r s b a → Can (insP r s b a) ∧ (∀ n, mem (insP r s b a) n ↔ mem b n ∨ (s.f0 ≤ n ∧ n < s.f1) ∨ mem a n ∨ mem r n) ∧ (insP r s b a).length ≤ b.length + a.length + r.length + 1 := by
  intro r
  induction r with
  | nil =>
    intro s b a h
    simp only [insP]
    have hs : Can [s] := can_cons.2 ⟨h.ne, (fun t ht => by cases ht), Can.nil⟩
    refine ⟨?_, fun n => ?_, by simp; omega⟩
    · refine can_append.2 ⟨can_append.2 ⟨h.cb, hs, fun u hu v hv => ?_⟩, h.ca, fun u hu v hv => ?_⟩
      · obtain rfl := List.mem_singleton.1 hv; exact h.bs u hu
      · rcases List.mem_append.1 hu with hu | hu
        · have := h.bs u hu; have := h.sa v hv; have := h.ne; omega
        · obtain rfl := List.mem_singleton.1 hu; exact h.sa v hv
    · rw [mem_append, mem_append, mem_cons]
      have e1 : mem [] n ↔ False := ⟨mem_nil n, False.elim⟩
      rw [e1]
      simp only [or_false, or_assoc]
  | cons t r ih =>
    intro s b a h
    obtain ⟨t1, t2, t3⟩ := can_cons.1 h.cr
    have hne := h.ne
    have ht : Can [t] := can_cons.2 ⟨t1, (fun t ht => by cases ht), Can.nil⟩
    simp only [insP]
    by_cases h1 : t.f1 < s.f0
    · rw [if_pos h1]
      have hno : ∀ u ∈ a, False := fun u hu => by
        have q1 := h.sa u hu
        have q2 := h.ar u hu t List.mem_cons_self
        have q3 := h.ca.1 u hu
        omega
      obtain ⟨i1, i2, i3⟩ := ih s (b ++ [t]) a ⟨can_append.2 ⟨h.cb, ht, fun u hu v hv => by obtain rfl := List.mem_singleton.1 hv; exact h.br u hu v List.mem_cons_self⟩, h.ca, t3, hne,
        fun u hu => by
          rcases List.mem_append.1 hu with hu | hu
          · exact h.bs u hu
          · obtain rfl := List.mem_singleton.1 hu; exact h1,
        h.sa,
        fun u hu v hv => by
          rcases List.mem_append.1 hu with hu | hu
          · exact h.br u hu v (List.mem_cons_of_mem _ hv)
          · obtain rfl := List.mem_singleton.1 hu; exact t2 v hv,
        fun u hu => (hno u hu).elim⟩
      refine ⟨i1, fun n => ?_, by simp at i3 ⊢; omega⟩
      rw [i2, mem_append, mem_cons, mem_cons]
      have e1 : mem [] n ↔ False := ⟨mem_nil n, False.elim⟩
      rw [e1]
      simp only [or_false]
      constructor
      · rintro ((q | q) | q | q | q)
        · exact .inl q
        · exact .inr (.inr (.inr (.inl q)))
        · exact .inr (.inl q)
        · exact .inr (.inr (.inl q))
        · exact .inr (.inr (.inr (.inr q)))
      · rintro (q | q | q | q | q)
        · exact .inl (.inl q)
        · exact .inr (.inl q)
        · exact .inr (.inr (.inl q))
        · exact .inl (.inr q)
        · exact .inr (.inr (.inr q))
    · rw [if_neg h1]
      by_cases h2 : t.f0 > s.f1
      · rw [if_pos h2]
        obtain ⟨i1, i2, i3⟩ := ih s b (a ++ [t]) ⟨h.cb, can_append.2 ⟨h.ca, ht, fun u hu v hv => by obtain rfl := List.mem_singleton.1 hv; exact h.ar u hu v List.mem_cons_self⟩, t3, hne, h.bs,
          fun u hu => by
            rcases List.mem_append.1 hu with hu | hu
            · exact h.sa u hu
            · obtain rfl := List.mem_singleton.1 hu; exact h2,
          fun u hu v hv => h.br u hu v (List.mem_cons_of_mem _ hv),
          fun u hu v hv => by
            rcases List.mem_append.1 hu with hu | hu
            · exact h.ar u hu v (List.mem_cons_of_mem _ hv)
            · obtain rfl := List.mem_singleton.1 hu; exact t2 v hv⟩
        refine ⟨i1, fun n => ?_, by simp at i3 ⊢; omega⟩
        rw [i2, mem_append, mem_cons, mem_cons]
        have e1 : mem [] n ↔ False := ⟨mem_nil n, False.elim⟩
        rw [e1]
        simp only [or_false]
        constructor
        · rintro (q | q | (q | q) | q)
          · exact .inl q
          · exact .inr (.inl q)
          · exact .inr (.inr (.inl q))
          · exact .inr (.inr (.inr (.inl q)))
          · exact .inr (.inr (.inr (.inr q)))
        · rintro (q | q | q | q | q)
          · exact .inl q
          · exact .inr (.inl q)
          · exact .inr (.inr (.inl (.inl q)))
          · exact .inr (.inr (.inl (.inr q)))
          · exact .inr (.inr (.inr q))
      · rw [if_neg h2]
        have hno : ∀ u ∈ a, False := fun u hu => by
          have q1 := h.sa u hu
          have q2 := h.ar u hu t List.mem_cons_self
          have q3 := h.ca.1 u hu
          omega
        have m1 : mn s.f0 t.f0 = min s.f0 t.f0 := by unfold mn; split <;> omega
        have m2 : mx s.f1 t.f1 = max s.f1 t.f1 := by unfold mx; split <;> omega
        rw [m1, m2]
        obtain ⟨i1, i2, i3⟩ := ih ⟨min s.f0 t.f0, max s.f1 t.f1⟩ b a ⟨h.cb, h.ca, t3, (by show min s.f0 t.f0 < max s.f1 t.f1; omega),
          fun u hu => by
            have q1 := h.bs u hu
            have q2 := h.br u hu t List.mem_cons_self
            show u.f1 < min s.f0 t.f0
            omega,
          fun u hu => (hno u hu).elim,
          fun u hu v hv => h.br u hu v (List.mem_cons_of_mem _ hv),
          fun u hu => (hno u hu).elim⟩
        refine ⟨i1, fun n => ?_, by simp at i3 ⊢; omega⟩
        rw [i2, mem_cons]
        simp only
        have key : (min s.f0 t.f0 ≤ n ∧ n < max s.f1 t.f1) ↔ (s.f0 ≤ n ∧ n < s.f1) ∨ (t.f0 ≤ n ∧ n < t.f1) := by omega
        rw [key]
        constructor
        · rintro (q | (q | q) | q | q)
          · exact .inl q
          · exact .inr (.inl q)
          · exact .inr (.inr (.inr (.inl q)))
          · exact .inr (.inr (.inl q))
          · exact .inr (.inr (.inr (.inr q)))
        · rintro (q | q | q | q | q)
          · exact .inl q
          · exact .inr (.inl (.inl q))
          · exact .inr (.inr (.inl q))
          · exact .inr (.inl (.inr q))
          · exact .inr (.inr (.inr q))

theorem insert_go (l : List S23) : ∀ (r p : List S23) (s : S23) (b a : List S23) (k : Nat), l = p ++ r → r.length < k → l.length ≤ 1000000 → b.length + a.length + r.length ≤ 1000000 →
    sawmillref03_insert.l0 k l b a (p.length : Int) s.f0 s.f1 = some (insP r s b a) := by
  intro r
  induction r with
  | nil =>
    intro p s b a k hl hk hm hb
    obtain ⟨k, rfl⟩ : ∃ m, k = m + 1 := ⟨k - 1, by omega⟩
    simp only [List.length_nil] at hb
    simp only [sawmillref03_insert.l0, insP]
    rw [if_neg (by subst hl; simp), if_pos (by omega)]
    simp only [Option.bind_some]
    rw [if_pos (by simp; omega)]
  | cons t r ih =>
    intro p s b a k hl hk hm hb
    obtain ⟨k, rfl⟩ : ∃ m, k = m + 1 := ⟨k - 1, by omega⟩
    have hlen : l.length = p.length + (r.length + 1) := by subst hl; simp
    simp only [List.length_cons] at hk hb
    have r1 : rd_T23 l (p.length : Int) = t := by rw [hl, rd23_mid]
    have ht : (⟨t.f0, t.f1⟩ : S23) = t := rfl
    simp only [sawmillref03_insert.l0, insP]
    rw [if_pos (by omega), if_pos (by omega), r1, wrap_succ p.length (by omega), ht]
    have hp : l = (p ++ [t]) ++ r := by rw [hl]; simp
    have hpl : ((p.length + 1 : Nat) : Int) = ((p ++ [t]).length : Int) := by simp
    rw [hpl]
    by_cases h1 : t.f1 < s.f0
    · rw [if_pos h1, if_pos h1, if_pos (by omega)]
      exact ih (p ++ [t]) s (b ++ [t]) a k hp (by omega) hm (by simp; omega)
    · rw [if_neg h1, if_neg h1]
      by_cases h2 : t.f0 > s.f1
      · rw [if_pos h2, if_pos h2, if_pos (by omega)]
        exact ih (p ++ [t]) s b (a ++ [t]) k hp (by omega) hm (by simp; omega)
      · rw [if_neg h2, if_neg h2]
        exact ih (p ++ [t]) ⟨mn s.f0 t.f0, mx s.f1 t.f1⟩ b a k hp (by omega) hm (by omega)

theorem insert_eq (k : Nat) (l : List S23) (s : S23) (hk : l.length < k) (hm : l.length ≤ 1000000) : sawmillref03_insert.f k l s.f0 s.f1 = some (insP l s [] []) :=
  insert_go l l [] s [] [] k rfl hk hm (by simpa using hm)

theorem insP_set {l : List S23} {s : S23} (h : Can l) (hs : s.f0 < s.f1) : Can (insP l s [] []) ∧ (∀ n, mem (insP l s [] []) n ↔ mem l n ∨ (s.f0 ≤ n ∧ n < s.f1)) ∧ (insP l s [] []).length ≤ l.length + 1 := by
  obtain ⟨a, b, c⟩ := insP_can l s [] [] ⟨Can.nil, Can.nil, h, hs, (fun u hu => by cases hu), (fun u hu => by cases hu), (fun u hu => by cases hu), (fun u hu => by cases hu)⟩
  refine ⟨a, fun n => ?_, by simpa using c⟩
  rw [b]
  have e1 : mem [] n ↔ False := ⟨mem_nil n, False.elim⟩
  rw [e1]
  simp only [false_or]
  exact or_comm

theorem canon_go (l : List S23) : ∀ (r p out : List S23) (k : Nat), l = p ++ r → out.length + 2 * r.length < k → l.length ≤ 100000 → out.length + r.length ≤ 100000 → Can out →
    ∃ x, sawmillref03_Canon.l0 k l out (p.length : Int) = some x ∧ Can x ∧ (∀ n, mem x n ↔ mem out n ∨ mem r n) := by
  intro r
  induction r with
  | nil =>
    intro p out k hl hk hm ho hc
    obtain ⟨k, rfl⟩ : ∃ m, k = m + 1 := ⟨k - 1, by omega⟩
    refine ⟨out, ?_, hc, fun n => ⟨.inl, fun h => h.elim id (fun h => absurd h (mem_nil n))⟩⟩
    simp only [sawmillref03_Canon.l0]
    rw [if_neg (by subst hl; simp)]
  | cons t r ih =>
    intro p out k hl hk hm ho hc
    obtain ⟨k, rfl⟩ : ∃ m, k = m + 1 := ⟨k - 1, by omega⟩
    have hlen : l.length = p.length + (r.length + 1) := by subst hl; simp
    simp only [List.length_cons] at hk ho
    have r1 : rd_T23 l (p.length : Int) = t := by rw [hl, rd23_mid]
    have hp : l = (p ++ [t]) ++ r := by rw [hl]; simp
    have hpl : ((p.length + 1 : Nat) : Int) = ((p ++ [t]).length : Int) := by simp
    simp only [sawmillref03_Canon.l0]
    rw [if_pos (by omega), if_pos (by omega), r1, wrap_succ p.length (by omega), hpl]
    by_cases h1 : t.f0 < t.f1
    · obtain ⟨q1, q2, q3⟩ := insP_set hc h1
      rw [if_pos h1, insert_eq k out t (by omega) (by omega)]
      simp only [Option.bind_some]
      obtain ⟨x, x1, x2, x3⟩ := ih (p ++ [t]) (insP out t [] []) k hp (by omega) hm (by omega) q1
      exact ⟨x, x1, x2, fun n => by rw [x3, q2, mem_cons, or_assoc]⟩
    · rw [if_neg h1]
      obtain ⟨x, x1, x2, x3⟩ := ih (p ++ [t]) out k hp (by omega) hm (by omega) hc
      refine ⟨x, x1, x2, fun n => ?_⟩
      rw [x3, mem_cons]
      constructor
      · rintro (h | h)
        · exact .inl h
        · exact .inr (.inr h)
      · rintro (h | h | h)
        · exact .inl h
        · omega
        · exact .inr h

/-- The reference's Canon. -/
theorem refCanon (k : Nat) (l : List S23) (hk : 2 * l.length < k) (hm : l.length ≤ 100000) : sawmillref03_Canon.f k l = some (canonL l) := by
  obtain ⟨x, x1, x2, x3⟩ := canon_go l l [] [] k rfl (by simp; omega) hm (by simpa using hm) Can.nil
  have : x = canonL l := canonL_eq x2 (fun n => (x3 n).trans ⟨fun h => h.elim (fun h => absurd h (mem_nil n)) id, .inr⟩)
  rw [← this]
  exact x1

#print axioms insP_can
#print axioms refCanon
end Go.Proofs.Ytioglhaofcmebaa
