/- SpanLongest: the longest span of a set is one of its canonical spans, none of which is longer, and those before it are shorter. -/
import Derived.Test.YtioglhaofcmebaaPxLLongest
import Derived.Test.YtioglhaofcmebaaRows
import Derived.Test.YtioglhaofcmebaaArg
import Derived.Test.YtioglhaofcmebaaMathH
import Derived.ProofKit
import Derived.OpenShut
import Derived.ShutString
import Derived.ChangeOld
import Derived.SizedLaws
import Derived.Lib.SmallJoins
namespace Go.Proofs.Ytioglhaofcmebaa.spanLongest
open Go.RowKit P
set_option linter.unusedVariables false
set_option linter.unusedSimpArgs false

theorem canon_f (l : List S23) (h : l.length ≤ 1000000) : Ext.span_Canon.f l = some (canonL l) := by
  unfold Ext.span_Canon.f
  rw [if_pos h]
theorem awake_f : Ext.sawmilllaw03_awake.f = some true := rfl

theorem after (l : List S23) (b : S23) (hb : In64 b) (hl : ∀ s ∈ l, In64 s) : ∀ (r p : List S23) (k : Nat), l = p ++ r → r.length < k → l.length ≤ 1000000 → (∀ u ∈ r, lenI u.f0 u.f1 ≤ lenI b.f0 b.f1) →
    sawmilllaw03_SpanLongest.l0 k l true (p.length : Int) b.f0 b.f1 = some true := by
  intro r
  induction r with
  | nil =>
    intro p k hp hk hm hr
    obtain ⟨k, rfl⟩ : ∃ m, k = m + 1 := ⟨k - 1, by omega⟩
    simp only [sawmilllaw03_SpanLongest.l0]
    rw [if_neg (by subst hp; simp), if_pos trivial]
    rfl
  | cons t r ih =>
    intro p k hp hk hm hr
    obtain ⟨k, rfl⟩ : ∃ m, k = m + 1 := ⟨k - 1, by omega⟩
    have hlen : l.length = p.length + (r.length + 1) := by subst hp; simp
    simp only [List.length_cons] at hk
    have r1 : rd_T23 l (p.length : Int) = t := by rw [hp, rd23_mid]
    have hp2 : l = (p ++ [t]) ++ r := by rw [hp]; simp
    have hpl : ((p.length + 1 : Nat) : Int) = ((p ++ [t]).length : Int) := by simp
    have ht : In64 t := hl t (by rw [hp]; simp)
    have h1 := hr t List.mem_cons_self
    simp only [sawmilllaw03_SpanLongest.l0]
    rw [if_pos (by omega), if_pos (by omega), r1, Len_eq t.f0 t.f1 ht, Len_eq b.f0 b.f1 hb, wrap_succ p.length (by omega), hpl]
    simp only [Option.bind_some, if_true]
    rw [if_neg (by omega)]
    exact ih (p ++ [t]) k hp2 (by omega) hm (fun u hu => hr u (List.mem_cons_of_mem _ hu))
theorem before (l q : List S23) (b : S23) (hb : In64 b) (hl : ∀ s ∈ l, In64 s) (hq : ∀ u ∈ q, lenI u.f0 u.f1 ≤ lenI b.f0 b.f1) : ∀ (r p : List S23) (k : Nat), l = p ++ (r ++ b :: q) → r.length + q.length + 1 < k → l.length ≤ 1000000 → (∀ u ∈ r, lenI u.f0 u.f1 < lenI b.f0 b.f1) →
    sawmilllaw03_SpanLongest.l0 k l false (p.length : Int) b.f0 b.f1 = some true := by
  intro r
  induction r with
  | nil =>
    intro p k hp hk hm hr
    obtain ⟨k, rfl⟩ : ∃ m, k = m + 1 := ⟨k - 1, by omega⟩
    rw [List.nil_append] at hp
    have hlen : l.length = p.length + (q.length + 1) := by subst hp; simp
    have r1 : rd_T23 l (p.length : Int) = b := by rw [hp, rd23_mid]
    have hp2 : l = (p ++ [b]) ++ q := by rw [hp]; simp
    have hpl : ((p.length + 1 : Nat) : Int) = ((p ++ [b]).length : Int) := by simp
    simp only [sawmilllaw03_SpanLongest.l0]
    rw [if_pos (by omega), if_pos (by omega), r1, Len_eq b.f0 b.f1 hb, wrap_succ p.length (by omega), hpl]
    simp only [Option.bind_some, Bool.false_eq_true, if_false]
    rw [if_neg (by omega)]
    simp only [beq_self_eq_true, Bool.not_true, Bool.or_self, Bool.false_eq_true, if_false, Bool.and_self]
    simp only [List.length_nil] at hk
    exact after l b hb hl q (p ++ [b]) k hp2 (by omega) hm hq
  | cons t r ih =>
    intro p k hp hk hm hr
    obtain ⟨k, rfl⟩ : ∃ m, k = m + 1 := ⟨k - 1, by omega⟩
    have hlen : l.length = p.length + (r.length + q.length + 2) := by subst hp; simp; omega
    simp only [List.length_cons] at hk
    have r1 : rd_T23 l (p.length : Int) = t := by rw [hp, List.cons_append, rd23_mid]
    have hp2 : l = (p ++ [t]) ++ (r ++ b :: q) := by rw [hp]; simp
    have hpl : ((p.length + 1 : Nat) : Int) = ((p ++ [t]).length : Int) := by simp
    have ht : In64 t := hl t (by rw [hp]; simp)
    have h1 := hr t List.mem_cons_self
    simp only [sawmilllaw03_SpanLongest.l0]
    rw [if_pos (by omega), if_pos (by omega), r1, Len_eq t.f0 t.f1 ht, Len_eq b.f0 b.f1 hb, wrap_succ p.length (by omega), hpl]
    simp only [Option.bind_some, Bool.false_eq_true, if_false]
    rw [if_neg (by omega), if_neg (show ¬ lenI t.f0 t.f1 = lenI b.f0 b.f1 by omega)]
    have hne : (t.f0 == b.f0 && t.f1 == b.f1) = false := by
      cases h : (t.f0 == b.f0 && t.f1 == b.f1) with
      | false => rfl
      | true =>
        rw [Bool.and_eq_true, beq_iff_eq, beq_iff_eq] at h
        rw [h.1, h.2] at h1; omega
    have hn2 : ((!(t.f0 == b.f0)) || (!(t.f1 == b.f1))) = true := by
      rw [← Bool.not_and, hne]; rfl
    rw [if_pos hn2, hne]
    exact ih (p ++ [t]) k hp2 (by omega) hm (fun u hu => hr u (List.mem_cons_of_mem _ hu))
theorem true_ (l : List S23) (hb : ∀ s ∈ l, In64 s) : ∃ k, sawmilllaw03_SpanLongest.f k l = some true := by
  refine ⟨1000, ?_⟩
  unfold sawmilllaw03_SpanLongest.f sawmilllaw03_few.f
  simp only [Option.bind_some, awake_f, decide_eq_true_eq]
  by_cases h : (l.length : Int) ≤ 40
  case neg => rw [if_neg h]
  obtain ⟨a1, a2, a3⟩ := canonL_can l
  have hb' := in64_canon hb
  rw [if_pos h, canon_f l (by omega), Longest_eq 1000 l hb (by omega) (by omega)]
  simp only [Option.bind_some]
  rcases longP_first (canonL l) ⟨0, 0⟩ with ⟨h1, h2⟩ | ⟨p, q, h1, h2, h3, h4⟩
  · rw [h1]
    have hx : canonL l = [] := by
      cases hc : canonL l with
      | nil => rfl
      | cons s r =>
        rw [hc] at h2 a1
        have h3 := h2 s List.mem_cons_self
        have h4 := lenI_pos (can_cons.1 a1).1
        have e0 : lenI 0 0 = 0 := by unfold lenI; rw [if_pos (by omega)]
        have h5 : lenI s.f0 s.f1 ≤ lenI 0 0 := h3
        omega
    rw [hx]
    rfl
  · generalize hB : longP (canonL l) ⟨0, 0⟩ = B at *
    have hin : B ∈ canonL l := by rw [h1]; simp
    have hne : ¬ B.f0 ≥ B.f1 := by have := a1.1 B hin; omega
    rw [decide_eq_false hne]
    simp only [Bool.not_false, if_true]
    have hlen : (canonL l).length = p.length + (q.length + 1) := by rw [h1]; simp
    exact before (canonL l) q B (hb' B hin) hb' h4 p [] 1000 h1 (by omega) (by omega) h3

section
open Go.ChangeShapes Go.WideShapes Go.ChangeAt Go.RowKit Go.Joins
theorem own : ownKnob Try.prog.godebug = none := by kernel_rfl
theorem laidOut : laidOutB Try.prog = true := by kernel_rfl

set_option maxRecDepth 100000 in
theorem lifted (os : Os) (started : os.Started) (H : Type) (enc : TypeId × Value → H) :
    ReturnsInHanded {} Try.checked os 10 .any (Rows.spanLongestSpec.pre6 enc Try.prog Try.f10 Rows.spanLongestRow.domain false) (Rows.spanLongestSpec.post enc Try.prog Try.f10 false true false false) := by
  refine returnsInHanded_of_change_sized (C := Try.checked) own started (by kernel_rfl) Try.func10
    (ChangeSpec.witness6 (enc := enc) (C := Try.checked) false ⟨#[], #[.slice none 0 0], []⟩ 8 (by kernel_rfl) (by kernel_rfl) (by kernel_rfl) (by kernel_rfl)) ?_
  intro W base args ds gs before hval0 hW hcnd hsz0 _
  have hval : ∀ (j : Nat) t v, Try.f10.params[j]? = some t → args[j]? = some v → Value.okWide Try.prog W .any base t v := hval0
  have hW' := hW
  obtain ⟨p, q, hA0, hV, rfl, hfz, hnd⟩ := hW
  have hA : DataW.TrodAll enc Try.prog W 0 (fun _ => true) true Try.f10.params.toList args.toList ds p := hA0
  rw [Try.params10] at hA hval
  obtain ⟨v0, vs0, d0, ds0, p0, q0, hargs, rfl, rfl, h0, r0⟩ := trodAll_cons hA
  obtain ⟨rfl, rfl, rfl⟩ := trodAll_nil r0
  obtain rfl : args = #[v0] := by cases args; simp_all
  obtain ⟨rfl, rfl⟩ := trodVars_none hV
  have k0 := h0
  have lt0 : ∀ x ∈ p0, x.block < W.heap.size := by obtain ⟨m, hm⟩ := k0; exact DataW.trod_lt m _ _ _ hm
  obtain ⟨A0, c0, l0, rfl, hC0, hc0, hb0⟩ := spans_of (hval 0 28 v0 rfl rfl) h0
  clear hA0 hval0 hsz0
  obtain ⟨k, ht⟩ := true_ l0 hb0
  refine (sawmilllaw03_SpanLongest.calls k A0 c0 l0 true W hC0 hc0 ht).mono fun e W' ⟨he, bel⟩ => ?_
  subst he
  exact ⟨_, rfl, _, _, _, [], _, [], hW', trodAll_mk1 (shut_bool Try.underlying4 _), (trodAll_cons_mk (Below.trod laidOut (by kernel_rfl) (of_decide_eq_true (by kernel_rfl)) k0 bel lt0) trodAll_mk0), rfl, bel.frame _, fun h => by cases h⟩

theorem over : Rows.spanLongestRow.holds Try.pinned (OpenSpec.ofChange Rows.spanLongestSpec) :=
  OpenClaim.holds_of_wide 10 Try.f10 rfl rfl rfl rfl rfl rfl rfl ⟨rfl, rfl, rfl, rfl, rfl⟩ rfl rfl rfl rfl rfl (by kernel_rfl) Try.func10 (by kernel_rfl)
    (of_decide_eq_true (by kernel_rfl)) (by unfold Func.isWrapper; first | (rw [if_pos (by decide +kernel)]; kernel_rfl) | (rw [if_neg (by decide +kernel)]; exact ⟨rfl, rfl⟩))
    (fun os started H enc _ => lifted os started H enc)

theorem proved : Rows.SpanLongestSaid := over
#print axioms proved
end
end Go.Proofs.Ytioglhaofcmebaa.spanLongest
