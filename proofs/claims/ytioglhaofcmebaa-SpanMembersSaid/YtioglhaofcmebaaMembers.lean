/- SpanMembers: an integer is in a union, a common part or a difference exactly if it should be, and all of them are canonical. -/
import Derived.Test.YtioglhaofcmebaaPxLMembers
import Derived.Test.YtioglhaofcmebaaRows
import Derived.Test.YtioglhaofcmebaaArg
import Derived.Test.YtioglhaofcmebaaMathM
import Derived.Test.YtioglhaofcmebaaMathI
import Derived.ProofKit
import Derived.OpenShut
import Derived.ShutString
import Derived.ChangeOld
import Derived.SizedLaws
import Derived.Lib.SmallJoins
namespace Go.Proofs.Ytioglhaofcmebaa.spanMembers
open Go.RowKit P
set_option linter.unusedVariables false
set_option linter.unusedSimpArgs false

theorem canon_f (l : List S23) (h : l.length ≤ 1000000) : Ext.span_Canon.f l = some (canonL l) := by
  unfold Ext.span_Canon.f
  rw [if_pos h]
theorem awake_f : Ext.sawmilllaw03_awake.f = some true := rfl

theorem has_f (l : List S23) (n : Int) : Ext.span_Has.f l n = some (l.any (pH n)) := rfl
theorem any_iff {l m : List S23} {n : Int} (h : mem l n ↔ mem m n) : l.any (pH n) = m.any (pH n) := by
  cases h1 : l.any (pH n) with
  | true => exact ((any_mem m n).2 (h.1 ((any_mem l n).1 h1))).symm
  | false =>
    cases h2 : m.any (pH n) with
    | true => rw [(any_mem l n).2 (h.2 ((any_mem m n).1 h2))] at h1; cases h1
    | false => rfl

theorem true_ (a b : List S23) (n : Int) : ∃ k, sawmilllaw03_SpanMembers.f k a b n = some true := by
  refine ⟨2000005 + 1 + 1, ?_⟩
  generalize hk : 2000005 = k
  have hk0 : 2000000 < k := by omega
  clear hk
  unfold sawmilllaw03_SpanMembers.f sawmilllaw03_few.f
  simp only [Option.bind_some, decide_eq_true_eq]
  by_cases h : (a.length : Int) ≤ 40
  · rw [if_pos h]
    by_cases h2 : (b.length : Int) ≤ 40
    · obtain ⟨a1, a2, a3⟩ := canonL_can a
      obtain ⟨u1, u2, u3⟩ := canonL_can (a ++ b)
      rw [List.length_append] at u3
      obtain ⟨c, c1, c2, c3, c4⟩ := Common_eq (k + 1) a b (by omega) (by omega) (by omega)
      obtain ⟨m, m1, m2, m3, m4⟩ := Minus_eq (k + 1) a b (by omega) (by omega) (by omega)
      have hm : a.length * (b.length + 1) ≤ 40 * 41 := Nat.mul_le_mul (by omega) (by omega)
      obtain ⟨x1, y1, _, z1⟩ := Is_eq (k + 1) (canonL (a ++ b)) (by omega) (by omega)
      obtain ⟨x2, y2, _, z2⟩ := Is_eq (k + 1) c (by omega) (by omega)
      obtain ⟨x3, y3, _, z3⟩ := Is_eq (k + 1) m (by omega) (by omega)
      obtain ⟨x4, y4, _, z4⟩ := Is_eq (k + 1) (canonL a) (by omega) (by omega)
      rw [decide_eq_true h2]
      simp only [sawmilllaw03_SpanMembers.j0, has_f, Option.bind_some, Bool.not_true, Bool.false_eq_true, if_false, Union_eq a b (by omega) (by omega), c1, m1, y1, y2, y3, y4, z1 u1, z2 c2, z3 m2, z4 a1, if_true, canon_f a (by omega), any_iff (a2 n), bne_self_eq_false]
      have e1 : (canonL (a ++ b)).any (pH n) = (a.any (pH n) || b.any (pH n)) := by
        rw [any_iff (u2 n), List.any_append]
      have e2 : c.any (pH n) = (a.any (pH n) && b.any (pH n)) := by
        rw [Bool.eq_iff_iff, any_mem, c3, Bool.and_eq_true, any_mem, any_mem]
      have e3 : m.any (pH n) = (a.any (pH n) && !b.any (pH n)) := by
        rw [Bool.eq_iff_iff, any_mem, m3, Bool.and_eq_true, any_mem, Bool.not_eq_true', ← Bool.not_eq_true, any_mem]
      simp only [sawmilllaw03_SpanMembers.j1, has_f, Option.bind_some, Bool.false_eq_true, if_false, e1, e2, e3, awake_f]
      cases a.any (pH n) <;> cases b.any (pH n) <;> rfl
    · rw [decide_eq_false h2]
      rfl
  · rw [if_neg h]
    rfl

section
open Go.ChangeShapes Go.WideShapes Go.ChangeAt Go.RowKit Go.Joins
theorem own : ownKnob Try.prog.godebug = none := by kernel_rfl
theorem laidOut : laidOutB Try.prog = true := by kernel_rfl

set_option maxRecDepth 100000 in
theorem lifted (os : Os) (started : os.Started) (H : Type) (enc : TypeId × Value → H) :
    ReturnsInHanded {} Try.checked os 7 .any (Rows.spanMembersSpec.pre6 enc Try.prog Try.f7 Rows.spanMembersRow.domain false) (Rows.spanMembersSpec.post enc Try.prog Try.f7 false true false false) := by
  refine returnsInHanded_of_change_sized (C := Try.checked) own started (by kernel_rfl) Try.func7
    (ChangeSpec.witness6 (enc := enc) (C := Try.checked) false ⟨#[], #[.slice none 0 0, .slice none 0 0, .int .i64 0], []⟩ 8 (by kernel_rfl) (by kernel_rfl) (by kernel_rfl) (by kernel_rfl)) ?_
  intro W base args ds gs before hval0 hW hcnd hsz0 _
  have hval : ∀ (j : Nat) t v, Try.f7.params[j]? = some t → args[j]? = some v → Value.okWide Try.prog W .any base t v := hval0
  have hW' := hW
  obtain ⟨p, q, hA0, hV, rfl, hfz, hnd⟩ := hW
  have hA : DataW.TrodAll enc Try.prog W 0 (fun _ => true) true Try.f7.params.toList args.toList ds p := hA0
  rw [Try.params7] at hA hval
  obtain ⟨v0, vs0, d0, ds0, p0, q0, hargs, rfl, rfl, h0, r0⟩ := trodAll_cons hA
  obtain ⟨v1, vs1, d1, ds1, p1, q1, rfl, rfl, rfl, h1, r1⟩ := trodAll_cons r0
  obtain ⟨v2, vs2, d2, ds2, p2, q2, rfl, rfl, rfl, h2, r2⟩ := trodAll_cons r1
  obtain ⟨rfl, rfl, rfl⟩ := trodAll_nil r2
  obtain rfl : args = #[v0, v1, v2] := by cases args; simp_all
  obtain ⟨rfl, rfl⟩ := trodVars_none hV
  have k0 := h0
  have k1 := h1
  have k2 := h2
  have lt0 : ∀ x ∈ p0, x.block < W.heap.size := by obtain ⟨m, hm⟩ := k0; exact DataW.trod_lt m _ _ _ hm
  have lt1 : ∀ x ∈ p1, x.block < W.heap.size := by obtain ⟨m, hm⟩ := k1; exact DataW.trod_lt m _ _ _ hm
  have lt2 : ∀ x ∈ p2, x.block < W.heap.size := by obtain ⟨m, hm⟩ := k2; exact DataW.trod_lt m _ _ _ hm
  obtain ⟨A0, c0, l0, rfl, hC0, hc0, hb0⟩ := spans_of (hval 0 28 v0 rfl rfl) h0
  obtain ⟨A1, c1, l1, rfl, hC1, hc1, hb1⟩ := spans_of (hval 1 28 v1 rfl rfl) h1
  obtain ⟨n2, rfl, _, _, wf2⟩ := open_int Try.underlying3 (hval 2 3 v2 rfl rfl) h2
  clear hA0 hval0 hsz0
  obtain ⟨k, ht⟩ := true_ l0 l1 n2
  refine (sawmilllaw03_SpanMembers.calls k A0 c0 l0 A1 c1 l1 n2 true W hC0 hc0 hC1 hc1 ht).mono fun e W' ⟨he, bel⟩ => ?_
  subst he
  exact ⟨_, rfl, _, _, _, [], _, [], hW', trodAll_mk1 (shut_bool Try.underlying4 _), (trodAll_cons_mk (Below.trod laidOut (by kernel_rfl) (of_decide_eq_true (by kernel_rfl)) k0 bel lt0) (trodAll_cons_mk (Below.trod laidOut (by kernel_rfl) (of_decide_eq_true (by kernel_rfl)) k1 bel lt1) (trodAll_cons_mk (Below.trod laidOut (by kernel_rfl) (of_decide_eq_true (by kernel_rfl)) k2 bel lt2) trodAll_mk0))), rfl, bel.frame _, fun h => by cases h⟩

theorem over : Rows.spanMembersRow.holds Try.pinned (OpenSpec.ofChange Rows.spanMembersSpec) :=
  OpenClaim.holds_of_wide 7 Try.f7 rfl rfl rfl rfl rfl rfl rfl ⟨rfl, rfl, rfl, rfl, rfl⟩ rfl rfl rfl rfl rfl (by kernel_rfl) Try.func7 (by kernel_rfl)
    (of_decide_eq_true (by kernel_rfl)) (by unfold Func.isWrapper; first | (rw [if_pos (by decide +kernel)]; kernel_rfl) | (rw [if_neg (by decide +kernel)]; exact ⟨rfl, rfl⟩))
    (fun os started H enc _ => lifted os started H enc)

theorem proved : Rows.SpanMembersSaid := over
#print axioms proved
end
end Go.Proofs.Ytioglhaofcmebaa.spanMembers
