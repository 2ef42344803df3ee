/- SpanTotals: Total, Has and Longest return the specified results for any list of spans. -/
import Derived.Test.YtioglhaofcmebaaPxLTotals
import Derived.Test.YtioglhaofcmebaaRows
import Derived.Test.YtioglhaofcmebaaArg
import Derived.Test.YtioglhaofcmebaaMathG
import Derived.ProofKit
import Derived.OpenShut
import Derived.ShutString
import Derived.ChangeOld
import Derived.SizedLaws
import Derived.Lib.SmallJoins
namespace Go.Proofs.Ytioglhaofcmebaa.spanTotals
open Go.RowKit P
set_option linter.unusedVariables false
set_option linter.unusedSimpArgs false

theorem canon_f (l : List S23) (h : l.length ≤ 1000000) : Ext.span_Canon.f l = some (canonL l) := by
  unfold Ext.span_Canon.f
  rw [if_pos h]
theorem awake_f : Ext.sawmilllaw03_awake.f = some true := rfl

theorem true_ (l : List S23) (n : Int) (hb : ∀ s ∈ l, In64 s) : ∃ k, sawmilllaw03_SpanTotals.f k l n = some true := by
  refine ⟨1000, ?_⟩
  unfold sawmilllaw03_SpanTotals.f sawmilllaw03_few.f
  simp only [Option.bind_some, awake_f, decide_eq_true_eq]
  by_cases h : (l.length : Int) ≤ 40
  · obtain ⟨v, h1, h2⟩ := Longests_eq 1000 l hb (by omega) (by omega)
    obtain ⟨t, h3, h4⟩ := Totals_eq 1000 l (by omega) (by omega)
    rw [if_pos h, h1, h2, h3, h4]
    unfold Ext.span_Has.f
    simp only [Option.bind_some, refHas 1000 l n (by omega) (by omega)]
    simp
  · rw [if_neg h]

section
open Go.ChangeShapes Go.WideShapes Go.ChangeAt Go.RowKit Go.Joins
theorem own : ownKnob Try.prog.godebug = none := by kernel_rfl
theorem laidOut : laidOutB Try.prog = true := by kernel_rfl

set_option maxRecDepth 100000 in
theorem lifted (os : Os) (started : os.Started) (H : Type) (enc : TypeId × Value → H) :
    ReturnsInHanded {} Try.checked os 6 .any (Rows.spanTotalsSpec.pre6 enc Try.prog Try.f6 Rows.spanTotalsRow.domain false) (Rows.spanTotalsSpec.post enc Try.prog Try.f6 false true false false) := by
  refine returnsInHanded_of_change_sized (C := Try.checked) own started (by kernel_rfl) Try.func6
    (ChangeSpec.witness6 (enc := enc) (C := Try.checked) false ⟨#[], #[.slice none 0 0, .int .i64 0], []⟩ 8 (by kernel_rfl) (by kernel_rfl) (by kernel_rfl) (by kernel_rfl)) ?_
  intro W base args ds gs before hval0 hW hcnd hsz0 _
  have hval : ∀ (j : Nat) t v, Try.f6.params[j]? = some t → args[j]? = some v → Value.okWide Try.prog W .any base t v := hval0
  have hW' := hW
  obtain ⟨p, q, hA0, hV, rfl, hfz, hnd⟩ := hW
  have hA : DataW.TrodAll enc Try.prog W 0 (fun _ => true) true Try.f6.params.toList args.toList ds p := hA0
  rw [Try.params6] at hA hval
  obtain ⟨v0, vs0, d0, ds0, p0, q0, hargs, rfl, rfl, h0, r0⟩ := trodAll_cons hA
  obtain ⟨v1, vs1, d1, ds1, p1, q1, rfl, rfl, rfl, h1, r1⟩ := trodAll_cons r0
  obtain ⟨rfl, rfl, rfl⟩ := trodAll_nil r1
  obtain rfl : args = #[v0, v1] := by cases args; simp_all
  obtain ⟨rfl, rfl⟩ := trodVars_none hV
  have k0 := h0
  have k1 := h1
  have lt0 : ∀ x ∈ p0, x.block < W.heap.size := by obtain ⟨m, hm⟩ := k0; exact DataW.trod_lt m _ _ _ hm
  have lt1 : ∀ x ∈ p1, x.block < W.heap.size := by obtain ⟨m, hm⟩ := k1; exact DataW.trod_lt m _ _ _ hm
  obtain ⟨A0, c0, l0, rfl, hC0, hc0, hb0⟩ := spans_of (hval 0 28 v0 rfl rfl) h0
  obtain ⟨n1, rfl, _, _, wf1⟩ := open_int Try.underlying3 (hval 1 3 v1 rfl rfl) h1
  clear hA0 hval0 hsz0
  obtain ⟨k, ht⟩ := true_ l0 n1 hb0
  refine (sawmilllaw03_SpanTotals.calls k A0 c0 l0 n1 true W hC0 hc0 ht).mono fun e W' ⟨he, bel⟩ => ?_
  subst he
  exact ⟨_, rfl, _, _, _, [], _, [], hW', trodAll_mk1 (shut_bool Try.underlying4 _), (trodAll_cons_mk (Below.trod laidOut (by kernel_rfl) (of_decide_eq_true (by kernel_rfl)) k0 bel lt0) (trodAll_cons_mk (Below.trod laidOut (by kernel_rfl) (of_decide_eq_true (by kernel_rfl)) k1 bel lt1) trodAll_mk0)), rfl, bel.frame _, fun h => by cases h⟩

theorem over : Rows.spanTotalsRow.holds Try.pinned (OpenSpec.ofChange Rows.spanTotalsSpec) :=
  OpenClaim.holds_of_wide 6 Try.f6 rfl rfl rfl rfl rfl rfl rfl ⟨rfl, rfl, rfl, rfl, rfl⟩ rfl rfl rfl rfl rfl (by kernel_rfl) Try.func6 (by kernel_rfl)
    (of_decide_eq_true (by kernel_rfl)) (by unfold Func.isWrapper; first | (rw [if_pos (by decide +kernel)]; kernel_rfl) | (rw [if_neg (by decide +kernel)]; exact ⟨rfl, rfl⟩))
    (fun os started H enc _ => lifted os started H enc)

theorem proved : Rows.SpanTotalsSaid := over
#print axioms proved
end
end Go.Proofs.Ytioglhaofcmebaa.spanTotals
