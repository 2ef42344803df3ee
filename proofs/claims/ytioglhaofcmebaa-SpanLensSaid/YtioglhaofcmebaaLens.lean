/- SpanLens: Len and Meet return the specified results for any spans. -/
import Derived.Test.YtioglhaofcmebaaPx0
import Derived.Test.YtioglhaofcmebaaPx1
import Derived.Test.YtioglhaofcmebaaPA1
import Derived.Test.YtioglhaofcmebaaPR1
import Derived.Test.YtioglhaofcmebaaPR2
import Derived.Test.YtioglhaofcmebaaPxLLens
import Derived.Test.YtioglhaofcmebaaRows
import Derived.ProofKit
import Derived.OpenShut
import Derived.ShutString
import Derived.ChangeOld
import Derived.SizedLaws
import Derived.Lib.SmallJoins
namespace Go.Proofs.Ytioglhaofcmebaa.spanLens
open Go.ChangeShapes Go.WideShapes Go.ChangeAt Go.RowKit Go.Joins P
open Go.Proofs.YtioglhaofcmebaaW.PrintWords (mx mn)
set_option linter.unusedVariables false
set_option linter.unusedSimpArgs false

theorem len_same (a b : Int) : span_Len.f a b = sawmillref03_Len.f a b := by
  unfold span_Len.f sawmillref03_Len.f span_empty.f
  simp only [Option.bind_some]
  by_cases h : a ≥ b <;> simp [h]
theorem meet_same (a b c d : Int) : span_Meet.f a b c d = sawmillref03_Meet.f a b c d := by
  unfold span_Meet.f sawmillref03_Meet.f span_empty.f
  simp only [Option.bind_some, decide_eq_true_eq]
  have m1 : mx a c ≥ a ∧ mx a c ≥ c := by unfold mx; split <;> omega
  have m2 : mn b d ≤ b ∧ mn b d ≤ d := by unfold mn; split <;> omega
  by_cases h : mx a c ≥ mn b d
  · rw [if_pos h]
    split
    · rfl
    · split <;> rfl
  · rw [if_neg h, if_neg (show ¬ a ≥ b by omega), if_neg (show ¬ c ≥ d by omega)]
theorem len_some (a b : Int) : ∃ x, sawmillref03_Len.f a b = some x := by
  unfold sawmillref03_Len.f
  split
  · exact ⟨_, rfl⟩
  · split
    · split <;> exact ⟨_, rfl⟩
    · exact ⟨_, rfl⟩
theorem meet_some (a b c d : Int) : ∃ x, sawmillref03_Meet.f a b c d = some x := by
  unfold sawmillref03_Meet.f
  split <;> exact ⟨_, rfl⟩
theorem true_ (a b c d : Int) : sawmilllaw03_SpanLens.f a b c d = some true := by
  obtain ⟨x, hx⟩ := len_some a b
  obtain ⟨y, hy⟩ := meet_some a b c d
  unfold sawmilllaw03_SpanLens.f Ext.sawmilllaw03_awake.f
  rw [len_same, meet_same, hx, hy]
  simp

theorem own : ownKnob Try.prog.godebug = none := by kernel_rfl
theorem laidOut : laidOutB Try.prog = true := by kernel_rfl

set_option maxRecDepth 100000 in
theorem lifted (os : Os) (started : os.Started) (H : Type) (enc : TypeId × Value → H) :
    ReturnsInHanded {} Try.checked os 3 .any (Rows.spanLensSpec.pre6 enc Try.prog Try.f3 Rows.spanLensRow.domain false) (Rows.spanLensSpec.post enc Try.prog Try.f3 false true false false) := by
  refine returnsInHanded_of_change_sized (C := Try.checked) own started (by kernel_rfl) Try.func3
    (ChangeSpec.witness6 (enc := enc) (C := Try.checked) false ⟨#[], #[.agg #[.int .i64 0, .int .i64 0], .agg #[.int .i64 0, .int .i64 0]], []⟩ 8 (by kernel_rfl) (by kernel_rfl) (by kernel_rfl) (by kernel_rfl)) ?_
  intro W base args ds gs before hval0 hW hcnd hsz0 _
  have hval : ∀ (j : Nat) t v, Try.f3.params[j]? = some t → args[j]? = some v → Value.okWide Try.prog W .any base t v := hval0
  have hW' := hW
  obtain ⟨p, q, hA0, hV, rfl, hfz, hnd⟩ := hW
  have hA : DataW.TrodAll enc Try.prog W 0 (fun _ => true) true Try.f3.params.toList args.toList ds p := hA0
  rw [Try.params3] at hA hval
  obtain ⟨v0, vs0, d0, ds0, p0, q0, hargs, rfl, rfl, h0, r0⟩ := trodAll_cons hA
  obtain ⟨v1, vs1, d1, ds1, p1, q1, rfl, rfl, rfl, h1, r1⟩ := trodAll_cons r0
  obtain ⟨rfl, rfl, rfl⟩ := trodAll_nil r1
  obtain rfl : args = #[v0, v1] := by cases args; simp_all
  obtain ⟨rfl, rfl⟩ := trodVars_none hV
  have k0 := h0
  have k1 := h1
  have lt0 : ∀ x ∈ p0, x.block < W.heap.size := by obtain ⟨m, hm⟩ := k0; exact DataW.trod_lt m _ _ _ hm
  have lt1 : ∀ x ∈ p1, x.block < W.heap.size := by obtain ⟨m, hm⟩ := k1; exact DataW.trod_lt m _ _ _ hm
  obtain ⟨c0, c1, y0, y1, m, rfl, hd, hp, hy0, hy1⟩ := open_agg2 Try.underlying23 (by kernel_rfl) (by kernel_rfl) (hval 0 23 v0 rfl rfl) h0
  obtain ⟨a, e0, rfl, _⟩ := DataW.trod_int Try.underlying3 hy0
  obtain ⟨b, e1, rfl, _⟩ := DataW.trod_int Try.underlying3 hy1
  obtain ⟨c2, c3, y2, y3, m2, rfl, hd2, hp2, hy2, hy3⟩ := open_agg2 Try.underlying23 (by kernel_rfl) (by kernel_rfl) (hval 1 23 v1 rfl rfl) h1
  obtain ⟨c, e2, rfl, _⟩ := DataW.trod_int Try.underlying3 hy2
  obtain ⟨d, e3, rfl, _⟩ := DataW.trod_int Try.underlying3 hy3
  simp only [List.cons.injEq, and_true] at e0 e1 e2 e3
  subst e0 e1 e2 e3
  clear hA0 hval0 hsz0
  refine (sawmilllaw03_SpanLens.calls a b c d true W (true_ a b c d)).mono fun e W' ⟨he, bel⟩ => ?_
  subst he
  exact ⟨_, rfl, _, _, _, [], _, [], hW', trodAll_mk1 (shut_bool Try.underlying4 _), trodAll_cons_mk (Below.trod laidOut (by kernel_rfl) (of_decide_eq_true (by kernel_rfl)) k0 bel lt0) (trodAll_cons_mk (Below.trod laidOut (by kernel_rfl) (of_decide_eq_true (by kernel_rfl)) k1 bel lt1) trodAll_mk0), rfl, bel.frame _, fun h => by cases h⟩

theorem over : Rows.spanLensRow.holds Try.pinned (OpenSpec.ofChange Rows.spanLensSpec) :=
  OpenClaim.holds_of_wide 3 Try.f3 rfl rfl rfl rfl rfl rfl rfl ⟨rfl, rfl, rfl, rfl, rfl⟩ rfl rfl rfl rfl rfl (by kernel_rfl) Try.func3 (by kernel_rfl)
    (of_decide_eq_true (by kernel_rfl)) (by unfold Func.isWrapper; first | (rw [if_pos (by decide +kernel)]; kernel_rfl) | (rw [if_neg (by decide +kernel)]; exact ⟨rfl, rfl⟩))
    (fun os started H enc _ => lifted os started H enc)

theorem proved : Rows.SpanLensSaid := over
#print axioms proved
end Go.Proofs.Ytioglhaofcmebaa.spanLens
