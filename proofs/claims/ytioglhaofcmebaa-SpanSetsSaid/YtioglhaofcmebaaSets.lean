/- SpanSets: Union, Common and Minus return the specified results for any lists of spans. -/
import Derived.Test.YtioglhaofcmebaaPxLSets
import Derived.Test.YtioglhaofcmebaaRows
import Derived.Test.YtioglhaofcmebaaArg
import Derived.Test.YtioglhaofcmebaaMathM
import Derived.Test.YtioglhaofcmebaaMathU
import Derived.Test.YtioglhaofcmebaaMathK
import Derived.Test.YtioglhaofcmebaaMathN
import Derived.ProofKit
import Derived.OpenShut
import Derived.ShutString
import Derived.ChangeOld
import Derived.SizedLaws
import Derived.Lib.SmallJoins
namespace Go.Proofs.Ytioglhaofcmebaa.spanSets
open Go.RowKit P
set_option linter.unusedVariables false
set_option linter.unusedSimpArgs false

theorem canon_f (l : List S23) (h : l.length ≤ 1000000) : Ext.span_Canon.f l = some (canonL l) := by
  unfold Ext.span_Canon.f
  rw [if_pos h]
theorem awake_f : Ext.sawmilllaw03_awake.f = some true := rfl

theorem same_of {k : Nat} {x y : List S23} (hx : Can x) (hy : Can y) (h : ∀ n, mem x n ↔ mem y n) (hk : x.length < k) (hm : x.length ≤ 1000000) : sawmillref03_Same.f k x y = some true := by
  rw [← can_unique x y hx hy h]
  exact Same_refl k x hk hm
theorem yes (a b : List S23) (ha : a.length ≤ 40) (hb : b.length ≤ 40) (k : Nat) (hk : 2000000 < k) : sawmilllaw03_SpanSets.j0 (k + 1) a b false = some true := by
  obtain ⟨u1, u2, u3⟩ := canonL_can (a ++ b)
  obtain ⟨x1, x2, x3⟩ := canonL_can a
  obtain ⟨y1, y2, y3⟩ := canonL_can b
  rw [List.length_append] at u3
  obtain ⟨c, c1, c2, c3, c4⟩ := Common_eq k a b (by omega) (by omega) hk
  obtain ⟨e, e1, e2, e3⟩ := refCommon k a b (by omega) (by omega) hk
  obtain ⟨m, m1, m2, m3, m4⟩ := Minus_eq k a b (by omega) (by omega) hk
  have hm : a.length * (b.length + 1) ≤ 40 * 41 := Nat.mul_le_mul (by omega) (by omega)
  obtain ⟨r1, r2, r3⟩ := minusR_can (canonL b) (canonL a) x1 y1.1
  have hr : Ext.sawmillref03_Minus.f a b = some (minusR (canonL a) (canonL b)) := by
    unfold Ext.sawmillref03_Minus.f
    rw [if_pos ⟨by omega, by omega⟩]
  simp only [sawmilllaw03_SpanSets.j0, Bool.false_eq_true, if_false, Union_eq a b (by omega) (by omega), refUnion k a b (by omega) (by omega), c1, e1, m1, hr, Option.bind_some]
  rw [Same_refl k (canonL (a ++ b)) (by omega) (by omega)]
  simp only [Option.bind_some, if_true]
  rw [same_of c2 e2 (fun n => (c3 n).trans (e3 n).symm) (by omega) (by omega)]
  simp only [Option.bind_some, if_true]
  rw [same_of m2 r1 (fun n => by rw [m3, r2, x2, y2]) (by omega) (by omega)]
  simp only [Option.bind_some, if_true, awake_f]
theorem true_ (a b : List S23) : ∃ k, sawmilllaw03_SpanSets.f k a b = some true := by
  refine ⟨2000005 + 1, ?_⟩
  generalize hk : 2000005 = k
  have hk0 : 2000000 < k := by omega
  clear hk
  have no : sawmilllaw03_SpanSets.j0 (k + 1) a b true = some true := by
    simp only [sawmilllaw03_SpanSets.j0, if_true, awake_f, Option.bind_some]
  unfold sawmilllaw03_SpanSets.f sawmilllaw03_few.f
  simp only [Option.bind_some, decide_eq_true_eq]
  by_cases h1 : (a.length : Int) ≤ 40
  case neg => rw [if_neg h1]; exact no
  rw [if_pos h1]
  by_cases h2 : (b.length : Int) ≤ 40
  case neg => rw [decide_eq_false h2]; exact no
  rw [decide_eq_true h2]
  exact yes a b (by omega) (by omega) k hk0

section
open Go.ChangeShapes Go.WideShapes Go.ChangeAt Go.RowKit Go.Joins
theorem own : ownKnob Try.prog.godebug = none := by kernel_rfl
theorem laidOut : laidOutB Try.prog = true := by kernel_rfl

set_option maxRecDepth 100000 in
theorem lifted (os : Os) (started : os.Started) (H : Type) (enc : TypeId × Value → H) :
    ReturnsInHanded {} Try.checked os 5 .any (Rows.spanSetsSpec.pre6 enc Try.prog Try.f5 Rows.spanSetsRow.domain false) (Rows.spanSetsSpec.post enc Try.prog Try.f5 false true false false) := by
  refine returnsInHanded_of_change_sized (C := Try.checked) own started (by kernel_rfl) Try.func5
    (ChangeSpec.witness6 (enc := enc) (C := Try.checked) false ⟨#[], #[.slice none 0 0, .slice none 0 0], []⟩ 8 (by kernel_rfl) (by kernel_rfl) (by kernel_rfl) (by kernel_rfl)) ?_
  intro W base args ds gs before hval0 hW hcnd hsz0 _
  have hval : ∀ (j : Nat) t v, Try.f5.params[j]? = some t → args[j]? = some v → Value.okWide Try.prog W .any base t v := hval0
  have hW' := hW
  obtain ⟨p, q, hA0, hV, rfl, hfz, hnd⟩ := hW
  have hA : DataW.TrodAll enc Try.prog W 0 (fun _ => true) true Try.f5.params.toList args.toList ds p := hA0
  rw [Try.params5] at hA hval
  obtain ⟨v0, vs0, d0, ds0, p0, q0, hargs, rfl, rfl, h0, r0⟩ := trodAll_cons hA
  obtain ⟨v1, vs1, d1, ds1, p1, q1, rfl, rfl, rfl, h1, r1⟩ := trodAll_cons r0
  obtain ⟨rfl, rfl, rfl⟩ := trodAll_nil r1
  obtain rfl : args = #[v0, v1] := by cases args; simp_all
  obtain ⟨rfl, rfl⟩ := trodVars_none hV
  have k0 := h0
  have k1 := h1
  have lt0 : ∀ x ∈ p0, x.block < W.heap.size := by obtain ⟨m, hm⟩ := k0; exact DataW.trod_lt m _ _ _ hm
  have lt1 : ∀ x ∈ p1, x.block < W.heap.size := by obtain ⟨m, hm⟩ := k1; exact DataW.trod_lt m _ _ _ hm
  obtain ⟨A0, c0, l0, rfl, hC0, hc0, hb0⟩ := spans_of (hval 0 28 v0 rfl rfl) h0
  obtain ⟨A1, c1, l1, rfl, hC1, hc1, hb1⟩ := spans_of (hval 1 28 v1 rfl rfl) h1
  clear hA0 hval0 hsz0
  obtain ⟨k, ht⟩ := true_ l0 l1
  refine (sawmilllaw03_SpanSets.calls k A0 c0 l0 A1 c1 l1 true W hC0 hc0 hC1 hc1 ht).mono fun e W' ⟨he, bel⟩ => ?_
  subst he
  exact ⟨_, rfl, _, _, _, [], _, [], hW', trodAll_mk1 (shut_bool Try.underlying4 _), (trodAll_cons_mk (Below.trod laidOut (by kernel_rfl) (of_decide_eq_true (by kernel_rfl)) k0 bel lt0) (trodAll_cons_mk (Below.trod laidOut (by kernel_rfl) (of_decide_eq_true (by kernel_rfl)) k1 bel lt1) trodAll_mk0)), rfl, bel.frame _, fun h => by cases h⟩

theorem over : Rows.spanSetsRow.holds Try.pinned (OpenSpec.ofChange Rows.spanSetsSpec) :=
  OpenClaim.holds_of_wide 5 Try.f5 rfl rfl rfl rfl rfl rfl rfl ⟨rfl, rfl, rfl, rfl, rfl⟩ rfl rfl rfl rfl rfl (by kernel_rfl) Try.func5 (by kernel_rfl)
    (of_decide_eq_true (by kernel_rfl)) (by unfold Func.isWrapper; first | (rw [if_pos (by decide +kernel)]; kernel_rfl) | (rw [if_neg (by decide +kernel)]; exact ⟨rfl, rfl⟩))
    (fun os started H enc _ => lifted os started H enc)

theorem proved : Rows.SpanSetsSaid := over
#print axioms proved
end
end Go.Proofs.Ytioglhaofcmebaa.spanSets
