/- SpanMeasure: the numbers of integers of sets add up. -/
import Derived.Test.YtioglhaofcmebaaPxLMeasure
import Derived.Test.YtioglhaofcmebaaRows
import Derived.Test.YtioglhaofcmebaaArg
import Derived.Test.YtioglhaofcmebaaMathM
import Derived.Test.YtioglhaofcmebaaMathQ
import Derived.ProofKit
import Derived.OpenShut
import Derived.ShutString
import Derived.ChangeOld
import Derived.SizedLaws
import Derived.Lib.SmallJoins
namespace Go.Proofs.Ytioglhaofcmebaa.spanMeasure
open Go.RowKit P
set_option linter.unusedVariables false
set_option linter.unusedSimpArgs false

theorem canon_f (l : List S23) (h : l.length ≤ 1000000) : Ext.span_Canon.f l = some (canonL l) := by
  unfold Ext.span_Canon.f
  rw [if_pos h]
theorem awake_f : Ext.sawmilllaw03_awake.f = some true := rfl

theorem yes (a b : List S23) (ha : a.length ≤ 40) (hb : b.length ≤ 40) (k : Nat) (hk : 2000000 < k) (sa : ∀ x, mem a x → -1152921504606846976 ≤ x ∧ x < 1152921504606846976) (sb : ∀ x, mem b x → -1152921504606846976 ≤ x ∧ x < 1152921504606846976) :
    sawmilllaw03_SpanMeasure.j0 (k + 1) a b false = some true := by
  obtain ⟨n, hn⟩ : ∃ n : Nat, (n : Int) = 2305843009213693952 := ⟨2305843009213693952, rfl⟩
  obtain ⟨u1, u2, u3⟩ := canonL_can (a ++ b)
  rw [List.length_append] at u3
  obtain ⟨c, c1, c2, c3, c4⟩ := Common_eq k a b (by omega) (by omega) hk
  obtain ⟨m, m1, m2, m3, m4⟩ := Minus_eq k a b (by omega) (by omega) hk
  have hm : a.length * (b.length + 1) ≤ 40 * 41 := Nat.mul_le_mul (by omega) (by omega)
  have tc := Total_count k c (by omega) (by omega) n hn (fun x hx => sa x ((c3 x).1 hx).1)
  have tu := Total_count k (canonL (a ++ b)) (by omega) (by omega) n hn (fun x hx => by
    rcases (mem_append a b x).1 ((u2 x).1 hx) with h | h
    · exact sa x h
    · exact sb x h)
  have ta := Total_count k a (by omega) (by omega) n hn sa
  have tb := Total_count k b (by omega) (by omega) n hn sb
  have tm := Total_count k m (by omega) (by omega) n hn (fun x hx => sa x ((m3 x).1 hx).1)
  have e1 : count (fun x => (canonL (a ++ b)).any (pH x)) (-1152921504606846976) n = count (fun x => a.any (pH x) || b.any (pH x)) (-1152921504606846976) n :=
    count_congr _ (fun x => by rw [Bool.eq_iff_iff, any_mem, u2, mem_append, Bool.or_eq_true, any_mem, any_mem]) n
  have e2 : count (fun x => c.any (pH x)) (-1152921504606846976) n = count (fun x => a.any (pH x) && b.any (pH x)) (-1152921504606846976) n :=
    count_congr _ (fun x => by rw [Bool.eq_iff_iff, any_mem, c3, Bool.and_eq_true, any_mem, any_mem]) n
  have e3 : count (fun x => m.any (pH x)) (-1152921504606846976) n = count (fun x => a.any (pH x) && !b.any (pH x)) (-1152921504606846976) n :=
    count_congr _ (fun x => by rw [Bool.eq_iff_iff, any_mem, m3, Bool.and_eq_true, any_mem, Bool.not_eq_true', ← Bool.not_eq_true, any_mem]) n
  have s1 : count (fun x => a.any (pH x) || b.any (pH x)) (-1152921504606846976) n + count (fun x => a.any (pH x) && b.any (pH x)) (-1152921504606846976) n = count (fun x => a.any (pH x)) (-1152921504606846976) n + count (fun x => b.any (pH x)) (-1152921504606846976) n := count_or (fun x => a.any (pH x)) (fun x => b.any (pH x)) _ n
  have s2 : count (fun x => a.any (pH x) && !b.any (pH x)) (-1152921504606846976) n = count (fun x => a.any (pH x)) (-1152921504606846976) n - count (fun x => a.any (pH x) && b.any (pH x)) (-1152921504606846976) n := count_diff (fun x => a.any (pH x)) (fun x => b.any (pH x)) _ n
  rw [e2] at tc
  rw [e1] at tu
  rw [e3] at tm
  have b1 := count_bound (fun x => a.any (pH x) || b.any (pH x)) (-1152921504606846976) n
  have b2 := count_bound (fun x => a.any (pH x) && b.any (pH x)) (-1152921504606846976) n
  have b3 := count_bound (fun x => a.any (pH x)) (-1152921504606846976) n
  have b4 := count_bound (fun x => b.any (pH x)) (-1152921504606846976) n
  generalize count (fun x => a.any (pH x) || b.any (pH x)) (-1152921504606846976) n = U at *
  generalize count (fun x => a.any (pH x) && b.any (pH x)) (-1152921504606846976) n = C at *
  generalize count (fun x => a.any (pH x) && !b.any (pH x)) (-1152921504606846976) n = M at *
  generalize count (fun x => a.any (pH x)) (-1152921504606846976) n = A at *
  generalize count (fun x => b.any (pH x)) (-1152921504606846976) n = B at *
  simp only [sawmilllaw03_SpanMeasure.j0, Bool.false_eq_true, if_false, c1, m1, Union_eq a b (by omega) (by omega), tc, tu, ta, tb, tm, Option.bind_some, awake_f]
  rw [if_pos (by rw [s1]), if_pos (by unfold wrap64; omega)]
theorem true_ (a b : List S23) : ∃ k, sawmilllaw03_SpanMeasure.f k a b = some true := by
  refine ⟨2000005 + 1, ?_⟩
  generalize hk : 2000005 = k
  have hk0 : 2000000 < k := by omega
  clear hk
  have no : sawmilllaw03_SpanMeasure.j0 (k + 1) a b true = some true := by
    simp only [sawmilllaw03_SpanMeasure.j0, if_true, awake_f, Option.bind_some]
  unfold sawmilllaw03_SpanMeasure.f sawmilllaw03_few.f
  simp only [Option.bind_some, decide_eq_true_eq]
  by_cases h1 : (a.length : Int) ≤ 40
  case neg => rw [if_neg h1]; exact no
  rw [if_pos h1]
  by_cases h2 : (b.length : Int) ≤ 40
  case neg => rw [if_neg h2]; exact no
  rw [if_pos h2]
  obtain ⟨x, x1, x2⟩ := small_eq (k + 1) a (by omega) (by omega)
  obtain ⟨y, y1, y2⟩ := small_eq (k + 1) b (by omega) (by omega)
  rw [x1, y1]
  simp only [Option.bind_some]
  cases x with
  | false => rw [if_neg (by simp)]; exact no
  | true =>
    rw [if_pos rfl]
    cases y with
    | false => exact no
    | true => exact yes a b (by omega) (by omega) k hk0 (x2 rfl) (y2 rfl)

section
open Go.ChangeShapes Go.WideShapes Go.ChangeAt Go.RowKit Go.Joins
theorem own : ownKnob Try.prog.godebug = none := by kernel_rfl
theorem laidOut : laidOutB Try.prog = true := by kernel_rfl

set_option maxRecDepth 100000 in
theorem lifted (os : Os) (started : os.Started) (H : Type) (enc : TypeId × Value → H) :
    ReturnsInHanded {} Try.checked os 9 .any (Rows.spanMeasureSpec.pre6 enc Try.prog Try.f9 Rows.spanMeasureRow.domain false) (Rows.spanMeasureSpec.post enc Try.prog Try.f9 false true false false) := by
  refine returnsInHanded_of_change_sized (C := Try.checked) own started (by kernel_rfl) Try.func9
    (ChangeSpec.witness6 (enc := enc) (C := Try.checked) false ⟨#[], #[.slice none 0 0, .slice none 0 0], []⟩ 8 (by kernel_rfl) (by kernel_rfl) (by kernel_rfl) (by kernel_rfl)) ?_
  intro W base args ds gs before hval0 hW hcnd hsz0 _
  have hval : ∀ (j : Nat) t v, Try.f9.params[j]? = some t → args[j]? = some v → Value.okWide Try.prog W .any base t v := hval0
  have hW' := hW
  obtain ⟨p, q, hA0, hV, rfl, hfz, hnd⟩ := hW
  have hA : DataW.TrodAll enc Try.prog W 0 (fun _ => true) true Try.f9.params.toList args.toList ds p := hA0
  rw [Try.params9] at hA hval
  obtain ⟨v0, vs0, d0, ds0, p0, q0, hargs, rfl, rfl, h0, r0⟩ := trodAll_cons hA
  obtain ⟨v1, vs1, d1, ds1, p1, q1, rfl, rfl, rfl, h1, r1⟩ := trodAll_cons r0
  obtain ⟨rfl, rfl, rfl⟩ := trodAll_nil r1
  obtain rfl : args = #[v0, v1] := by cases args; simp_all
  obtain ⟨rfl, rfl⟩ := trodVars_none hV
  have k0 := h0
  have k1 := h1
  have lt0 : ∀ x ∈ p0, x.block < W.heap.size := by obtain ⟨m, hm⟩ := k0; exact DataW.trod_lt m _ _ _ hm
  have lt1 : ∀ x ∈ p1, x.block < W.heap.size := by obtain ⟨m, hm⟩ := k1; exact DataW.trod_lt m _ _ _ hm
  obtain ⟨A0, c0, l0, rfl, hC0, hc0, hb0⟩ := spans_of (hval 0 28 v0 rfl rfl) h0
  obtain ⟨A1, c1, l1, rfl, hC1, hc1, hb1⟩ := spans_of (hval 1 28 v1 rfl rfl) h1
  clear hA0 hval0 hsz0
  obtain ⟨k, ht⟩ := true_ l0 l1
  refine (sawmilllaw03_SpanMeasure.calls k A0 c0 l0 A1 c1 l1 true W hC0 hc0 hC1 hc1 ht).mono fun e W' ⟨he, bel⟩ => ?_
  subst he
  exact ⟨_, rfl, _, _, _, [], _, [], hW', trodAll_mk1 (shut_bool Try.underlying4 _), (trodAll_cons_mk (Below.trod laidOut (by kernel_rfl) (of_decide_eq_true (by kernel_rfl)) k0 bel lt0) (trodAll_cons_mk (Below.trod laidOut (by kernel_rfl) (of_decide_eq_true (by kernel_rfl)) k1 bel lt1) trodAll_mk0)), rfl, bel.frame _, fun h => by cases h⟩

theorem over : Rows.spanMeasureRow.holds Try.pinned (OpenSpec.ofChange Rows.spanMeasureSpec) :=
  OpenClaim.holds_of_wide 9 Try.f9 rfl rfl rfl rfl rfl rfl rfl ⟨rfl, rfl, rfl, rfl, rfl⟩ rfl rfl rfl rfl rfl (by kernel_rfl) Try.func9 (by kernel_rfl)
    (of_decide_eq_true (by kernel_rfl)) (by unfold Func.isWrapper; first | (rw [if_pos (by decide +kernel)]; kernel_rfl) | (rw [if_neg (by decide +kernel)]; exact ⟨rfl, rfl⟩))
    (fun os started H enc _ => lifted os started H enc)

theorem proved : Rows.SpanMeasureSaid := over
#print axioms proved
end
end Go.Proofs.Ytioglhaofcmebaa.spanMeasure
