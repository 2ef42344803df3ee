/- SpanMinus: sets of intervals obey the laws of sets. -/
import Derived.Test.YtioglhaofcmebaaPxLMinus
import Derived.Test.YtioglhaofcmebaaRows
import Derived.Test.YtioglhaofcmebaaArg
import Derived.Test.YtioglhaofcmebaaMathM
import Derived.ProofKit
import Derived.OpenShut
import Derived.ShutString
import Derived.ChangeOld
import Derived.SizedLaws
import Derived.Lib.SmallJoins
namespace Go.Proofs.Ytioglhaofcmebaa.spanMinus
open Go.RowKit P
set_option linter.unusedVariables false
set_option linter.unusedSimpArgs false

theorem canon_f (l : List S23) (h : l.length ≤ 1000000) : Ext.span_Canon.f l = some (canonL l) := by
  unfold Ext.span_Canon.f
  rw [if_pos h]
theorem awake_f : Ext.sawmilllaw03_awake.f = some true := rfl

theorem same_of {k : Nat} {x y : List S23} (hx : Can x) (hy : Can y) (h : ∀ n, mem x n ↔ mem y n) (hk : x.length < k) (hm : x.length ≤ 1000000) : sawmillref03_Same.f k x y = some true := by
  rw [← can_unique x y hx hy h]
  exact Same_refl k x hk hm
theorem un (a b : List S23) (h : a.length + b.length ≤ 400000) : ∃ z, Ext.span_Union.f a b = some z ∧ Can z ∧ (∀ n, mem z n ↔ mem a n ∨ mem b n) ∧ z.length ≤ a.length + b.length := by
  obtain ⟨u1, u2, u3⟩ := canonL_can (a ++ b)
  rw [List.length_append] at u3
  exact ⟨_, Union_eq a b (by omega) (by omega), u1, fun n => by rw [u2, mem_append], u3⟩

theorem t3 (a b c : List S23) (ha : a.length ≤ 20) (hb : b.length ≤ 20) (hc : c.length ≤ 20) (k : Nat) (hk : 2000000 < k) : sawmilllaw03_SpanMinus.j3 (k + 1) a b c false = some true := by
  simp only [sawmilllaw03_SpanMinus.j3, Bool.false_eq_true, if_false]
  obtain ⟨u, eu, ku, mu, lu⟩ := un b c (by omega)
  rw [eu]
  simp only [Option.bind_some]
  obtain ⟨x, ex, kx, mx, lx⟩ := Minus_eq k a u (by omega) (by omega) hk
  have qx : a.length * (u.length + 1) ≤ 20 * 900 := Nat.mul_le_mul (by omega) (by omega)
  rw [ex]
  simp only [Option.bind_some]
  obtain ⟨y, ey, ky, my, ly⟩ := Minus_eq k a b (by omega) (by omega) hk
  have qy : a.length * (b.length + 1) ≤ 20 * 21 := Nat.mul_le_mul (by omega) (by omega)
  rw [ey]
  simp only [Option.bind_some]
  obtain ⟨z, ez, kz, mz, lz⟩ := Minus_eq k a c (by omega) (by omega) hk
  have qz : a.length * (c.length + 1) ≤ 20 * 21 := Nat.mul_le_mul (by omega) (by omega)
  rw [ez]
  simp only [Option.bind_some]
  obtain ⟨v, ev, kv, mv, lv⟩ := Common_eq k y z (by omega) (by omega) hk
  rw [ev]
  simp only [Option.bind_some]
  have sx := same_of (k := k) kx kv (fun n => by rw [mx, mu, mv, my, mz]; by_cases ha : mem a n <;> by_cases hb : mem b n <;> by_cases hc : mem c n <;> simp [ha, hb, hc]) (by omega) (by omega)
  rw [sx]
  simp only [Option.bind_some, if_true, Bool.not_true]
  obtain ⟨r, er, kr, mr, lr⟩ := Minus_eq k a y (by omega) (by omega) hk
  have qr : a.length * (y.length + 1) ≤ 20 * 900 := Nat.mul_le_mul (by omega) (by omega)
  rw [er]
  simp only [Option.bind_some]
  obtain ⟨t, et, kt, mt, lt⟩ := Common_eq k a b (by omega) (by omega) hk
  rw [et]
  simp only [Option.bind_some]
  have sr := same_of (k := k) kr kt (fun n => by rw [mr, my, mt]; by_cases ha : mem a n <;> by_cases hb : mem b n <;> by_cases hc : mem c n <;> simp [ha, hb, hc]) (by omega) (by omega)
  rw [sr]
  simp only [Option.bind_some, if_true, Bool.not_true]
  rfl
theorem t2 (a b c : List S23) (ha : a.length ≤ 20) (hb : b.length ≤ 20) (hc : c.length ≤ 20) (k : Nat) (hk : 2000000 < k) : sawmilllaw03_SpanMinus.j2 (k + 1 + 1) a b c false = some true := by
  simp only [sawmilllaw03_SpanMinus.j2, Bool.false_eq_true, if_false]
  obtain ⟨u, eu, ku, mu, lu⟩ := un b c (by omega)
  rw [eu]
  simp only [Option.bind_some]
  obtain ⟨x, ex, kx, mx, lx⟩ := Common_eq (k + 1) a u (by omega) (by omega) (by omega)
  rw [ex]
  simp only [Option.bind_some]
  obtain ⟨y, ey, ky, my, ly⟩ := Common_eq (k + 1) a b (by omega) (by omega) (by omega)
  rw [ey]
  simp only [Option.bind_some]
  obtain ⟨z, ez, kz, mz, lz⟩ := Common_eq (k + 1) a c (by omega) (by omega) (by omega)
  rw [ez]
  simp only [Option.bind_some]
  obtain ⟨v, ev, kv, mv, lv⟩ := un y z (by omega)
  rw [ev]
  simp only [Option.bind_some]
  have sx := same_of (k := k + 1) kx kv (fun n => by rw [mx, mu, mv, my, mz]; by_cases ha : mem a n <;> by_cases hb : mem b n <;> by_cases hc : mem c n <;> simp [ha, hb, hc]) (by omega) (by omega)
  rw [sx]
  simp only [Option.bind_some, if_true, Bool.not_true]
  obtain ⟨p, ep, kp, mp, lp⟩ := Common_eq (k + 1) b c (by omega) (by omega) (by omega)
  rw [ep]
  simp only [Option.bind_some]
  obtain ⟨q, eq, kq, mq, lq⟩ := un a p (by omega)
  rw [eq]
  simp only [Option.bind_some]
  obtain ⟨r, er, kr, mr, lr⟩ := un a b (by omega)
  rw [er]
  simp only [Option.bind_some]
  obtain ⟨s, es, ks, ms, ls⟩ := un a c (by omega)
  rw [es]
  simp only [Option.bind_some]
  obtain ⟨t, et, kt, mt, lt⟩ := Common_eq (k + 1) r s (by omega) (by omega) (by omega)
  rw [et]
  simp only [Option.bind_some]
  have sq := same_of (k := k + 1) kq kt (fun n => by rw [mq, mp, mt, mr, ms]; by_cases ha : mem a n <;> by_cases hb : mem b n <;> by_cases hc : mem c n <;> simp [ha, hb, hc]) (by omega) (by omega)
  rw [sq]
  simp only [Option.bind_some, if_true, Bool.not_true]
  exact t3 a b c ha hb hc k hk
theorem t1 (a b c : List S23) (ha : a.length ≤ 20) (hb : b.length ≤ 20) (hc : c.length ≤ 20) (k : Nat) (hk : 2000000 < k) : sawmilllaw03_SpanMinus.j1 (k + 1 + 1 + 1) a b c false = some true := by
  simp only [sawmilllaw03_SpanMinus.j1, Bool.false_eq_true, if_false]
  obtain ⟨u, eu, ku, mu, lu⟩ := un a b (by omega)
  rw [eu]
  simp only [Option.bind_some]
  obtain ⟨x, ex, kx, mx, lx⟩ := un u c (by omega)
  rw [ex]
  simp only [Option.bind_some]
  obtain ⟨v, ev, kv, mv, lv⟩ := un b c (by omega)
  rw [ev]
  simp only [Option.bind_some]
  obtain ⟨y, ey, ky, my, ly⟩ := un a v (by omega)
  rw [ey]
  simp only [Option.bind_some]
  have sx := same_of (k := k + 1 + 1) kx ky (fun n => by rw [mx, mu, my, mv]; by_cases ha : mem a n <;> by_cases hb : mem b n <;> by_cases hc : mem c n <;> simp [ha, hb, hc]) (by omega) (by omega)
  rw [sx]
  simp only [Option.bind_some, if_true, Bool.not_true]
  obtain ⟨p, ep, kp, mp, lp⟩ := Common_eq (k + 1 + 1) a b (by omega) (by omega) (by omega)
  rw [ep]
  simp only [Option.bind_some]
  obtain ⟨q, eq, kq, mq, lq⟩ := Common_eq (k + 1 + 1) p c (by omega) (by omega) (by omega)
  rw [eq]
  simp only [Option.bind_some]
  obtain ⟨r, er, kr, mr, lr⟩ := Common_eq (k + 1 + 1) b c (by omega) (by omega) (by omega)
  rw [er]
  simp only [Option.bind_some]
  obtain ⟨s, es, ks, ms, ls⟩ := Common_eq (k + 1 + 1) a r (by omega) (by omega) (by omega)
  rw [es]
  simp only [Option.bind_some]
  have sq := same_of (k := k + 1 + 1) kq ks (fun n => by rw [mq, mp, ms, mr]; by_cases ha : mem a n <;> by_cases hb : mem b n <;> by_cases hc : mem c n <;> simp [ha, hb, hc]) (by omega) (by omega)
  rw [sq]
  simp only [Option.bind_some, if_true, Bool.not_true]
  exact t2 a b c ha hb hc k hk
theorem t0 (a b c : List S23) (ha : a.length ≤ 20) (hb : b.length ≤ 20) (hc : c.length ≤ 20) (k : Nat) (hk : 2000000 < k) : sawmilllaw03_SpanMinus.j0 (k + 1 + 1 + 1 + 1) a b c false = some true := by
  simp only [sawmilllaw03_SpanMinus.j0, Bool.false_eq_true, if_false]
  obtain ⟨u, eu, ku, mu, lu⟩ := un a b (by omega)
  rw [eu]
  simp only [Option.bind_some]
  obtain ⟨v, ev, kv, mv, lv⟩ := un b a (by omega)
  rw [ev]
  simp only [Option.bind_some]
  have su := same_of (k := k + 1 + 1 + 1) ku kv (fun n => by rw [mu, mv]; by_cases ha : mem a n <;> by_cases hb : mem b n <;> by_cases hc : mem c n <;> simp [ha, hb, hc]) (by omega) (by omega)
  rw [su]
  simp only [Option.bind_some, if_true, Bool.not_true]
  obtain ⟨x, ex, kx, mx, lx⟩ := Common_eq (k + 1 + 1 + 1) a b (by omega) (by omega) (by omega)
  rw [ex]
  simp only [Option.bind_some]
  obtain ⟨y, ey, ky, my, ly⟩ := Common_eq (k + 1 + 1 + 1) b a (by omega) (by omega) (by omega)
  rw [ey]
  simp only [Option.bind_some]
  have sx := same_of (k := k + 1 + 1 + 1) kx ky (fun n => by rw [mx, my]; by_cases ha : mem a n <;> by_cases hb : mem b n <;> by_cases hc : mem c n <;> simp [ha, hb, hc]) (by omega) (by omega)
  rw [sx]
  simp only [Option.bind_some, if_true, Bool.not_true]
  exact t1 a b c ha hb hc k hk
theorem true_ (a b c : List S23) : ∃ k, sawmilllaw03_SpanMinus.f k a b c = some true := by
  refine ⟨2000005 + 1 + 1 + 1 + 1, ?_⟩
  generalize hk : 2000005 = k
  have hk0 : 2000000 < k := by omega
  clear hk
  have no : sawmilllaw03_SpanMinus.j0 (k + 1 + 1 + 1 + 1) a b c true = some true := by
    simp only [sawmilllaw03_SpanMinus.j0, if_true, awake_f, Option.bind_some]
  unfold sawmilllaw03_SpanMinus.f
  by_cases h1 : (a.length : Int) > 20
  · rw [if_pos h1]; exact no
  rw [if_neg h1]
  by_cases h2 : (b.length : Int) > 20
  · rw [if_pos h2]; exact no
  rw [if_neg h2]
  by_cases h3 : (c.length : Int) > 20
  · rw [decide_eq_true h3]; exact no
  rw [decide_eq_false h3]
  exact t0 a b c (by omega) (by omega) (by omega) k hk0

section
open Go.ChangeShapes Go.WideShapes Go.ChangeAt Go.RowKit Go.Joins
theorem own : ownKnob Try.prog.godebug = none := by kernel_rfl
theorem laidOut : laidOutB Try.prog = true := by kernel_rfl

set_option maxRecDepth 100000 in
theorem lifted (os : Os) (started : os.Started) (H : Type) (enc : TypeId × Value → H) :
    ReturnsInHanded {} Try.checked os 8 .any (Rows.spanMinusSpec.pre6 enc Try.prog Try.f8 Rows.spanMinusRow.domain false) (Rows.spanMinusSpec.post enc Try.prog Try.f8 false true false false) := by
  refine returnsInHanded_of_change_sized (C := Try.checked) own started (by kernel_rfl) Try.func8
    (ChangeSpec.witness6 (enc := enc) (C := Try.checked) false ⟨#[], #[.slice none 0 0, .slice none 0 0, .slice none 0 0], []⟩ 8 (by kernel_rfl) (by kernel_rfl) (by kernel_rfl) (by kernel_rfl)) ?_
  intro W base args ds gs before hval0 hW hcnd hsz0 _
  have hval : ∀ (j : Nat) t v, Try.f8.params[j]? = some t → args[j]? = some v → Value.okWide Try.prog W .any base t v := hval0
  have hW' := hW
  obtain ⟨p, q, hA0, hV, rfl, hfz, hnd⟩ := hW
  have hA : DataW.TrodAll enc Try.prog W 0 (fun _ => true) true Try.f8.params.toList args.toList ds p := hA0
  rw [Try.params8] at hA hval
  obtain ⟨v0, vs0, d0, ds0, p0, q0, hargs, rfl, rfl, h0, r0⟩ := trodAll_cons hA
  obtain ⟨v1, vs1, d1, ds1, p1, q1, rfl, rfl, rfl, h1, r1⟩ := trodAll_cons r0
  obtain ⟨v2, vs2, d2, ds2, p2, q2, rfl, rfl, rfl, h2, r2⟩ := trodAll_cons r1
  obtain ⟨rfl, rfl, rfl⟩ := trodAll_nil r2
  obtain rfl : args = #[v0, v1, v2] := by cases args; simp_all
  obtain ⟨rfl, rfl⟩ := trodVars_none hV
  have k0 := h0
  have k1 := h1
  have k2 := h2
  have lt0 : ∀ x ∈ p0, x.block < W.heap.size := by obtain ⟨m, hm⟩ := k0; exact DataW.trod_lt m _ _ _ hm
  have lt1 : ∀ x ∈ p1, x.block < W.heap.size := by obtain ⟨m, hm⟩ := k1; exact DataW.trod_lt m _ _ _ hm
  have lt2 : ∀ x ∈ p2, x.block < W.heap.size := by obtain ⟨m, hm⟩ := k2; exact DataW.trod_lt m _ _ _ hm
  obtain ⟨A0, c0, l0, rfl, hC0, hc0, hb0⟩ := spans_of (hval 0 28 v0 rfl rfl) h0
  obtain ⟨A1, c1, l1, rfl, hC1, hc1, hb1⟩ := spans_of (hval 1 28 v1 rfl rfl) h1
  obtain ⟨A2, c2, l2, rfl, hC2, hc2, hb2⟩ := spans_of (hval 2 28 v2 rfl rfl) h2
  clear hA0 hval0 hsz0
  obtain ⟨k, ht⟩ := true_ l0 l1 l2
  refine (sawmilllaw03_SpanMinus.calls k A0 c0 l0 A1 c1 l1 A2 c2 l2 true W hC0 hc0 hC1 hc1 hC2 hc2 ht).mono fun e W' ⟨he, bel⟩ => ?_
  subst he
  exact ⟨_, rfl, _, _, _, [], _, [], hW', trodAll_mk1 (shut_bool Try.underlying4 _), (trodAll_cons_mk (Below.trod laidOut (by kernel_rfl) (of_decide_eq_true (by kernel_rfl)) k0 bel lt0) (trodAll_cons_mk (Below.trod laidOut (by kernel_rfl) (of_decide_eq_true (by kernel_rfl)) k1 bel lt1) (trodAll_cons_mk (Below.trod laidOut (by kernel_rfl) (of_decide_eq_true (by kernel_rfl)) k2 bel lt2) trodAll_mk0))), rfl, bel.frame _, fun h => by cases h⟩

theorem over : Rows.spanMinusRow.holds Try.pinned (OpenSpec.ofChange Rows.spanMinusSpec) :=
  OpenClaim.holds_of_wide 8 Try.f8 rfl rfl rfl rfl rfl rfl rfl ⟨rfl, rfl, rfl, rfl, rfl⟩ rfl rfl rfl rfl rfl (by kernel_rfl) Try.func8 (by kernel_rfl)
    (of_decide_eq_true (by kernel_rfl)) (by unfold Func.isWrapper; first | (rw [if_pos (by decide +kernel)]; kernel_rfl) | (rw [if_neg (by decide +kernel)]; exact ⟨rfl, rfl⟩))
    (fun os started H enc _ => lifted os started H enc)

theorem proved : Rows.SpanMinusSaid := over
#print axioms proved
end
end Go.Proofs.Ytioglhaofcmebaa.spanMinus
