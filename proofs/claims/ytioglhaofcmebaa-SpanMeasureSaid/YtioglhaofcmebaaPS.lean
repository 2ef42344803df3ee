-- written by wip/pp.py of this session (by the kit's printing program, run once over all laws of the seat), parted by wip/resplit.py
import Derived.Test.YtioglhaofcmebaaPx0
import Derived.Test.YtioglhaofcmebaaPx1
namespace Go.Proofs.Ytioglhaofcmebaa.P
open Go.RowKit Go.Proofs.YtioglhaofcmebaaW.PrintWords Go.Proofs.YtioglhaofcmebaaW.PrintLast Go.Proofs.YtioglhaofcmebaaW.PrintMore
attribute [local go_sem] max2_int min2_int max_two min_two max_three min_three max_four min_four   -- for this text's walks alone
set_option linter.unusedVariables false
set_option linter.unusedSimpArgs false

/-! ### sawmilllaw03_small: function 34 -/
def sawmilllaw03_small.l0 : Nat → List (S23) → Int → Option (Bool)
  | 0, _, _ => none
  | k + 1, x0, x3 => if x3 < (x0.length : Int) then (if 0 ≤ x3 then (if ((rd_T23 x0 x3).f0) < (-1152921504606846976) then (some false) else (if ((rd_T23 x0 x3).f0) > 1152921504606846976 then (some false) else (if ((rd_T23 x0 x3).f1) < (-1152921504606846976) then (some false) else (if ((rd_T23 x0 x3).f1) > 1152921504606846976 then (some false) else (sawmilllaw03_small.l0 k x0 (wrap64 (x3 + 1))))))) else (none)) else (some true)
def sawmilllaw03_small.f (k : Nat) (l0 : List (S23)) : Option (Bool) := sawmilllaw03_small.l0 k l0 0
theorem sawmilllaw03_small.mono_l : ∀ k, (∀ y0 y1, LeO (sawmilllaw03_small.l0 k y0 y1) (sawmilllaw03_small.l0 (k + 1) y0 y1))
  | 0 => fun _ _ r h => by simp [sawmilllaw03_small.l0] at h
  | k + 1 => by
    have ih0 := sawmilllaw03_small.mono_l k
    · intro y0 y1
      unfold sawmilllaw03_small.l0
      repeat' first
      | (with_reducible exact ih0 _ _)
      | (with_reducible exact LeO.refl _)
      | (with_reducible exact LeO.none _)
      | (with_reducible refine LeO.ite ?_ ?_)
      | (with_reducible refine LeO.bind ?_ (fun _ => ?_))
      | exact ih0 _ _
      | exact LeO.none _
      | refine LeO.ite ?_ ?_
      | refine LeO.bind ?_ (fun _ => ?_)
theorem sawmilllaw03_small.mono : ∀ a0 k, LeO (sawmilllaw03_small.f k a0) (sawmilllaw03_small.f (k + 1) a0) := by
  intro a0 k
  have ih0 := sawmilllaw03_small.mono_l k
  unfold sawmilllaw03_small.f
  repeat' first
      | (with_reducible exact ih0 _ _)
      | (with_reducible exact LeO.refl _)
      | (with_reducible exact LeO.none _)
      | (with_reducible refine LeO.ite ?_ ?_)
      | (with_reducible refine LeO.bind ?_ (fun _ => ?_))
      | exact ih0 _ _
      | exact LeO.none _
      | refine LeO.ite ?_ ?_
      | refine LeO.bind ?_ (fun _ => ?_)
set_option maxHeartbeats 8000000 in
set_option maxRecDepth 100000 in
theorem sawmilllaw03_small.calls (k : Nat) (A0 : Option Addr) (c0 : Nat) (l0 : List (S23)) (r : Bool) (w : World) (hr0 : Kd.C k23 w A0 l0.length l0) (hc0 : l0.length ≤ c0) (h : sawmilllaw03_small.f k l0 = some r) :
    Calls Try.prog 34 #[.slice A0 l0.length c0] w fun e w' => e = .returned (.bool r) ∧ Drawn0 w w' := by
  have HR0 := Aside0.mk hr0
  have HC0 := Aside0.mk hc0
  clear hr0 hc0
  have H : (sawmilllaw03_small.l0 k l0 0) = some r := h
  clear h
  have H' := Aside0.mk H
  clear H
  go_enter Try.func34, Try.ntmps34
  go_wp2
  go_loopg [3] k (fun kq v3 w' => ∃ (x3_1 : Int), v3 = .int .i64 x3_1 ∧ Aside0 (sawmilllaw03_small.l0 kq l0 x3_1 = some r) ∧ Aside0 (kq ≤ k) ∧ Drawn0 w w')
  case atStart => exact ⟨(0), (by first | rfl | (simp; done) | (simp [*]; done)), H', ⟨Nat.le_refl _⟩, by repeat (first | exact Drawn0.refl _ | apply Drawn0.step)⟩
  case round =>
    clear H'
    obtain ⟨x3_1, rfl, HA, HK1, ⟨m1, rfl⟩⟩ := hrel
    cases gk with
    | zero => exact absurd HA.out (by simp [sawmilllaw03_small.l0])
    | succ k1 =>
      have H := HA.out
      clear HA
      simp only [sawmilllaw03_small.l0] at H
      by_cases c2 : x3_1 < (l0.length : Int)
      · rw [if_pos c2] at H
        have c2b0 : decide (x3_1 < (l0.length : Int)) = true := decide_eq_true c2
        clear c2
        by_cases c3 : 0 ≤ x3_1
        · rw [if_pos c3] at H
          have c3b0 : decide (0 ≤ x3_1) = true := decide_eq_true c3
          clear c3
          by_cases c4 : ((rd_T23 l0 x3_1).f0) < (-1152921504606846976)
          · rw [if_pos c4] at H
            have c4b0 : decide (((rd_T23 l0 x3_1).f0) < (-1152921504606846976)) = true := decide_eq_true c4
            clear c4
            obtain rfl := Option.some.inj H
            have p450 : 0 ≤ (x3_1 : Int) := of_decide_eq_true (by first | (with_reducible assumption) | assumption)
            have q450 : x3_1 < (l0.length : Int) := of_decide_eq_true (by first | (with_reducible assumption) | assumption)
            obtain ⟨ad450, e450, hx450_0, hx450_1⟩ := at_T23 HR0.out x3_1 p450 q450
            cases e450
            replace p450 := eq_true p450
            replace q450 := eq_true q450
            go_wp2
            go_ret
            exact ⟨by first | rfl | (simp; done) | (simp [*]; done), by repeat (first | exact Drawn0.refl _ | apply Drawn0.step)⟩
          · rw [if_neg c4] at H
            have c4b0 : decide (((rd_T23 l0 x3_1).f0) < (-1152921504606846976)) = false := decide_eq_false c4
            clear c4
            by_cases c5 : ((rd_T23 l0 x3_1).f0) > 1152921504606846976
            · rw [if_pos c5] at H
              have c5b0 : decide (1152921504606846976 < ((rd_T23 l0 x3_1).f0)) = true := decide_eq_true c5
              clear c5
              obtain rfl := Option.some.inj H
              have p450 : 0 ≤ (x3_1 : Int) := of_decide_eq_true (by first | (with_reducible assumption) | assumption)
              have q450 : x3_1 < (l0.length : Int) := of_decide_eq_true (by first | (with_reducible assumption) | assumption)
              obtain ⟨ad450, e450, hx450_0, hx450_1⟩ := at_T23 HR0.out x3_1 p450 q450
              cases e450
              replace p450 := eq_true p450
              replace q450 := eq_true q450
              have p451 : 0 ≤ (x3_1 : Int) := of_decide_eq_true (by first | (with_reducible assumption) | assumption)
              have q451 : x3_1 < (l0.length : Int) := of_decide_eq_true (by first | (with_reducible assumption) | assumption)
              obtain ⟨ad451, e451, hx451_0, hx451_1⟩ := at_T23 HR0.out x3_1 p451 q451
              obtain rfl : ad450 = ad451 := (by injection e451)
              replace p451 := eq_true p451
              replace q451 := eq_true q451
              go_wp2
              go_ret
              exact ⟨by first | rfl | (simp; done) | (simp [*]; done), by repeat (first | exact Drawn0.refl _ | apply Drawn0.step)⟩
            · rw [if_neg c5] at H
              have c5b0 : decide (1152921504606846976 < ((rd_T23 l0 x3_1).f0)) = false := decide_eq_false c5
              clear c5
              by_cases c6 : ((rd_T23 l0 x3_1).f1) < (-1152921504606846976)
              · rw [if_pos c6] at H
                have c6b0 : decide (((rd_T23 l0 x3_1).f1) < (-1152921504606846976)) = true := decide_eq_true c6
                clear c6
                obtain rfl := Option.some.inj H
                have p450 : 0 ≤ (x3_1 : Int) := of_decide_eq_true (by first | (with_reducible assumption) | assumption)
                have q450 : x3_1 < (l0.length : Int) := of_decide_eq_true (by first | (with_reducible assumption) | assumption)
                obtain ⟨ad450, e450, hx450_0, hx450_1⟩ := at_T23 HR0.out x3_1 p450 q450
                cases e450
                replace p450 := eq_true p450
                replace q450 := eq_true q450
                have p451 : 0 ≤ (x3_1 : Int) := of_decide_eq_true (by first | (with_reducible assumption) | assumption)
                have q451 : x3_1 < (l0.length : Int) := of_decide_eq_true (by first | (with_reducible assumption) | assumption)
                obtain ⟨ad451, e451, hx451_0, hx451_1⟩ := at_T23 HR0.out x3_1 p451 q451
                obtain rfl : ad450 = ad451 := (by injection e451)
                replace p451 := eq_true p451
                replace q451 := eq_true q451
                have p452 : 0 ≤ (x3_1 : Int) := of_decide_eq_true (by first | (with_reducible assumption) | assumption)
                have q452 : x3_1 < (l0.length : Int) := of_decide_eq_true (by first | (with_reducible assumption) | assumption)
                obtain ⟨ad452, e452, hx452_0, hx452_1⟩ := at_T23 HR0.out x3_1 p452 q452
                obtain rfl : ad450 = ad452 := (by injection e452)
                replace p452 := eq_true p452
                replace q452 := eq_true q452
                go_wp2
                go_ret
                exact ⟨by first | rfl | (simp; done) | (simp [*]; done), by repeat (first | exact Drawn0.refl _ | apply Drawn0.step)⟩
              · rw [if_neg c6] at H
                have c6b0 : decide (((rd_T23 l0 x3_1).f1) < (-1152921504606846976)) = false := decide_eq_false c6
                clear c6
                by_cases c7 : ((rd_T23 l0 x3_1).f1) > 1152921504606846976
                · rw [if_pos c7] at H
                  have c7b0 : decide (1152921504606846976 < ((rd_T23 l0 x3_1).f1)) = true := decide_eq_true c7
                  clear c7
                  obtain rfl := Option.some.inj H
                  have p450 : 0 ≤ (x3_1 : Int) := of_decide_eq_true (by first | (with_reducible assumption) | assumption)
                  have q450 : x3_1 < (l0.length : Int) := of_decide_eq_true (by first | (with_reducible assumption) | assumption)
                  obtain ⟨ad450, e450, hx450_0, hx450_1⟩ := at_T23 HR0.out x3_1 p450 q450
                  cases e450
                  replace p450 := eq_true p450
                  replace q450 := eq_true q450
                  have p451 : 0 ≤ (x3_1 : Int) := of_decide_eq_true (by first | (with_reducible assumption) | assumption)
                  have q451 : x3_1 < (l0.length : Int) := of_decide_eq_true (by first | (with_reducible assumption) | assumption)
                  obtain ⟨ad451, e451, hx451_0, hx451_1⟩ := at_T23 HR0.out x3_1 p451 q451
                  obtain rfl : ad450 = ad451 := (by injection e451)
                  replace p451 := eq_true p451
                  replace q451 := eq_true q451
                  have p452 : 0 ≤ (x3_1 : Int) := of_decide_eq_true (by first | (with_reducible assumption) | assumption)
                  have q452 : x3_1 < (l0.length : Int) := of_decide_eq_true (by first | (with_reducible assumption) | assumption)
                  obtain ⟨ad452, e452, hx452_0, hx452_1⟩ := at_T23 HR0.out x3_1 p452 q452
                  obtain rfl : ad450 = ad452 := (by injection e452)
                  replace p452 := eq_true p452
                  replace q452 := eq_true q452
                  have p453 : 0 ≤ (x3_1 : Int) := of_decide_eq_true (by first | (with_reducible assumption) | assumption)
                  have q453 : x3_1 < (l0.length : Int) := of_decide_eq_true (by first | (with_reducible assumption) | assumption)
                  obtain ⟨ad453, e453, hx453_0, hx453_1⟩ := at_T23 HR0.out x3_1 p453 q453
                  obtain rfl : ad450 = ad453 := (by injection e453)
                  replace p453 := eq_true p453
                  replace q453 := eq_true q453
                  go_wp2
                  go_ret
                  exact ⟨by first | rfl | (simp; done) | (simp [*]; done), by repeat (first | exact Drawn0.refl _ | apply Drawn0.step)⟩
                · rw [if_neg c7] at H
                  have c7b0 : decide (1152921504606846976 < ((rd_T23 l0 x3_1).f1)) = false := decide_eq_false c7
                  clear c7
                  have H' := Aside0.mk H
                  clear H
                  have p450 : 0 ≤ (x3_1 : Int) := of_decide_eq_true (by first | (with_reducible assumption) | assumption)
                  have q450 : x3_1 < (l0.length : Int) := of_decide_eq_true (by first | (with_reducible assumption) | assumption)
                  obtain ⟨ad450, e450, hx450_0, hx450_1⟩ := at_T23 HR0.out x3_1 p450 q450
                  cases e450
                  replace p450 := eq_true p450
                  replace q450 := eq_true q450
                  have p451 : 0 ≤ (x3_1 : Int) := of_decide_eq_true (by first | (with_reducible assumption) | assumption)
                  have q451 : x3_1 < (l0.length : Int) := of_decide_eq_true (by first | (with_reducible assumption) | assumption)
                  obtain ⟨ad451, e451, hx451_0, hx451_1⟩ := at_T23 HR0.out x3_1 p451 q451
                  obtain rfl : ad450 = ad451 := (by injection e451)
                  replace p451 := eq_true p451
                  replace q451 := eq_true q451
                  have p452 : 0 ≤ (x3_1 : Int) := of_decide_eq_true (by first | (with_reducible assumption) | assumption)
                  have q452 : x3_1 < (l0.length : Int) := of_decide_eq_true (by first | (with_reducible assumption) | assumption)
                  obtain ⟨ad452, e452, hx452_0, hx452_1⟩ := at_T23 HR0.out x3_1 p452 q452
                  obtain rfl : ad450 = ad452 := (by injection e452)
                  replace p452 := eq_true p452
                  replace q452 := eq_true q452
                  have p453 : 0 ≤ (x3_1 : Int) := of_decide_eq_true (by first | (with_reducible assumption) | assumption)
                  have q453 : x3_1 < (l0.length : Int) := of_decide_eq_true (by first | (with_reducible assumption) | assumption)
                  obtain ⟨ad453, e453, hx453_0, hx453_1⟩ := at_T23 HR0.out x3_1 p453 q453
                  obtain rfl : ad450 = ad453 := (by injection e453)
                  replace p453 := eq_true p453
                  replace q453 := eq_true q453
                  go_wp2
                  go_roundg k1
                  case measure => have := HK1.out; omega
                  case rel => exact ⟨(wrap64 (x3_1 + 1)), (by first | rfl | (simp; done) | (simp [*]; done)), H', ⟨by have := HK1.out; omega⟩, by repeat (first | exact Drawn0.refl _ | apply Drawn0.step)⟩
        · rw [if_neg c3] at H
          exact absurd H (by simp)
      · rw [if_neg c2] at H
        have c2b0 : decide (x3_1 < (l0.length : Int)) = false := decide_eq_false c2
        clear c2
        obtain rfl := Option.some.inj H
        go_wp2
        go_ret
        exact ⟨by first | rfl | (simp; done) | (simp [*]; done), by repeat (first | exact Drawn0.refl _ | apply Drawn0.step)⟩

end Go.Proofs.Ytioglhaofcmebaa.P
