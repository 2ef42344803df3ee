/- The chapter's examples: awake returns true, whatever the memory. -/
import Derived.Test.YtcaennbagdipkaaAll
namespace Go.Proofs.Ytcaennbagdipkaa
open Go.RowKit Go.Maps Go.Proofs.YtcaennbagdipkaaW.PrintWords P
set_option linter.unusedSimpArgs false
set_option linter.unusedVariables false

set_option maxRecDepth 100000 in
set_option maxHeartbeats 4000000 in
theorem awake_any (w : World) : Calls Try.prog 10 #[] w fun e w' => e = .returned (.bool true) ∧ Below w.heap.size w w' := by
  go_enter Try.func10, Try.ntmps10
  go_wp2_with fail
  refine (New_any _).mono ?_
  rintro e w1 ⟨rfl, S1, B1⟩
  generalize hm : w.heap.size = m at S1
  have HM := Lib.hid hm
  have HB1 := Lib.hid B1
  clear hm B1
  go_wp2_with fail
  refine (Add_any e1 S1 (k1 _ rfl) (by omega) (by omega)).mono ?_
  rintro e w2 ⟨rfl, S2, T2⟩
  go_wp2_with fail
  refine (Add_any e2 S2 (k1 _ rfl) (by omega) (by omega)).mono ?_
  rintro e w3 ⟨rfl, S3, T3⟩
  have T3 := T2.trans T3
  clear S1 S2 T2
  go_wp2_with fail
  refine (Add_any e3 S3 (k1 _ rfl) (by omega) (by omega)).mono ?_
  rintro e w4 ⟨rfl, S4, T4⟩
  have T4 := T3.trans T4
  clear S3 T3
  go_wp2_with fail
  refine (Res_any e4 S4 (k1 _ rfl) (by simp)).mono ?_
  rintro e w5 ⟨rfl, S5, T5⟩
  have T5 := T4.trans T5
  clear S4 T4
  go_wp2_with fail
  refine (Of_any e5 S5 (k1 _ rfl)).mono ?_
  rintro e w6 ⟨rfl, B6⟩
  have S6 := S5.below B6
  have T6 := T5.of_below B6
  clear S5 T5 B6
  go_wp2_with fail
  refine (Fre_any e6 S6 (by simp)).mono ?_
  rintro e w7 ⟨v7, rfl, R7, B7⟩
  have S7 := S6.below B7
  have T7 := T6.of_below B7
  have M7 := S6.lt
  clear S6 T6 B7
  go_wp2_with fail
  refine (Hel_any e7 S7 (by simp)).mono ?_
  rintro e w8 ⟨v8, rfl, R8, B8⟩
  have S8 := S7.below B8
  have T8 := T7.of_below B8
  have M8 := S7.lt
  have R7' := Kd.R_below R7 B8
  clear S7 T7 B8 R7
  go_wp2_with fail
  refine (Res_any e8 S8 (k1 _ rfl) (by simp)).mono ?_
  rintro e w9 ⟨rfl, S9, T9⟩
  have R9 := R_turn (Kd.R_lower R7' (Nat.le_refl _)) M7 T9
  have R9' := R_turn R8 M8 T9
  have T9 := T8.trans T9
  clear S8 T8 R7' R8
  go_wp2_with fail
  refine (Res_any e9 S9 (k1 _ rfl) (by simp)).mono ?_
  rintro e w10 ⟨rfl, S10, T10⟩
  have R10 := R_turn R9 M7 T10
  have R10' := R_turn R9' M8 T10
  have T10 := T9.trans T10
  clear S9 T9 R9 R9'
  go_wp2_with fail
  refine (Res_any e10 S10 (k1 _ rfl) (by simp)).mono ?_
  rintro e w11 ⟨rfl, S11, T11⟩
  have R11 := R_turn R10 M7 T11
  have R11' := R_turn R10' M8 T11
  have T11 := T10.trans T11
  clear S10 T10 R10 R10'
  go_wp2_with fail
  refine (Rel_any e11 e12 S11 (by simp)).mono ?_
  rintro e w12 ⟨rfl, S12, T12⟩
  have R12 := R_turn R11 M7 T12
  have R12' := R_turn R11' M8 T12
  have T12 := T11.trans T12
  clear S11 T11 R11 R11'
  go_wp2_with fail
  refine (Res_any e13 S12 (k1 _ rfl) (by simp)).mono ?_
  rintro e w13 ⟨rfl, S13, T13⟩
  have R13 := R_turn R12 M7 T13
  have R13' := R_turn R12' M8 T13
  have T13 := T12.trans T13
  clear S12 T12 R12 R12'
  go_wp2_with fail
  refine (Res_any e14 S13 (k1 _ rfl) (by simp)).mono ?_
  rintro e w14 ⟨rfl, S14, T14⟩
  have R14 := R_turn R13 M7 T14
  have R14' := R_turn R13' M8 T14
  have T14 := T13.trans T14
  clear S13 T13 R13 R13'
  go_wp2_with fail
  refine (Rem_any e15 e16 S14 (by simp)).mono ?_
  rintro e w15 ⟨v15, rfl, R15, S15, T15⟩
  have R16 := R_turn R14 M7 T15
  have R16' := R_turn R14' M8 T15
  have M15 := S14.lt
  have T15 := T14.trans T15
  clear S14 T14 R14 R14'
  obtain ⟨A7, c7, rfl, l7, C7⟩ := Kd.R_reads R16
  obtain ⟨A8, c8, rfl, l8, C8⟩ := Kd.R_reads R16'
  obtain ⟨A15, c15, rfl, l15, C15⟩ := Kd.R_reads R15
  go_wp2_with fail
  refine (Same_any (xs := [sa, sc]) (ys := [sa, sc]) (r := true) (by decide +kernel) (Kd.C_below C7 ((Below.refl _ _).alloc (Nat.le_refl _) _)) l7 (lit2 _ _ _) (by simp) (by simp)).mono ?_
  rintro e w16 ⟨rfl, B16⟩
  have B16' := ((Below.refl w15.heap.size w15).alloc (Nat.le_refl _) (.cells #[.string sa, .string sc] 9)).trans (B16.mono (by simp))
  have S16 := S15.below B16'
  have T16 := T15.of_below B16'
  have C8 := Kd.C_below C8 B16'
  have C15 := Kd.C_below C15 B16'
  clear S15 T15 B16 B16' R16 R16' R15 C7
  go_wp2_with fail
  refine (Same_any (xs := [sb]) (ys := [sb]) (r := true) (by decide +kernel) (Kd.C_below C8 ((Below.refl _ _).alloc (Nat.le_refl _) _)) l8 (lit1 _ _) (by simp) (by simp)).mono ?_
  rintro e w17 ⟨rfl, B17⟩
  have B17' := ((Below.refl w16.heap.size w16).alloc (Nat.le_refl _) (.cells #[.string sb] 9)).trans (B17.mono (by simp))
  have S17 := S16.below B17'
  have T17 := T16.of_below B17'
  have C15 := Kd.C_below C15 B17'
  clear S16 T16 B17 B17' C8
  go_wp2_with fail
  refine (Same_any (xs := [sa, sc]) (ys := [sa, sc]) (r := true) (by decide +kernel) (Kd.C_below C15 ((Below.refl _ _).alloc (Nat.le_refl _) _)) l15 (lit2 _ _ _) (by simp) (by simp)).mono ?_
  rintro e w18 ⟨rfl, B18⟩
  have B18' := ((Below.refl w17.heap.size w17).alloc (Nat.le_refl _) (.cells #[.string sa, .string sc] 9)).trans (B18.mono (by simp))
  have S18 := S17.below B18'
  have T18 := T17.of_below B18'
  clear S17 T17 B18 B18' C15
  go_wp2_with fail
  refine (Add_any e17 S18 (k1 _ rfl) (by omega) (by omega)).mono ?_
  rintro e w19 ⟨rfl, S19, T19⟩
  have T19 := T18.trans T19
  clear S18 T18
  go_wp2_with fail
  go_ret
  exact ⟨rfl, T19.below HB1.out (by have := HM.out; omega) HB1.out.size⟩

#print axioms awake_any
end Go.Proofs.Ytcaennbagdipkaa
