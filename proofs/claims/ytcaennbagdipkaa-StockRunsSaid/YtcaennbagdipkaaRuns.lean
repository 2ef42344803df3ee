/- StockRuns: whatever is added, reserved, released and removed, all results are the specified ones. -/
import Derived.Test.YtcaennbagdipkaaLawsR
import Derived.Deep.RegionHeld3
import Derived.Test.YtcaennbagdipkaaRows
import Derived.ProofKit
import Derived.OpenShut
import Derived.ShutString
import Derived.ChangeOld
import Derived.SizedLaws
namespace Go.Proofs.Ytcaennbagdipkaa.stockRuns
open Go.RowKit Go.Maps Go.Proofs.YtcaennbagdipkaaW.PrintWords P
set_option linter.unusedSimpArgs false
set_option linter.unusedVariables false

section
variable (A : Option Addr) (c0 : Nat) (l : List S29) (w : World) (hC : Kd.C k29 w A l.length l) (hc : l.length ≤ c0)
include hC hc
set_option maxRecDepth 100000 in
theorem walk1 (h : smallB l = false) : Calls Try.prog 3 #[.slice A l.length c0] w fun e w' => e = .returned (.bool true) ∧ Below w.heap.size w w' := by
  have hs := small_any hC hc
  rw [h] at hs
  clear h hC
  go_enter Try.func3, Try.ntmps3
  go_wp2_with (first
    | (go_at_call 9; refine hs.mono ?_; rintro e w1 ⟨rfl, hB1⟩)
    | (go_at_call 10; refine (awake_any _).mono ?_; rintro e w2 ⟨rfl, hB2⟩))
  go_ret
  exact ⟨rfl, hB1.trans (hB2.mono hB1.size)⟩

set_option maxRecDepth 100000 in
set_option maxHeartbeats 8000000 in
theorem walk2 (h : smallB l = true) : Calls Try.prog 3 #[.slice A l.length c0] w fun e w' => e = .returned (.bool true) ∧ Below w.heap.size w w' := by
  have hs := small_any hC hc
  obtain ⟨hl, hops⟩ := smallB_ops h
  have HF := Lib.hid (fine_run l (fun x hx => (hops x hx).1))
  have HO := Lib.hid hops
  rw [h] at hs
  have HC := Lib.hid hC
  clear h hC hops
  have hu29 := Try.underlying29
  go_enter Try.func3, Try.ntmps3
  go_wp2_with (first
    | (go_at_call 9; refine hs.mono ?_; rintro e w1 ⟨rfl, hB1⟩)
    | (go_at_call 11; refine (New_any _).mono ?_; rintro e w2 ⟨rfl, S2, B2⟩))
  have HB1 := Lib.hid hB1
  have HB2 := Lib.hid B2
  have HS2 := Lib.hid S2
  clear hB1 B2 S2
  obtain ⟨m, hm⟩ : ∃ m, m = w1.heap.size := ⟨_, rfl⟩
  rw [← hm] at HB2 HS2 ⊢
  have HM := Lib.hid hm
  clear hm
  go_loopw [4, 5] (fun v i wr => ∃ (k : Nat), k ≤ l.length ∧ i = .int .i64 k ∧ Hid (Kd.R k68 68 wr m (fun k => m + 2 ≤ k) v (toR (runS (l.take k)).1)) ∧ Hid (Stk wr m (runS (l.take k)).1 (runS (l.take k)).2) ∧ Hid (Below m w1 wr)) (fun _ i _ => l.length - (intOf i).toNat)
  case atStart => exact ⟨0, Nat.zero_le _, rfl, by rw [List.take_zero]; exact Lib.hid (Kd.R_nil _ _ _ _ _), by rw [List.take_zero]; exact HS2, HB2⟩
  case round =>
    obtain ⟨k, hk, rfl, hR, hSr, hBr⟩ := hrel
    by_cases hlt : k < l.length
    · have HBr := Lib.hid (HB1.out.trans (hBr.out.mono (by rw [HM.out]; exact HB1.out.size)))
      obtain ⟨ad, rfl, g0, g1, g2⟩ := at_T29 (Kd.C_below HC.out HBr.out) (k : Int) (by omega) (by omega)
      rw [rd29 l k hlt, Int.toNat_natCast] at g0 g1 g2
      have hf := HF.out k hk
      have hok := HO.out _ (List.getElem_mem hlt)
      have hn := Lib.hid (runS_succ l k hlt)
      generalize runS (List.take k l) = s at *
      obtain ⟨L, c⟩ := s
      obtain ⟨f1, f2, f3, f4⟩ := hf
      simp only at f1 f2 f3 f4 hSr hn hR
      generalize l[k] = u at *
      clear f4
      have hck := HF.out (k + 1) hlt
      rw [hn.out] at hck
      have f5 := hck.len
      have f6 := hck.hi
      have f7 := hck.lo
      simp only at f5 f6 f7
      clear hck
      have hlik := Lib.hid (likewise_eq L c u hSr.out.good.apart (by omega))
      have hml := hSr.out.lt
      have hBo := (Below.refl wr.heap.size wr).alloc (Nat.le_refl _) (.cells #[.int .u8 u.f0, .string u.f1, .string u.f2] 29)
      have hd := Lib.hid (do_any _ m L c u (hSr.out.below hBo) (by have := hok.1; unfold maxLen; omega) (by omega) f2 (by omega))
      have hos : (wr.alloc (.cells #[.int .u8 u.f0, .string u.f1, .string u.f2] 29)).heap.size = wr.heap.size + 1 := by simp
      have o0 : (wr.alloc (.cells #[.int .u8 u.f0, .string u.f1, .string u.f2] 29)).cell? ⟨wr.heap.size, 0, none⟩ = some (.int .u8 u.f0) := by simp [go_sem]
      have o1 : (wr.alloc (.cells #[.int .u8 u.f0, .string u.f1, .string u.f2] 29)).cell? ⟨wr.heap.size, 1, none⟩ = some (.string u.f1) := by simp [go_sem]
      have o2 : (wr.alloc (.cells #[.int .u8 u.f0, .string u.f1, .string u.f2] 29)).cell? ⟨wr.heap.size, 2, none⟩ = some (.string u.f2) := by simp [go_sem]
      have hP : Kd.R k68 68 (wr.alloc (.cells #[.int .u8 u.f0, .string u.f1, .string u.f2] 29)) m (fun k => m + 2 ≤ k ∧ k < wr.heap.size) u4 (toR L) :=
        Kd.R_below (Kd.R_mono (Kd.R_bound hR.out) (fun k hk => ⟨hk.1, hk.2.2.1⟩)) hBo
      have hB0 := hBr.out.trans (hBo.mono (by omega))
      go_wp2_with fail
      generalize wr.alloc (.cells #[.int .u8 u.f0, .string u.f1, .string u.f2] 29) = wo at *
      generalize wr.heap.size = g at *
      clear hBo hR
      refine hd.out.mono ?_
      rintro e wd ⟨v1, rfl, R1, S, T⟩
      have hr1 := Lib.hid (refOf (doS L c u).L u.f1 (by omega))
      have hr2 := Lib.hid (refFree (doS L c u).L (by omega))
      have hr3 := Lib.hid (refHeld (doS L c u).L u.f2 (by omega))
      clear hd
      have q0 := T.cell (p := ⟨g, 0, none⟩) (by show g < wo.heap.size; omega) (by show g ≠ m; omega) (by show g ≠ m + 1; omega) |>.trans o0
      have q1 := T.cell (p := ⟨g, 1, none⟩) (by show g < wo.heap.size; omega) (by show g ≠ m; omega) (by show g ≠ m + 1; omega) |>.trans o1
      have q2 := T.cell (p := ⟨g, 2, none⟩) (by show g < wo.heap.size; omega) (by show g ≠ m; omega) (by show g ≠ m + 1; omega) |>.trans o2
      have hBd := Turn.below hB0 T (Nat.le_refl _) (by omega)
      replace hP := R_turn2 hP (fun k hk => hk.1) T
      have hwd := T.size
      clear o0 o1 o2 T hB0
      have hlik2 := hlik.out
      have hxl : (doS L c u).xs.length ≤ 1000 := Nat.le_trans (doS_xs L c u) (by omega)
      generalize doS L c u = D at *
      go_wp2_with fail
      refine (sawmilllaw47_likewise.calls 3000 (fun k => m + 2 ≤ k ∧ k < g) u4 (toR L) u.f0 u.f1 u.f2 (toR D.L) D.r D.n D.xs w1 wd (by rw [← HM.out]; exact hBd) (by rw [← HM.out]; exact hP) hlik.out).mono ?_
      rintro e wl ⟨v2, v3, rfl, R2, R3, hBl, hK⟩
      rw [← HM.out] at R2 R3 hBl
      clear hlik2 hP hBd
      replace R1 := R_kept R1 (fun k hk _ hh => by have := hh.2; omega) hK
      replace S := S.kept_ hK (fun hh => by have := hh.1; omega) (fun hh => by have := hh.1; omega)
      replace q1 := Kept.cell_ hK q1 (fun hh => by have := hh.2; simp at this)
      replace q2 := Kept.cell_ hK q2 (fun hh => by have := hh.2; simp at this)
      clear q0
      replace R2 := Kd.R_mono R2 (ok' := fun k => m + 2 ≤ k) (fun k hk => hk.elim (fun h => h.1) (fun h => by omega))
      obtain ⟨A1, d1, rfl⟩ := Kd.R_slice R1
      obtain ⟨A2, d2, rfl⟩ := Kd.R_slice R2
      obtain ⟨A3, d3, rfl⟩ := Kd.R_slice R3
      clear hK hlik
      go_wp2_with fail
      refine (Of_any (it := u.f1) (r := (ofS D.L u.f1).1) (b := (ofS D.L u.f1).2) rfl S (by have := hok.1; unfold maxLen; omega)).mono ?_
      rintro e wp ⟨rfl, B⟩
      have hBl2 := hBl.trans (B.mono (by rw [HM.out]; exact hBl.size))
      replace R1 := Kd.R_below R1 B
      replace R2 := Kd.R_below R2 B
      replace R3 := Kd.R_below R3 B
      replace S := S.below B
      replace q1 := (B.cell (World.block_lt_of_cell? _ _ q1)).trans q1
      replace q2 := (B.cell (World.block_lt_of_cell? _ _ q2)).trans q2
      clear B hBl
      have hr1' : sawmillref47_Of.f 3000 (toR D.L) u.f1 = some ((ofS D.L u.f1).1, (ofS D.L u.f1).2) := hr1.out
      generalize ofS D.L u.f1 = p at *
      have HR1 := Lib.hid hr1'
      clear hr1'
      go_wp2_with fail
      refine (sawmillref47_Of.calls 3000 A2 d2 (toR D.L) u.f1 p.1 p.2 _ (Kd.R_reads' R2).2.2 (Kd.R_reads' R2).2.1 HR1.out).mono ?_
      rintro e wq ⟨rfl, hD⟩
      have B := hD.below
      have hBl := hBl2.trans (B.mono (by rw [HM.out]; exact hBl2.size))
      replace R1 := Kd.R_below R1 B
      replace R2 := Kd.R_below R2 B
      replace R3 := Kd.R_below R3 B
      replace S := S.below B
      replace q1 := (B.cell (World.block_lt_of_cell? _ _ q1)).trans q1
      replace q2 := (B.cell (World.block_lt_of_cell? _ _ q2)).trans q2
      clear B hBl2 q1 hD
      go_wp2_with fail
      have hLd : D.L.length ≤ 1000 := by omega
      have hxh := heldO_length D.L u.f2
      have hxf := held_length D.L es
      have B := (Below.refl wq.heap.size wq).drew
      replace R1 := Kd.R_below R1 B
      replace R2 := Kd.R_below R2 B
      replace R3 := Kd.R_below R3 B
      replace S := S.below B
      have hB0 := hBl.trans (B.mono (by rw [HM.out]; exact hBl.size))
      clear B hBl
      have hxs2 : (toR D.L).length ≤ 1000 := by rw [toR_length]; omega
      go_region_held3 (fun w' => w'.cell? ⟨g, 2, none⟩ = some (.string u.f2)) (first | assumption | go_keep)
        (first
          | (go_at_call 16; refine (Same_any (xs := D.xs) (ys := D.xs) (r := true) (by simp) (Kd.R_reads' R1).2.2 (Kd.R_reads' R1).2.1 (Kd.R_reads' R3).2.2 (Kd.R_reads' R3).2.1 hxl).mono ?_; rintro e wa ⟨rfl, Ba⟩; clear R1 R3
             replace R2 := Kd.R_below R2 Ba; replace S := S.below Ba; replace hB0 := hB0.trans (Ba.mono (by rw [HM.out]; exact hB0.size)); replace q2 := (Ba.cell (World.block_lt_of_cell? _ _ q2)).trans q2; clear Ba)
          | (go_at_call 17; refine (Fre_any (xs := held D.L es) rfl S hLd).mono ?_; rintro e wb ⟨v5, rfl, R5, Ba⟩; obtain ⟨A5, d5, rfl⟩ := Kd.R_slice R5
             replace R2 := Kd.R_below R2 Ba; replace S := S.below Ba; replace hB0 := hB0.trans (Ba.mono (by rw [HM.out]; exact hB0.size)); replace q2 := (Ba.cell (World.block_lt_of_cell? _ _ q2)).trans q2; clear Ba)
          | (go_at_call 18; refine (sawmillref47_Free.calls 3000 A2 d2 (toR D.L) (held D.L es) _ (Kd.R_reads' R2).2.2 (Kd.R_reads' R2).2.1 hr2.out).mono ?_; rintro e wc ⟨v6, rfl, R6, Ba⟩; obtain ⟨A6, d6, rfl⟩ := Kd.R_slice R6
             replace R5 := Kd.R_below R5 Ba; replace R2 := Kd.R_below R2 Ba; replace S := S.below Ba; replace hB0 := hB0.trans (Ba.mono (by rw [HM.out]; exact hB0.size)); replace q2 := (Ba.cell (World.block_lt_of_cell? _ _ q2)).trans q2; clear Ba)
          | (go_at_call 16; refine (Same_any (xs := held D.L es) (ys := held D.L es) (r := true) (by simp) (Kd.R_reads' R5).2.2 (Kd.R_reads' R5).2.1 (Kd.R_reads' R6).2.2 (Kd.R_reads' R6).2.1 (by omega)).mono ?_; rintro e wd2 ⟨rfl, Ba⟩; clear R5 R6
             replace R2 := Kd.R_below R2 Ba; replace S := S.below Ba; replace hB0 := hB0.trans (Ba.mono (by rw [HM.out]; exact hB0.size)); replace q2 := (Ba.cell (World.block_lt_of_cell? _ _ q2)).trans q2; clear Ba)
          | (go_at_call 19; refine (Hel_any (o := u.f2) (xs := heldO D.L u.f2) rfl S hLd).mono ?_; rintro e we2 ⟨v7, rfl, R7, Ba⟩; obtain ⟨A7, d7, rfl⟩ := Kd.R_slice R7
             replace R2 := Kd.R_below R2 Ba; replace S := S.below Ba; replace hB0 := hB0.trans (Ba.mono (by rw [HM.out]; exact hB0.size)); replace q2 := (Ba.cell (World.block_lt_of_cell? _ _ q2)).trans q2; clear Ba)
          | (go_at_call 20; refine (sawmillref47_Held.calls 3000 A2 d2 (toR D.L) u.f2 (heldO D.L u.f2) _ (Kd.R_reads' R2).2.2 (Kd.R_reads' R2).2.1 hr3.out).mono ?_; rintro e wf2 ⟨v8, rfl, R8, Ba⟩; obtain ⟨A8, d8, rfl⟩ := Kd.R_slice R8
             replace R7 := Kd.R_below R7 Ba; replace R2 := Kd.R_below R2 Ba; replace S := S.below Ba; replace hB0 := hB0.trans (Ba.mono (by rw [HM.out]; exact hB0.size)); replace q2 := (Ba.cell (World.block_lt_of_cell? _ _ q2)).trans q2; clear Ba)
          | (go_at_call 16; refine (Same_any (xs := heldO D.L u.f2) (ys := heldO D.L u.f2) (r := true) (by simp) (Kd.R_reads' R7).2.2 (Kd.R_reads' R7).2.1 (Kd.R_reads' R8).2.2 (Kd.R_reads' R8).2.1 (by omega)).mono ?_; rintro e wg2 ⟨rfl, Ba⟩; clear R7 R8
             replace R2 := Kd.R_below R2 Ba; replace S := S.below Ba; replace hB0 := hB0.trans (Ba.mono (by rw [HM.out]; exact hB0.size)); replace q2 := (Ba.cell (World.block_lt_of_cell? _ _ q2)).trans q2; clear Ba))
      go_wp2
      go_roundw
      case rel => exact ⟨k + 1, by omega, by go_num, by rw [hn.out]; exact Lib.hid R2, by rw [hn.out]; exact Lib.hid S, Lib.hid hB0⟩
      case measure => simp [intOf]; omega
    · have hge : (l.length : Int) ≤ (k : Int) := by omega
      go_wp2_with (go_at_call 10; refine (awake_any _).mono ?_; rintro e wz ⟨rfl, Bz⟩)
      go_ret
      have hB := hBr.out.trans (Bz.mono (by rw [HM.out]; exact hBr.out.size))
      exact ⟨rfl, HB1.out.trans (hB.mono (by rw [HM.out]; exact HB1.out.size))⟩

theorem walk : Calls Try.prog 3 #[.slice A l.length c0] w fun e w' => e = .returned (.bool true) ∧ Below w.heap.size w w' := by
  cases h : smallB l with
  | false => exact walk1 A c0 l w hC hc h
  | true => exact walk2 A c0 l w hC hc h
end

section
open Go.ChangeShapes Go.WideShapes Go.ChangeAt Go.RowKit Go.Joins
open Go.ChangeMaps (open_string shut_string)
theorem own : ownKnob Try.prog.godebug = none := by kernel_rfl
theorem laidOut : laidOutB Try.prog = true := by kernel_rfl

set_option maxRecDepth 100000 in
theorem lifted (os : Os) (started : os.Started) (H : Type) (enc : TypeId × Value → H) :
    ReturnsInHanded {} Try.checked os 3 .any (Rows.stockRunsSpec.pre6 enc Try.prog Try.f3 Rows.stockRunsRow.domain false) (Rows.stockRunsSpec.post enc Try.prog Try.f3 false true false false) := by
  refine returnsInHanded_of_change_sized (C := Try.checked) own started (by kernel_rfl) Try.func3
    (ChangeSpec.witness6 (enc := enc) (C := Try.checked) false ⟨#[], #[.slice none 0 0], []⟩ 8 (by kernel_rfl) (by kernel_rfl) (by kernel_rfl) (by kernel_rfl)) ?_
  intro W base args ds gs before hval0 hW hcnd hsz0 _
  have hval : ∀ (j : Nat) t v, Try.f3.params[j]? = some t → args[j]? = some v → Value.okWide Try.prog W .any base t v := hval0
  have hW' := hW
  obtain ⟨p, q, hA0, hV, rfl, hfz, hnd⟩ := hW
  have hA : DataW.TrodAll enc Try.prog W 0 (fun _ => true) true Try.f3.params.toList args.toList ds p := hA0
  rw [Try.params3] at hA hval
  obtain ⟨v0, vs0, d0, ds0, p0, q0, hargs, rfl, rfl, h0, r0⟩ := trodAll_cons hA
  obtain ⟨rfl, rfl, rfl⟩ := trodAll_nil r0
  obtain rfl : args = #[v0] := by cases args; simp_all
  obtain ⟨rfl, rfl⟩ := trodVars_none hV
  have k0 := h0
  have lt0 : ∀ x ∈ p0, x.block < W.heap.size := by obtain ⟨m, hm⟩ := k0; exact DataW.trod_lt m _ _ _ hm
  obtain ⟨A, c, l, rfl, hC, hc⟩ := ops_of (hval 0 22 v0 rfl rfl) h0
  clear hA0 hval0 hsz0
  refine (walk A c l W hC hc).mono fun e W' ⟨he, bel⟩ => ?_
  subst he
  exact ⟨_, rfl, _, _, _, [], _, [], hW', trodAll_mk1 (shut_bool Try.underlying4 _), (trodAll_cons_mk (Below.trod laidOut (by kernel_rfl) (of_decide_eq_true (by kernel_rfl)) k0 bel lt0) trodAll_mk0), rfl, bel.frame _, fun h => by cases h⟩

theorem over : Rows.stockRunsRow.holds Try.pinned (OpenSpec.ofChange Rows.stockRunsSpec) :=
  OpenClaim.holds_of_wide 3 Try.f3 rfl rfl rfl rfl rfl rfl rfl ⟨rfl, rfl, rfl, rfl, rfl⟩ rfl rfl rfl rfl rfl (by kernel_rfl) Try.func3 (by kernel_rfl)
    (of_decide_eq_true (by kernel_rfl)) (by unfold Func.isWrapper; first | (rw [if_pos (by decide +kernel)]; kernel_rfl) | (rw [if_neg (by decide +kernel)]; exact ⟨rfl, rfl⟩))
    (fun os started H enc _ => lifted os started H enc)

theorem proved : Rows.StockRunsSaid := over
#print axioms proved
end
end Go.Proofs.Ytcaennbagdipkaa.stockRuns
