/- StockPlaces: every item is once in Free, or once in Held of the order that Of names. -/
import Derived.Test.YtcaennbagdipkaaPlR
import Derived.Deep.RegionHeld3
import Derived.Deep.QuietTactic
import Derived.BigQuiet
import Derived.Test.YtcaennbagdipkaaRows
import Derived.ProofKit
import Derived.OpenShut
import Derived.ShutString
import Derived.ChangeOld
import Derived.SizedLaws
namespace Go.Proofs.Ytcaennbagdipkaa.stockPlaces
open Go.RowKit Go.Maps Go.Proofs.YtcaennbagdipkaaW.PrintWords P
set_option linter.unusedSimpArgs false
set_option linter.unusedVariables false
set_option linter.unusedSectionVars false

section
variable (A : Option Addr) (c0 : Nat) (l : List S29) (w : World) (hC : Kd.C k29 w A l.length l) (hc : l.length ≤ c0) (hnn : ∀ o ∈ l, 0 ≤ o.f0)
include hC hc hnn
set_option maxRecDepth 100000 in
theorem walk1 (h : smallB l = false) : Calls Try.prog 5 #[.slice A l.length c0] w fun e w' => e = .returned (.bool true) ∧ Below w.heap.size w w' := by
  have hs := small_any hC hc
  rw [h] at hs
  clear h hC hnn
  go_enter Try.func5, Try.ntmps5
  go_wp2_with (first
    | (go_at_call 9; refine hs.mono ?_; rintro e w1 ⟨rfl, hB1⟩)
    | (go_at_call 10; refine (awake_any _).mono ?_; rintro e w2 ⟨rfl, hB2⟩))
  go_ret
  exact ⟨rfl, hB1.trans (hB2.mono hB1.size)⟩

set_option maxRecDepth 100000 in
set_option maxHeartbeats 16000000 in
theorem walk2 (h : smallB l = true) : Calls Try.prog 5 #[.slice A l.length c0] w fun e w' => e = .returned (.bool true) ∧ Below w.heap.size w w' := by
  have hs := small_any hC hc
  obtain ⟨hl, hops⟩ := smallB_ops h
  have HF := Lib.hid (fine_run l (fun x hx => (hops x hx).1))
  have HO := Lib.hid hops
  have HN := Lib.hid hnn
  rw [h] at hs
  have HC := Lib.hid hC
  clear h hC hops hnn
  have hu29 := Try.underlying29
  go_enter Try.func5, Try.ntmps5
  go_wp2_with (first
    | (go_at_call 9; refine hs.mono ?_; rintro e w1 ⟨rfl, hB1⟩)
    | (go_at_call 11; refine (New_any _).mono ?_; rintro e w2 ⟨rfl, S2, B2⟩))
  have HB1 := Lib.hid hB1
  have HB2 := Lib.hid B2
  have HS2 := Lib.hid S2
  clear hB1 B2 S2
  obtain ⟨m, hm⟩ : ∃ m, m = w1.heap.size := ⟨_, rfl⟩
  rw [← hm] at HB2 HS2 ⊢
  have HM := Lib.hid hm
  clear hm
  go_loopw [4, 5, 6] (fun v4 v5 i wr => ∃ (k : Nat) (G : List ByteArray), k ≤ l.length ∧ i = .int .i64 k ∧ Hid (SRow wr (m + 2) v4 (items (runS (l.take k)).1)) ∧ Hid (SRow wr (m + 2) v5 G) ∧ Hid (Apart v4 v5) ∧ G.length ≤ 200 * k ∧ Hid (∀ x ∈ G, x.size ≤ 100) ∧ Hid (Stk wr m (runS (l.take k)).1 (runS (l.take k)).2) ∧ Hid (Below m w1 wr)) (fun _ _ i _ => l.length - (intOf i).toNat)
  case atStart => exact ⟨0, [], Nat.zero_le _, rfl, by rw [List.take_zero]; exact Lib.hid (Kd.R_nil _ _ _ _ _), Lib.hid (Kd.R_nil _ _ _ _ _), Lib.hid (Apart.nil _), by simp, Lib.hid (fun x hx => by cases hx), by rw [List.take_zero]; exact HS2, HB2⟩
  case round =>
    obtain ⟨k, G, hk, rfl, hR4, hR5, hA45, hG, hGs, hSr, hBr⟩ := hrel
    by_cases hlt : k < l.length
    · have HBr := Lib.hid (HB1.out.trans (hBr.out.mono (by rw [HM.out]; exact HB1.out.size)))
      obtain ⟨ad, rfl, g0, g1, g2⟩ := at_T29 (Kd.C_below HC.out HBr.out) (k : Int) (by omega) (by omega)
      rw [rd29 l k hlt, Int.toNat_natCast] at g0 g1 g2
      have hf := HF.out k hk
      have hok := HO.out _ (List.getElem_mem hlt)
      have hu0 := HN.out _ (List.getElem_mem hlt)
      have hn := Lib.hid (runS_succ l k hlt)
      have HU := Lib.hid (rd29 l k hlt)
      generalize runS (List.take k l) = s at *
      obtain ⟨L, c⟩ := s
      obtain ⟨f1, f2, f3, f4⟩ := hf
      simp only at f1 f2 f3 f4 hSr hn hR4
      generalize l[k] = u at *
      have F4 := Lib.hid f4
      clear f4
      have hml := hSr.out.lt
      have hAp := Lib.hid hSr.out.good.apart
      have hd := Lib.hid (do_any _ m L c u hSr.out (by have := hok.1; unfold maxLen; omega) (by omega) f2 (by omega))
      have hit0 := Lib.hid (fun h0 => doS_zero L c u h0)
      have hit1 := Lib.hid (fun h0 h3 => items_mid L c u h0 h3 hu0)
      have hit3 := Lib.hid (fun h3 => doS_three L c u h3)
      have hxl := doS_xs L c u
      go_wp2_with fail
      refine hd.out.mono ?_
      rintro e wd ⟨v9, rfl, R9, S, T⟩
      have R4 := R_turn hR4.out (by omega) T
      have R5 := R_turn hR5.out (by omega) T
      have hB := Turn.below hBr.out T (Nat.le_refl _) (by omega)
      have h94 := Lib.hid (Apart.new R9 (Kd.R_lt hR4.out))
      have h95 := Lib.hid (Apart.new R9 (Kd.R_lt hR5.out))
      replace R9 := Kd.R_lower R9 (show m + 2 ≤ wr.heap.size by omega)
      have hsz := T.size
      clear T hd hR4 hR5 g0 g1 g2
      obtain ⟨ad', e', g0, g1, g2⟩ := at_T29 (Kd.C_below HC.out (HB1.out.trans (hB.mono (by rw [HM.out]; exact HB1.out.size)))) (k : Int) (by omega) (by omega)
      rw [HU.out, Int.toNat_natCast] at g0 g1 g2
      cases e'
      generalize doS L c u = D at *
      by_cases hz : u.f0 = 0
      · have q0 : (u.f0 == 0) = true := by simp [hz]
        have q3 : u.f0 < 3 := by omega
        have hi0 := Lib.hid (hit0.out hz)
        clear hz
        by_cases hr : D.r = 0
        · have qr : (D.r == 0) = true := by simp [hr]
          rw [if_pos hr] at hi0
          clear hr
          go_wp2_with (first
            | ((with_reducible refine gate_builtin (b := .append) (xs := #[.tmp 51, .tmp 57]) rfl ?_); at_builtin; refine Kd.R_append Kd.string (w0 := wd) (m + 2) rfl (.tmp 51) (.tmp 57) 31 9 (.string ⟨#[]⟩) 16 rfl Try.underlying31 info9 rfl (by decide) (by omega) _ (items L) u.f1 [.string u.f1] (fun _ => True) (fun _ => False) rfl rfl rfl (fun _ hk => hk.elim) (fun _ _ => trivial) R4 (Below.refl _ _) (by omega) (by rw [items_length]; omega) ?_; intro v4' we R4' hb hg hat; obtain ⟨ad2, e2, g0n, _, _⟩ := at_T29 (Kd.C_below HC.out (HB1.out.trans ((hB.trans (hb.mono (by omega))).mono (by rw [HM.out]; exact HB1.out.size)))) (k : Int) (by omega) (by omega); rw [HU.out, Int.toNat_natCast] at g0n; cases e2))
          have R5' := SRow.grown R5 hg hA45.out.symm
          have hA' := (hA45.out.symm.grown R5 hat).symm
          have S' := S.kept (hb.block m (by omega)) (hb.block (m + 1) (by omega))
          have hB' := hB.trans (hb.mono (by omega))
          clear R4 R5 R9 S hB hb hg hat g0 g1 g2
          go_wp2
          go_roundw
          case rel => exact ⟨k + 1, G, by omega, by go_num, by rw [hn.out]; simp only; rw [hi0.out]; exact Lib.hid R4', Lib.hid R5', Lib.hid hA', by omega, hGs, by rw [hn.out]; exact Lib.hid S', Lib.hid hB'⟩
          case measure => simp [intOf]; omega
        · have qr : (D.r == 0) = false := by simp [hr]
          rw [if_neg hr] at hi0
          clear hr
          have R9 := Lib.hid R9
          go_wp2
          go_roundw
          case rel => exact ⟨k + 1, G, by omega, by go_num, by rw [hn.out]; simp only; rw [hi0.out]; exact Lib.hid R4, Lib.hid R5, hA45, by omega, hGs, by rw [hn.out]; exact Lib.hid S, Lib.hid hB⟩
          case measure => simp [intOf]; omega
      · have q0 : (u.f0 == 0) = false := by simp [hz]
        by_cases h3 : u.f0 < 3
        · have hi1 := Lib.hid (hit1.out hz h3)
          clear hz
          have R9 := Lib.hid R9
          go_wp2
          go_roundw
          case rel => exact ⟨k + 1, G, by omega, by go_num, by rw [hn.out]; simp only; rw [hi1.out]; exact Lib.hid R4, Lib.hid R5, hA45, by omega, hGs, by rw [hn.out]; exact Lib.hid S, Lib.hid hB⟩
          case measure => simp [intOf]; omega
        · clear hz
          have q3 : 3 ≤ u.f0 := by omega
          obtain ⟨e1, e2⟩ : D.L = remL L u.f2 ∧ D.xs = heldO L u.f2 := by first | exact hit3.out h3 | exact hit3.out q3
          obtain ⟨A4, d4, rfl⟩ := Kd.R_slice R4
          obtain ⟨A9, d9, rfl⟩ := Kd.R_slice R9
          have hpl := places_count L u.f2
          have hwo := Lib.hid (without_held hAp.out u.f2)
          rw [← e1, ← e2] at hpl hwo
          clear e1 e2 h3
          have hIl := items_length L
          have HI := Lib.hid (show ∀ x ∈ items L, x.size ≤ 100 from fun x hx => by obtain ⟨e, he, rfl⟩ := List.mem_map.1 hx; exact (F4.out e he).2)
          go_wp2_with fail
          generalize items L = I at *
          go_loopw [5, 10, 11] (fun v5 v10 i wx => ∃ (j : Nat) (G2 : List ByteArray), j ≤ I.length ∧ i = .int .i64 j ∧ Hid (SRow wx (m + 2) v10 (without (I.take j) D.xs)) ∧ Hid (SRow wx (m + 2) v5 G2) ∧ Hid (SRow wx (m + 2) (.slice A4 I.length d4) I) ∧ Hid (SRow wx (m + 2) (.slice A9 D.xs.length d9) D.xs) ∧
            Hid (Apart (.slice A4 I.length d4) v5) ∧ Hid (Apart (.slice A4 I.length d4) v10) ∧ Hid (Apart (.slice A9 D.xs.length d9) v5) ∧ Hid (Apart (.slice A9 D.xs.length d9) v10) ∧ Hid (Apart v10 v5) ∧ G2.length ≤ 200 * k + j ∧ Hid (∀ x ∈ G2, x.size ≤ 100) ∧ Hid (Stk wx m D.L D.c) ∧ Hid (Below m w1 wx)) (fun _ _ i _ => I.length - (intOf i).toNat)
          case atStart => exact ⟨0, G, Nat.zero_le _, rfl, by rw [List.take_zero]; exact Lib.hid (Kd.R_nil _ _ _ _ _), Lib.hid R5, Lib.hid R4, Lib.hid R9, hA45, Lib.hid (Apart.nil _).symm, Lib.hid h95.out.symm, Lib.hid (Apart.nil _).symm, Lib.hid (Apart.nil _), by omega, hGs, Lib.hid S, Lib.hid hB⟩
          case round =>
            clear R4 R5 R9 S hB g0 g1 g2
            obtain ⟨j, G2, hj, rfl, R10, R5, R4, R9, a45, a410, a95, a910, a105, hG2, hGs2, S, hB⟩ := hrel
            have hszx := S.out.lt
            by_cases hjt : j < I.length
            · obtain ⟨b4, hA4, hg1, hg2, _, hcell⟩ := strs_at R4.out j hjt
              subst hA4
              have hw1 := without_keep (X := D.xs) hjt
              have hw2 := without_drop (X := D.xs) hjt
              have hW1 := Lib.hid hw1
              have hW2 := Lib.hid hw2
              have hwl := without_length (I.take j) D.xs
              have hTl : (I.take j).length ≤ j := by rw [List.length_take]; exact Nat.min_le_left _ _
              clear hw1 hw2
              have hxs := HI.out _ (List.getElem_mem hjt)
              generalize I[j] = x at *
              go_wp2_with fail
              refine (index_any (xs := D.xs) (x := x) rfl (Kd.R_reads' R9.out).2.2 (Kd.R_reads' R9.out).2.1 (by omega)).mono ?_
              rintro e wy ⟨rfl, B⟩
              have hcell2 := (B.cell (World.block_lt_of_cell? _ _ hcell)).trans hcell
              have R10' := Kd.R_below R10.out B
              have R5' := Kd.R_below R5.out B
              have R4' := Kd.R_below R4.out B
              have R9' := Kd.R_below R9.out B
              have S' := S.out.below B
              have hB' := hB.out.trans (B.mono (by rw [HM.out]; exact hB.out.size))
              have hszy := S'.lt
              clear hcell
              by_cases hx : x ∈ D.xs
              · have qx : (cnt D.xs x == 0) = false := by simp [cnt_zero hx]
                have hw := hW2.out hx
                generalize cnt D.xs x = cn at *
                go_wp2_with (first
                  | ((with_reducible refine gate_builtin (b := .append) (xs := #[.tmp 85, .tmp 90]) rfl ?_); at_builtin; refine Kd.R_append Kd.string (w0 := wy) (m + 2) rfl (.tmp 85) (.tmp 90) 31 9 (.string ⟨#[]⟩) 16 rfl Try.underlying31 info9 rfl (by decide) (by omega) _ G2 x [.string x] (fun _ => True) (fun _ => False) rfl rfl rfl (fun _ hk => hk.elim) (fun _ _ => trivial) R5' (Below.refl _ _) (by omega) (by omega) ?_; intro v5' wz R5n hb hg hat))
                have R10n := SRow.grown R10' hg a105.out
                have R4n := SRow.grown R4' hg a45.out
                have R9n := SRow.grown R9' hg a95.out
                have b45 := a45.out.grown R4' hat
                have b95 := a95.out.grown R9' hat
                have b105 := a105.out.grown R10' hat
                have Sn := S'.kept (hb.block m (by omega)) (hb.block (m + 1) (by omega))
                have hBn := hB'.trans (hb.mono (by omega))
                clear R10' R5' R4' R9' S' hB' hb hg hat
                go_wp2
                go_roundw
                case rel => exact ⟨j + 1, _, by omega, by go_num, by rw [hw]; exact Lib.hid R10n, Lib.hid R5n, Lib.hid R4n, Lib.hid R9n, Lib.hid b45, a410, Lib.hid b95, a910, Lib.hid b105, by simp; omega, Lib.hid (fun y hy => by rcases List.mem_append.1 hy with hy | hy; exact hGs2.out y hy; rw [List.mem_singleton.1 hy]; exact hxs), Lib.hid Sn, Lib.hid hBn⟩
                case measure => simp [intOf]; omega
              · have qx : (cnt D.xs x == 0) = true := by simp [cnt_no hx]
                have hw := hW1.out hx
                generalize cnt D.xs x = cn at *
                go_wp2_with (first
                  | ((with_reducible refine gate_builtin (b := .append) (xs := #[.tmp 78, .tmp 83]) rfl ?_); at_builtin; refine Kd.R_append Kd.string (w0 := wy) (m + 2) rfl (.tmp 78) (.tmp 83) 31 9 (.string ⟨#[]⟩) 16 rfl Try.underlying31 info9 rfl (by decide) (by omega) _ (without (I.take j) D.xs) x [.string x] (fun _ => True) (fun _ => False) rfl rfl rfl (fun _ hk => hk.elim) (fun _ _ => trivial) R10' (Below.refl _ _) (by omega) (by omega) ?_; intro v10' wz R10n hb hg hat))
                have R5n := SRow.grown R5' hg a105.out.symm
                have R4n := SRow.grown R4' hg a410.out
                have R9n := SRow.grown R9' hg a910.out
                have b410 := a410.out.grown R4' hat
                have b910 := a910.out.grown R9' hat
                have b105 := (a105.out.symm.grown R5' hat).symm
                have Sn := S'.kept (hb.block m (by omega)) (hb.block (m + 1) (by omega))
                have hBn := hB'.trans (hb.mono (by omega))
                clear R10' R5' R4' R9' S' hB' hb hg hat
                go_wp2
                go_roundw
                case rel => exact ⟨j + 1, _, by omega, by go_num, by rw [hw]; exact Lib.hid R10n, Lib.hid R5n, Lib.hid R4n, Lib.hid R9n, a45, Lib.hid b410, a95, Lib.hid b910, Lib.hid b105, by omega, hGs2, Lib.hid Sn, Lib.hid hBn⟩
                case measure => simp [intOf]; omega
            · have hjI : I.length = j := by omega
              have R10 := R10.out
              rw [← hjI, List.take_length, hwo.out] at R10
              obtain ⟨A10, d10, rfl⟩ := Kd.R_slice R10
              have hge : (I.length : Int) ≤ (j : Int) := by omega
              have hsum : ((items D.L).length : Int) + (D.xs.length : Int) = (I.length : Int) := by omega
              clear hjI
              go_wp2
              go_roundw
              case rel => exact ⟨k + 1, G2, by omega, by go_num, by rw [hn.out]; exact Lib.hid R10, R5, a105, by omega, hGs2, by rw [hn.out]; exact S, hB⟩
              case measure => simp [intOf]; omega
    · have hSr := Lib.hid (show Stk wr m (runS l).1 (runS l).2 by have := hSr.out; rw [show k = l.length by omega, List.take_length] at this; exact this)
      have hR4 := Lib.hid (show SRow wr (m + 2) u4 (items (runS l).1) by have := hR4.out; rw [show k = l.length by omega, List.take_length] at this; exact this)
      have hf := HF.out l.length (Nat.le_refl _)
      rw [List.take_length] at hf
      generalize runS l = s at *
      obtain ⟨L, c⟩ := s
      obtain ⟨f1, f2, f3, f4⟩ := hf
      simp only at f1 f2 f3 f4 hSr hR4
      have F4 := Lib.hid f4
      clear f4
      have hge : (l.length : Int) ≤ (k : Int) := by omega
      have hL : L.length ≤ 1000 := by omega
      have hGl : G.length ≤ 100000 := by omega
      have hq1 := held_length L es
      have HIl := Lib.hid (items_length L)
      have hIb : (items L).length ≤ 100000 := by have := HIl.out; omega
      have hA := hSr.out.good.apart
      have HX := Lib.hid (show ∀ (j : Nat) (h : j < L.length), (items L)[j]? = some L[j].item from fun j h => by simp [items, h])
      have HCI := Lib.hid (show ∀ e ∈ L, cnt (items L) e.item = 1 from fun e he => cnt_yes (items_nodup hA) (List.mem_map_of_mem he))
      have HC1 := Lib.hid (show ∀ e ∈ L, e.order = es → cnt (held L es) e.item = 1 from fun e he h => cnt_yes (free_nodup hA es) (by have := in_held he; rw [h] at this; exact this))
      have HC2 := Lib.hid (show ∀ e ∈ L, e.order ≠ es → cnt (heldO L e.order) e.item = 1 from fun e he h => cnt_yes (held_nodup hA e.order) (by rw [heldO_of h]; exact in_held he))
      have HC3 := Lib.hid (show ∀ e ∈ L, e.order ≠ es → cnt (held L es) e.item = 0 from fun e he h => cnt_no (not_held hA he h))
      have HOF := Lib.hid (show ∀ e ∈ L, ofS L e.item = (e.order, true) from fun e he => ofS_in hA he)
      have HMM := Lib.hid (show ∀ x, (ofS L x).2 = decide (0 < cnt (items L) x) from ofS_mem L)
      have HRA := Lib.hid (resd_all L)
      clear hA
      have R4 := hR4.out
      have R5 := hR5.out
      have S := hSr.out
      clear hR4 hR5 hSr
      obtain ⟨A4, d4, rfl⟩ := Kd.R_slice R4
      obtain ⟨A5, d5, rfl⟩ := Kd.R_slice R5
      go_wp2_with fail
      have hfre := Fre_any (xs := held L es) rfl S hL
      generalize items L = I at *
      generalize held L es = F at *
      refine hfre.mono ?_
      rintro e wF ⟨vF, rfl, RF, B⟩
      replace R4 := Kd.R_below R4 B
      replace R5 := Kd.R_below R5 B
      replace S := S.below B
      have hB := Lib.hid (hBr.out.trans (B.mono (by rw [HM.out]; exact hBr.out.size)))
      obtain ⟨AF, dF, rfl⟩ := Kd.R_slice RF
      have HR4 := Lib.hid R4
      have HR5 := Lib.hid R5
      have HRF := Lib.hid RF
      have HS := Lib.hid S
      clear R4 R5 RF S B hBr
      go_wp2_with fail
      go_loopw [13, 14] (fun h i wx => ∃ j : Nat, j ≤ L.length ∧ h = .int .i64 ((resd L j : Nat) : Int) ∧ i = .int .i64 j ∧ Hid (Below wF.heap.size wF wx)) (fun _ i _ => L.length - (intOf i).toNat)
      case atStart => exact ⟨0, Nat.zero_le _, by rw [resd_zero]; rfl, rfl, Lib.hid (Below.refl _ _)⟩
      case round =>
        obtain ⟨j, hj, rfl, rfl, hBx⟩ := hrel
        by_cases hjt : j < L.length
        · obtain ⟨b4, hA4, hg1, hg2, _, hcell⟩ := strs_at (Kd.R_below HR4.out hBx.out) j (by have := HIl.out; omega)
          subst hA4
          have hjI : j < I.length := by have := HIl.out; omega
          have hxe : I[j] = L[j].item := by have := HX.out j hjt; rw [List.getElem?_eq_getElem hjI] at this; exact Option.some.inj this
          rw [hxe] at hcell
          clear hxe
          have hrs := Lib.hid (resd_succ L j hjt)
          have hrl := resd_le L j
          have hem := List.getElem_mem hjt
          have hof := Lib.hid (HOF.out _ hem)
          have hci := Lib.hid (HCI.out _ hem)
          have hc1 := Lib.hid (HC1.out _ hem)
          have hc2 := Lib.hid (HC2.out _ hem)
          have hc3 := Lib.hid (HC3.out _ hem)
          have hxz := (F4.out L[j] hem).2
          clear hem
          generalize L[j].item = x at *
          generalize L[j].order = o at *
          have hxk : x.size ≤ maxLen := by unfold maxLen; omega
          have hj1 : (j : Int) < ((I).length : Int) := by have := HIl.out; omega
          have hj0 : 0 ≤ (j : Int) := by omega
          go_wp2_with fail
          refine (Of_any hof.out (HS.out.below hBx.out) hxk).mono ?_
          rintro e wq ⟨rfl, B⟩
          have q := (B.cell (World.block_lt_of_cell? _ _ hcell)).trans hcell
          have B3q := hBx.out.trans (B.mono hBx.out.size)
          have R4q := Kd.R_below HR4.out B3q
          have RFq := Kd.R_below HRF.out B3q
          have B2 := B.trans ((Below.refl wq.heap.size wq).drew.mono B.size)
          have B3 := hBx.out.trans (B2.mono hBx.out.size)
          have R4 := Kd.R_below HR4.out B3
          have RF := Kd.R_below HRF.out B3
          have S := HS.out.below B3
          have hB0 := B3
          have qd := (B2.cell (World.block_lt_of_cell? _ _ hcell)).trans hcell
          clear B B2 B3 hcell hg1 hg2
          by_cases ho : o = es
          · have h1 := hc1.out ho
            have hrs2 := hrs.out
            rw [if_pos ho] at hrs2
            clear hrs
            have hrs := Lib.hid hrs2
            clear hrs2
            have hie : o.toList.isEmpty = true := by rw [toList_nil.2 ho]; rfl
            have hie1 : (o.toList == ([] : List UInt8)) = true := beq_iff_eq.mpr (toList_nil.2 ho)
            have hie2 : (o.toList != ([] : List UInt8)) = false := bne_eq_false_iff_eq.mpr (toList_nil.2 ho)
            have hoe := toList_nil.2 ho
            clear hc1 hc2 hc3 ho
            clear R4q RFq B3q
            go_wp2_with fail
            refine wp_region_noPanic ?_
            refine Reg.start (f := Try.f5) (k := 28) (n := 48) (a' := ⟨#[_, _, _, _, _, _, _, _, _, _, _, _, _, _, _, _, _, _, _, _, _, _, _, _, _, _, _, _, _, _, _, _, _, _, _, _, _, _, _, _, _, _, _, _, _, _, _, _, _, _, _, _, _, _, _, _, _, _, _, _, _, _, _, _, _, _, _, _, _, _, _, _, _, _, _, _, _, _, _, _, _, _, _, _, _, _, _, _, _, _, _, _, _, _, _, _, _, _, _, _, _, _, _, _, _, _, _, _, _, _, _, _, _, _, _, _, _, _, _, _, _, _, _, _, _, _, _, _, _, _, _, _, _, _, _, _, _, _, _, _, _, _, _, _, _, _, _, _, _, _, _, _, _, _, _, _, _, _, _, _, _, _, _, _, _, _, _, _, _, _, _, _, _, _, _, _, _, _, _, _, _, _, _, _, _, _, _, _, _, _, _, _, _, _, _, _, _, _, _, _, _, _, _, _], _⟩) (by kernel_rfl) (by kernel_rfl) (by kernel_rfl) rfl (by kernel_rfl) ?_
            refine reg28_yes (fun _ _ _ _ _ h => h) _ _ _ _ _ _ _ _ _ _ _ _ _ _ _ _ _ _ _ _ _ _ _ _ _ _ _ _ _ _ _ _ _ _ _ _ _ _ _ _ _ _ _ _ _ _ _ _ _ _ _ _ _ _ _ _ _ _ _ _ _ _ _ _ _ _ _ _ _ _ _ _ _ _ _ _ _ _ _ _ _ _ _ _ _ _ _ _ _ _ _ _ _ _ _ _ _ _ _ _ _ _ _ _ _ _ _ _ _ _ _ _ _ _ _ _ _ _ _ _ _ _ _ _ _ _ _ _ _ _ _ _ _ _ _ _ _ _ _ _ _ _ _ _ _ _ _ _ _ _ _ _ _ _ _ _ _ _ _ _ _ _ _ _ _ _ _ _ _ _ _ _ _ _ _ _ _ _ _ _ _ _ _ _ _ _ _ _ _ _ _ _ _ _ _ _ _ _ _ _ hjI qd (Kd.R_reads' R4).2.2 (Kd.R_reads' R4).2.1 hIb hci.out (Kd.R_reads' RF).2.2 (Kd.R_reads' RF).2.1 (by omega) hoe h1 ?_
            intro w'' B''
            refine NoPanic.normal ?_
            replace hB0 := hB0.trans (B''.mono hB0.size)
            clear B'' R4 RF S qd
            go_wp2
            go_roundw
            case rel => exact ⟨j + 1, by omega, by rw [hrs.out]; first | rfl | simp | go_num, by go_num, Lib.hid hB0⟩
            case measure => simp [intOf]; omega
          · have h2 := hc2.out ho
            have h3 := hc3.out ho
            have hie := nonempty_of ho
            have hie1 : (o.toList == ([] : List UInt8)) = false := beq_eq_false_iff_ne.mpr (fun h => ho (toList_nil.1 h))
            have hie2 : (o.toList != ([] : List UInt8)) = true := bne_iff_ne.mpr (fun h => ho (toList_nil.1 h))
            have hrs2 := hrs.out
            rw [if_neg ho] at hrs2
            clear hrs
            have hrs := Lib.hid hrs2
            clear hrs2
            have hhl := heldO_length L o
            have hhel := Lib.hid (fun (w' : World) (S' : Stk w' m L c) => Hel_any (o := o) (xs := heldO L o) rfl S' hL)
            generalize heldO L o = Ho at *
            have hoe : o.toList ≠ [] := fun h => ho (toList_nil.1 h)
            clear hc1 hc2 hc3 ho R4q RFq B3q
            go_wp2_with fail
            refine wp_region_noPanic ?_
            refine Reg.start (f := Try.f5) (k := 28) (n := 48) (a' := ⟨#[_, _, _, _, _, _, _, _, _, _, _, _, _, _, _, _, _, _, _, _, _, _, _, _, _, _, _, _, _, _, _, _, _, _, _, _, _, _, _, _, _, _, _, _, _, _, _, _, _, _, _, _, _, _, _, _, _, _, _, _, _, _, _, _, _, _, _, _, _, _, _, _, _, _, _, _, _, _, _, _, _, _, _, _, _, _, _, _, _, _, _, _, _, _, _, _, _, _, _, _, _, _, _, _, _, _, _, _, _, _, _, _, _, _, _, _, _, _, _, _, _, _, _, _, _, _, _, _, _, _, _, _, _, _, _, _, _, _, _, _, _, _, _, _, _, _, _, _, _, _, _, _, _, _, _, _, _, _, _, _, _, _, _, _, _, _, _, _, _, _, _, _, _, _, _, _, _, _, _, _, _, _, _, _, _, _, _, _, _, _, _, _, _, _, _, _, _, _, _, _, _, _, _, _], _⟩) (by kernel_rfl) (by kernel_rfl) (by kernel_rfl) rfl (by kernel_rfl) ?_
            refine reg28_no (fun _ _ _ _ _ h => h) _ _ _ _ _ _ _ _ _ _ _ _ _ _ _ _ _ _ _ _ _ _ _ _ _ _ _ _ _ _ _ _ _ _ _ _ _ _ _ _ _ _ _ _ _ _ _ _ _ _ _ _ _ _ _ _ _ _ _ _ _ _ _ _ _ _ _ _ _ _ _ _ _ _ _ _ _ _ _ _ _ _ _ _ _ _ _ _ _ _ _ _ _ _ _ _ _ _ _ _ _ _ _ _ _ _ _ _ _ _ _ _ _ _ _ _ _ _ _ _ _ _ _ _ _ _ _ _ _ _ _ _ _ _ _ _ _ _ _ _ _ _ _ _ _ _ _ _ _ _ _ _ _ _ _ _ _ _ _ _ _ _ _ _ _ _ _ _ _ _ _ _ _ _ _ _ _ _ _ _ _ _ _ _ _ _ _ _ _ _ _ _ _ _ _ _ _ _ _ _ hjI qd (Kd.R_reads' R4).2.2 (Kd.R_reads' R4).2.1 hIb hci.out (Kd.R_reads' RF).2.2 (Kd.R_reads' RF).2.1 (by omega) hoe h3 L c S Ho (by omega) h2 hhel.out ?_
            intro y148 w'' B''
            refine NoPanic.normal ?_
            replace hB0 := hB0.trans (B''.mono hB0.size)
            clear B'' R4 RF S qd
            go_wp2
            go_roundw
            case rel => exact ⟨j + 1, by omega, by rw [hrs.out]; go_num, by go_num, Lib.hid hB0⟩
            case measure => simp [intOf]; omega
        · have hjl : j = L.length := by omega
          have hra := HRA.out
          rw [← hjl] at hra
          have hge2 : ((I).length : Int) ≤ (j : Int) := by have := HIl.out; omega
          have hgeN : ¬ j < I.length := by have := HIl.out; omega
          have hgeD : decide (j < I.length) = false := decide_eq_false hgeN
          have hfin : ((F).length : Int) + ((resd L j : Nat) : Int) = ((I).length : Int) := by have := HIl.out; omega
          have hrl := resd_le L j
          clear hjl hra
          go_wp2_with fail
          go_loopw [17, 18, 19] (fun i _ _ wy => ∃ j2 : Nat, j2 ≤ G.length ∧ i = .int .i64 j2 ∧ Hid (Below wF.heap.size wF wy)) (fun i _ _ _ => G.length - (intOf i).toNat)
          case atStart => exact ⟨0, Nat.zero_le _, rfl, hBx⟩
          case round =>
            obtain ⟨j2, hj2, rfl, hBy⟩ := hrel
            by_cases hjt2 : j2 < G.length
            · obtain ⟨b5, hA5, hg1, hg2, _, hcell⟩ := strs_at (Kd.R_below HR5.out hBy.out) j2 hjt2
              subst hA5
              have hgz := hGs.out _ (List.getElem_mem hjt2)
              generalize G[j2] = x at *
              have hxk : x.size ≤ maxLen := by unfold maxLen; omega
              obtain ⟨r, hr⟩ : ∃ r, ofS L x = (r, decide (0 < cnt (I) x)) := ⟨(ofS L x).1, by rw [← HMM.out]⟩
              have Hr := Lib.hid hr
              clear hr
              go_wp2_with fail
              refine (Of_any Hr.out (HS.out.below hBy.out) hxk).mono ?_
              rintro e wq ⟨rfl, B⟩
              have q := (B.cell (World.block_lt_of_cell? _ _ hcell)).trans hcell
              have B3 := hBy.out.trans (B.mono hBy.out.size)
              have R4 := Kd.R_below HR4.out B3
              clear B hcell hg1 hg2
              go_wp2_with fail
              refine (index_any (xs := I) (x := x) rfl (Kd.R_reads' R4).2.2 (Kd.R_reads' R4).2.1 hIb).mono ?_
              rintro e wz ⟨rfl, B⟩
              have B4 := B3.trans (B.mono B3.size)
              clear B3 B R4 q
              go_wp2
              go_roundw
              case rel =>
                exact ⟨j2 + 1, by omega, by go_num, Lib.hid B4⟩
              case measure => simp [intOf]; omega
            · have hge3 : (G.length : Int) ≤ (j2 : Int) := by omega
              go_wp2_with (go_at_call 10; refine (awake_any _).mono ?_; rintro e wz ⟨rfl, Bz⟩)
              go_ret
              have B4 := hBy.out.trans (Bz.mono hBy.out.size)
              have B5 := hB.out.trans (B4.mono (by rw [HM.out]; exact hB.out.size))
              exact ⟨rfl, HB1.out.trans (B5.mono (by rw [HM.out]; exact HB1.out.size))⟩

theorem walk : Calls Try.prog 5 #[.slice A l.length c0] w fun e w' => e = .returned (.bool true) ∧ Below w.heap.size w w' := by
  cases h : smallB l with
  | false => exact walk1 A c0 l w hC hc hnn h
  | true => exact walk2 A c0 l w hC hc hnn h
end

section
open Go.ChangeShapes Go.WideShapes Go.ChangeAt Go.RowKit Go.Joins
open Go.ChangeMaps (open_string shut_string)
theorem own : ownKnob Try.prog.godebug = none := by kernel_rfl
theorem laidOut : laidOutB Try.prog = true := by kernel_rfl

set_option maxRecDepth 100000 in
theorem lifted (os : Os) (started : os.Started) (H : Type) (enc : TypeId × Value → H) :
    ReturnsInHanded {} Try.checked os 5 .any (Rows.stockPlacesSpec.pre6 enc Try.prog Try.f5 Rows.stockPlacesRow.domain false) (Rows.stockPlacesSpec.post enc Try.prog Try.f5 false true false false) := by
  refine returnsInHanded_of_change_sized (C := Try.checked) own started (by kernel_rfl) Try.func5
    (ChangeSpec.witness6 (enc := enc) (C := Try.checked) false ⟨#[], #[.slice none 0 0], []⟩ 8 (by kernel_rfl) (by kernel_rfl) (by kernel_rfl) (by kernel_rfl)) ?_
  intro W base args ds gs before hval0 hW hcnd hsz0 _
  have hval : ∀ (j : Nat) t v, Try.f5.params[j]? = some t → args[j]? = some v → Value.okWide Try.prog W .any base t v := hval0
  have hW' := hW
  obtain ⟨p, q, hA0, hV, rfl, hfz, hnd⟩ := hW
  have hA : DataW.TrodAll enc Try.prog W 0 (fun _ => true) true Try.f5.params.toList args.toList ds p := hA0
  rw [Try.params5] at hA hval
  obtain ⟨v0, vs0, d0, ds0, p0, q0, hargs, rfl, rfl, h0, r0⟩ := trodAll_cons hA
  obtain ⟨rfl, rfl, rfl⟩ := trodAll_nil r0
  obtain rfl : args = #[v0] := by cases args; simp_all
  obtain ⟨rfl, rfl⟩ := trodVars_none hV
  have k0 := h0
  have lt0 : ∀ x ∈ p0, x.block < W.heap.size := by obtain ⟨m, hm⟩ := k0; exact DataW.trod_lt m _ _ _ hm
  obtain ⟨A, c, l, rfl, hC, hc⟩ := ops_of2 (hval 0 22 v0 rfl rfl) h0
  clear hA0 hval0 hsz0
  refine (walk A c l W hC hc.1 hc.2).mono fun e W' ⟨he, bel⟩ => ?_
  subst he
  exact ⟨_, rfl, _, _, _, [], _, [], hW', trodAll_mk1 (shut_bool Try.underlying4 _), (trodAll_cons_mk (Below.trod laidOut (by kernel_rfl) (of_decide_eq_true (by kernel_rfl)) k0 bel lt0) trodAll_mk0), rfl, bel.frame _, fun h => by cases h⟩

theorem over : Rows.stockPlacesRow.holds Try.pinned (OpenSpec.ofChange Rows.stockPlacesSpec) :=
  OpenClaim.holds_of_wide 5 Try.f5 rfl rfl rfl rfl rfl rfl rfl ⟨rfl, rfl, rfl, rfl, rfl⟩ rfl rfl rfl rfl rfl (by kernel_rfl) Try.func5 (by kernel_rfl)
    (of_decide_eq_true (by kernel_rfl)) (by unfold Func.isWrapper; first | (rw [if_pos (by decide +kernel)]; kernel_rfl) | (rw [if_neg (by decide +kernel)]; exact ⟨rfl, rfl⟩))
    (fun os started H enc _ => lifted os started H enc)

theorem proved : Rows.StockPlacesSaid := over
#print axioms proved
end
end Go.Proofs.Ytcaennbagdipkaa.stockPlaces
