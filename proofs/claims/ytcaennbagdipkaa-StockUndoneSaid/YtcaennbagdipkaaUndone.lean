/- StockUndone: what was reserved and released leaves the stock as it was, also for other orders. -/
import Derived.Test.YtcaennbagdipkaaLawsU
import Derived.Test.YtcaennbagdipkaaRows
import Derived.ProofKit
import Derived.OpenShut
import Derived.ShutString
import Derived.ChangeOld
import Derived.SizedLaws
namespace Go.Proofs.Ytcaennbagdipkaa.stockUndone
open Go.RowKit Go.Maps Go.Proofs.YtcaennbagdipkaaW.PrintWords P
set_option linter.unusedSimpArgs false
set_option linter.unusedVariables false

section
variable (A : Option Addr) (c0 : Nat) (l : List S29) (o q : ByteArray) (w : World) (hC : Kd.C k29 w A l.length l) (hc : l.length ≤ c0)
include hC hc
set_option maxRecDepth 100000 in
theorem walk1 (h : smallB l = false) : Calls Try.prog 6 #[.slice A l.length c0, .string o, .string q] w fun e w' => e = .returned (.bool true) ∧ Below w.heap.size w w' := by
  have hs := small_any hC hc
  rw [h] at hs
  clear h hC
  go_enter Try.func6, Try.ntmps6
  go_wp2_with (first
    | (go_at_call 9; refine hs.mono ?_; rintro e w1 ⟨rfl, hB1⟩)
    | (go_at_call 10; refine (awake_any _).mono ?_; rintro e w2 ⟨rfl, hB2⟩))
  go_ret
  exact ⟨rfl, hB1.trans (hB2.mono hB1.size)⟩

set_option maxRecDepth 100000 in
theorem walk2 (h : smallB l = true) (ho : 100 < o.size) : Calls Try.prog 6 #[.slice A l.length c0, .string o, .string q] w fun e w' => e = .returned (.bool true) ∧ Below w.heap.size w w' := by
  have hs := small_any hC hc
  rw [h] at hs
  clear h hC
  go_enter Try.func6, Try.ntmps6
  go_wp2_with (first
    | (go_at_call 9; refine hs.mono ?_; rintro e w1 ⟨rfl, hB1⟩)
    | (go_at_call 10; refine (awake_any _).mono ?_; rintro e w2 ⟨rfl, hB2⟩))
  go_ret
  exact ⟨rfl, hB1.trans (hB2.mono hB1.size)⟩

set_option maxRecDepth 100000 in
theorem walk3 (h : smallB l = true) (ho : ¬ 100 < o.size) (hq : 100 < q.size) : Calls Try.prog 6 #[.slice A l.length c0, .string o, .string q] w fun e w' => e = .returned (.bool true) ∧ Below w.heap.size w w' := by
  have hs := small_any hC hc
  rw [h] at hs
  clear h hC
  go_enter Try.func6, Try.ntmps6
  go_wp2_with (first
    | (go_at_call 9; refine hs.mono ?_; rintro e w1 ⟨rfl, hB1⟩)
    | (go_at_call 10; refine (awake_any _).mono ?_; rintro e w2 ⟨rfl, hB2⟩))
  go_ret
  exact ⟨rfl, hB1.trans (hB2.mono hB1.size)⟩

set_option maxRecDepth 100000 in
set_option maxHeartbeats 8000000 in
theorem walk4 (h : smallB l = true) (hq : ¬ 100 < q.size) : Calls Try.prog 6 #[.slice A l.length c0, .string es, .string q] w fun e w' => e = .returned (.bool true) ∧ Below w.heap.size w w' := by
  have hs := small_any hC hc
  obtain ⟨hl, hops⟩ := smallB_ops h
  have HF := Lib.hid (fine_run l (fun x hx => (hops x hx).1))
  have HO := Lib.hid hops
  rw [h] at hs
  have ho : ¬ 100 < es.size := by decide
  have HC := Lib.hid hC
  clear h hC hops 
  have hu29 := Try.underlying29
  go_enter Try.func6, Try.ntmps6
  go_wp2_with (first
    | (go_at_call 9; refine hs.mono ?_; rintro e w1 ⟨rfl, hB1⟩)
    | (go_at_call 11; refine (New_any _).mono ?_; rintro e w2 ⟨rfl, S2, B2⟩))
  generalize hm : w1.heap.size = m at S2 B2
  have HM := Lib.hid hm
  have HB1 := Lib.hid hB1
  have HB2 := Lib.hid (hB1.trans (B2.mono (by rw [← hm]; exact hB1.size)))
  have HS2 := Lib.hid S2
  clear hm hB1 B2 S2
  go_loopw [8] (fun i wr => ∃ k : Nat, k ≤ l.length ∧ i = .int .i64 k ∧ Hid (Stk wr m (runS (l.take k)).1 (runS (l.take k)).2) ∧ Hid (Turn m w2 wr)) (fun i _ => l.length - (intOf i).toNat)
  case atStart => exact ⟨0, Nat.zero_le _, rfl, by rw [List.take_zero]; exact HS2, Lib.hid (Turn.refl _ _)⟩
  case round =>
    obtain ⟨k, hk, rfl, hSr, hT⟩ := hrel
    by_cases hlt : k < l.length
    · have HBr := Lib.hid (Turn.below HB2.out hT.out (by rw [← HM.out]; exact HB1.out.size) HB2.out.size)
      obtain ⟨ad, rfl, g0, g1, g2⟩ := at_T29 (Kd.C_below HC.out HBr.out) (k : Int) (by omega) (by omega)
      rw [rd29 l k hlt, Int.toNat_natCast] at g0 g1 g2
      have hf := HF.out k hk
      have hd := Lib.hid (do_any wr m _ _ l[k] hSr.out (by have := (HO.out _ (List.getElem_mem hlt)).1; unfold maxLen; omega) (by have := hf.len; omega) hf.lo (by have := hf.hi; omega))
      have hn := Lib.hid (runS_succ l k hlt)
      clear hf
      generalize runS (List.take k l) = s at *
      generalize doS s.1 s.2 l[k] = D at *
      generalize l[k] = u at *
      go_wp2_with (go_at_call 12; refine hd.out.mono ?_; rintro e w3 ⟨v, rfl, hR, hS3, hT3⟩)
      go_roundw
      case rel => exact ⟨k + 1, by omega, by go_num, by rw [hn.out]; exact Lib.hid hS3, Lib.hid (hT.out.trans hT3)⟩
      case measure => simp [intOf]; omega
    · have hSr := Lib.hid (show Stk wr m (runS l).1 (runS l).2 by have := hSr.out; rw [show k = l.length by omega, List.take_length] at this; exact this)
      have hf := HF.out l.length (Nat.le_refl _)
      rw [List.take_length] at hf
      generalize runS l = s at *
      obtain ⟨L, c⟩ := s
      obtain ⟨f1, f2, f3, f4⟩ := hf
      simp only at f1 f2 f3 f4 hSr
      have F4 := Lib.hid f4
      clear f4
      have hge : (l.length : Int) ≤ (k : Int) := by omega
      have hL : L.length ≤ 1000 := by omega
      have S := hSr.out
      have T := hT.out
      clear hSr hT
      have z1 := S.lt
      go_wp2_with fail
      refine (Rel_any (o := es) (r := 0) (by rw [heldO_es]; rfl) (relL_es L) S hL).mono ?_
      rintro e y1 ⟨rfl, S', T'⟩
      replace T := T.trans T'
      replace S := S'
      clear S' T'
      have z2 := S.lt
      go_wp2_with fail
      refine (Rem_any (heldO_es L) (remL_es L) S hL).mono ?_
      rintro e y2 ⟨v1, rfl, R1, S', T'⟩
      replace T := T.trans T'
      replace S := S'
      clear S' T'
      obtain ⟨A1, d1, rfl⟩ := Kd.R_slice R1
      have z3 := S.lt
      go_wp2_with fail
      refine (Hel_any (heldO_es L) S hL).mono ?_
      rintro e y3 ⟨v2, rfl, R2, B⟩
      replace T := T.of_below B
      replace S := S.below B
      clear B
      obtain ⟨A2, d2, rfl⟩ := Kd.R_slice R2
      go_wp2_with (go_at_call 10; refine (awake_any _).mono ?_; rintro e wq ⟨rfl, B⟩)
      replace T := T.of_below B
      go_ret
      exact ⟨rfl, Turn.below HB2.out T (by rw [← HM.out]; exact HB1.out.size) HB2.out.size⟩

set_option maxRecDepth 100000 in
set_option maxHeartbeats 8000000 in
theorem walk5 (h : smallB l = true) (ho : ¬ 100 < o.size) (hoe : o ≠ es) : Calls Try.prog 6 #[.slice A l.length c0, .string o, .string o] w fun e w' => e = .returned (.bool true) ∧ Below w.heap.size w w' := by
  have hs := small_any hC hc
  obtain ⟨hl, hops⟩ := smallB_ops h
  have HF := Lib.hid (fine_run l (fun x hx => (hops x hx).1))
  have HO := Lib.hid hops
  rw [h] at hs
  have he : (o.toList == o.toList) = true := by rw [str_eq]; simp
  have hie := nonempty_of hoe
  have HC := Lib.hid hC
  clear h hC hops hoe
  have hu29 := Try.underlying29
  go_enter Try.func6, Try.ntmps6
  go_wp2_with (first
    | (go_at_call 9; refine hs.mono ?_; rintro e w1 ⟨rfl, hB1⟩)
    | (go_at_call 11; refine (New_any _).mono ?_; rintro e w2 ⟨rfl, S2, B2⟩))
  generalize hm : w1.heap.size = m at S2 B2
  have HM := Lib.hid hm
  have HB1 := Lib.hid hB1
  have HB2 := Lib.hid (hB1.trans (B2.mono (by rw [← hm]; exact hB1.size)))
  have HS2 := Lib.hid S2
  clear hm hB1 B2 S2
  go_loopw [8] (fun i wr => ∃ k : Nat, k ≤ l.length ∧ i = .int .i64 k ∧ Hid (Stk wr m (runS (l.take k)).1 (runS (l.take k)).2) ∧ Hid (Turn m w2 wr)) (fun i _ => l.length - (intOf i).toNat)
  case atStart => exact ⟨0, Nat.zero_le _, rfl, by rw [List.take_zero]; exact HS2, Lib.hid (Turn.refl _ _)⟩
  case round =>
    obtain ⟨k, hk, rfl, hSr, hT⟩ := hrel
    by_cases hlt : k < l.length
    · have HBr := Lib.hid (Turn.below HB2.out hT.out (by rw [← HM.out]; exact HB1.out.size) HB2.out.size)
      obtain ⟨ad, rfl, g0, g1, g2⟩ := at_T29 (Kd.C_below HC.out HBr.out) (k : Int) (by omega) (by omega)
      rw [rd29 l k hlt, Int.toNat_natCast] at g0 g1 g2
      have hf := HF.out k hk
      have hd := Lib.hid (do_any wr m _ _ l[k] hSr.out (by have := (HO.out _ (List.getElem_mem hlt)).1; unfold maxLen; omega) (by have := hf.len; omega) hf.lo (by have := hf.hi; omega))
      have hn := Lib.hid (runS_succ l k hlt)
      clear hf
      generalize runS (List.take k l) = s at *
      generalize doS s.1 s.2 l[k] = D at *
      generalize l[k] = u at *
      go_wp2_with (go_at_call 12; refine hd.out.mono ?_; rintro e w3 ⟨v, rfl, hR, hS3, hT3⟩)
      go_roundw
      case rel => exact ⟨k + 1, by omega, by go_num, by rw [hn.out]; exact Lib.hid hS3, Lib.hid (hT.out.trans hT3)⟩
      case measure => simp [intOf]; omega
    · have hSr := Lib.hid (show Stk wr m (runS l).1 (runS l).2 by have := hSr.out; rw [show k = l.length by omega, List.take_length] at this; exact this)
      have hf := HF.out l.length (Nat.le_refl _)
      rw [List.take_length] at hf
      generalize runS l = s at *
      obtain ⟨L, c⟩ := s
      obtain ⟨f1, f2, f3, f4⟩ := hf
      simp only at f1 f2 f3 f4 hSr
      have F4 := Lib.hid f4
      clear f4
      have hge : (l.length : Int) ≤ (k : Int) := by omega
      have hL : L.length ≤ 1000 := by omega
      have S := hSr.out
      have T := hT.out
      clear hSr hT
      have z1 := S.lt
      go_wp2_with fail
      refine (Rel_any (o := es) (r := 0) (by rw [heldO_es]; rfl) (relL_es L) S hL).mono ?_
      rintro e y1 ⟨rfl, S', T'⟩
      replace T := T.trans T'
      replace S := S'
      clear S' T'
      have z2 := S.lt
      go_wp2_with fail
      refine (Rem_any (heldO_es L) (remL_es L) S hL).mono ?_
      rintro e y2 ⟨v1, rfl, R1, S', T'⟩
      replace T := T.trans T'
      replace S := S'
      clear S' T'
      obtain ⟨A1, d1, rfl⟩ := Kd.R_slice R1
      have z3 := S.lt
      go_wp2_with fail
      refine (Hel_any (heldO_es L) S hL).mono ?_
      rintro e y3 ⟨v2, rfl, R2, B⟩
      replace T := T.of_below B
      replace S := S.below B
      clear B
      obtain ⟨A2, d2, rfl⟩ := Kd.R_slice R2
      go_wp2_with (go_at_call 10; refine (awake_any _).mono ?_; rintro e wq ⟨rfl, B⟩)
      replace T := T.of_below B
      go_ret
      exact ⟨rfl, Turn.below HB2.out T (by rw [← HM.out]; exact HB1.out.size) HB2.out.size⟩

set_option maxRecDepth 100000 in
set_option maxHeartbeats 8000000 in
theorem walk6 (h : smallB l = true) (ho : ¬ 100 < o.size) (hq : ¬ 100 < q.size) (hoe : o ≠ es) (hoq : o ≠ q) : Calls Try.prog 6 #[.slice A l.length c0, .string o, .string q] w fun e w' => e = .returned (.bool true) ∧ Below w.heap.size w w' := by
  have hs := small_any hC hc
  obtain ⟨hl, hops⟩ := smallB_ops h
  have HF := Lib.hid (fine_run l (fun x hx => (hops x hx).1))
  have HO := Lib.hid hops
  rw [h] at hs
  have he : (o.toList == q.toList) = false := by rw [str_eq]; simpa using hoq
  have hie := nonempty_of hoe
  have HQ := Lib.hid hoq
  have HE := Lib.hid hoe
  have HC := Lib.hid hC
  clear h hC hops hoe hoq
  have hu29 := Try.underlying29
  go_enter Try.func6, Try.ntmps6
  go_wp2_with (first
    | (go_at_call 9; refine hs.mono ?_; rintro e w1 ⟨rfl, hB1⟩)
    | (go_at_call 11; refine (New_any _).mono ?_; rintro e w2 ⟨rfl, S2, B2⟩))
  generalize hm : w1.heap.size = m at S2 B2
  have HM := Lib.hid hm
  have HB1 := Lib.hid hB1
  have HB2 := Lib.hid (hB1.trans (B2.mono (by rw [← hm]; exact hB1.size)))
  have HS2 := Lib.hid S2
  clear hm hB1 B2 S2
  go_loopw [8] (fun i wr => ∃ k : Nat, k ≤ l.length ∧ i = .int .i64 k ∧ Hid (Stk wr m (runS (l.take k)).1 (runS (l.take k)).2) ∧ Hid (Turn m w2 wr)) (fun i _ => l.length - (intOf i).toNat)
  case atStart => exact ⟨0, Nat.zero_le _, rfl, by rw [List.take_zero]; exact HS2, Lib.hid (Turn.refl _ _)⟩
  case round =>
    obtain ⟨k, hk, rfl, hSr, hT⟩ := hrel
    by_cases hlt : k < l.length
    · have HBr := Lib.hid (Turn.below HB2.out hT.out (by rw [← HM.out]; exact HB1.out.size) HB2.out.size)
      obtain ⟨ad, rfl, g0, g1, g2⟩ := at_T29 (Kd.C_below HC.out HBr.out) (k : Int) (by omega) (by omega)
      rw [rd29 l k hlt, Int.toNat_natCast] at g0 g1 g2
      have hf := HF.out k hk
      have hd := Lib.hid (do_any wr m _ _ l[k] hSr.out (by have := (HO.out _ (List.getElem_mem hlt)).1; unfold maxLen; omega) (by have := hf.len; omega) hf.lo (by have := hf.hi; omega))
      have hn := Lib.hid (runS_succ l k hlt)
      clear hf
      generalize runS (List.take k l) = s at *
      generalize doS s.1 s.2 l[k] = D at *
      generalize l[k] = u at *
      go_wp2_with (go_at_call 12; refine hd.out.mono ?_; rintro e w3 ⟨v, rfl, hR, hS3, hT3⟩)
      go_roundw
      case rel => exact ⟨k + 1, by omega, by go_num, by rw [hn.out]; exact Lib.hid hS3, Lib.hid (hT.out.trans hT3)⟩
      case measure => simp [intOf]; omega
    · have hSr := Lib.hid (show Stk wr m (runS l).1 (runS l).2 by have := hSr.out; rw [show k = l.length by omega, List.take_length] at this; exact this)
      have hf := HF.out l.length (Nat.le_refl _)
      rw [List.take_length] at hf
      generalize runS l = s at *
      obtain ⟨L, c⟩ := s
      obtain ⟨f1, f2, f3, f4⟩ := hf
      simp only at f1 f2 f3 f4 hSr
      have F4 := Lib.hid f4
      clear f4
      have hge : (l.length : Int) ≤ (k : Int) := by omega
      have hL : L.length ≤ 1000 := by omega
      have S := hSr.out
      have T := hT.out
      clear hSr hT
      have hNo := Lib.hid (relL_no (L := L) HE.out)
      have hl1 := relL_length L o
      have F4' := Lib.hid (show ∀ e ∈ relL L o, e.item ≠ es ∧ e.item.size ≤ 100 from fun e he => by obtain ⟨x, hx, hxe⟩ := relL_items he; rw [← hxe]; exact F4.out x hx)
      have z1 := S.lt
      go_wp2_with fail
      refine (Rel_any (o := o) rfl rfl S hL).mono ?_
      rintro e y1 ⟨rfl, S', T'⟩
      replace T := T.trans T'
      replace S := S'
      clear S' T'
      generalize relL L o = L1 at *
      have hL1 : L1.length ≤ 1000 := by omega
      have hA := Lib.hid S.good.apart
      have hq1 := held_length L1 es
      have hq2 := heldO_length L1 q
      have hnd := Lib.hid (free_nodup hA.out es)
      have z2 := S.lt
      go_wp2_with fail
      refine (Fre_any (xs := held L1 es) rfl S hL1).mono ?_
      rintro e y2 ⟨v1, rfl, R1, B⟩
      replace T := T.of_below B
      replace S := S.below B
      clear B
      obtain ⟨A1, d1, rfl⟩ := Kd.R_slice R1
      have z3 := S.lt
      go_wp2_with fail
      refine (Hel_any (o := q) (xs := heldO L1 q) rfl S hL1).mono ?_
      rintro e y3 ⟨v2, rfl, R2, B⟩
      replace T := T.of_below B
      replace S := S.below B
      replace R1 := Kd.R_below R1 B
      clear B
      obtain ⟨A2, d2, rfl⟩ := Kd.R_slice R2
      go_wp2_with fail
      go_loopw [11, 12] (fun n i wr => ∃ (k : Nat) (Lk : List Ent), 2 * k ≤ (held L1 es).length + 1 ∧ n = .int .i64 k ∧ i = .int .i64 ((2 * k : Nat) : Int) ∧ Hid (Taken L1 o (evens (held L1 es) k) Lk) ∧ Hid (Stk wr m Lk c) ∧ Hid (Turn m y3 wr)) (fun _ i _ => (held L1 es).length + 2 - (intOf i).toNat)
      case atStart => exact ⟨0, L1, by omega, rfl, rfl, Lib.hid (Taken.start (held_no hNo.out)), Lib.hid S, Lib.hid (Turn.refl _ _)⟩
      case round =>
        obtain ⟨i, Lk, hi, rfl, rfl, hTk, hSr, hTr⟩ := hrel
        have R1' := Lib.hid (R_turn R1 (by omega) hTr.out)
        have hlk : Lk.length = L1.length := by have := congrArg List.length hTk.out.eq; rw [setMany_length] at this; exact this
        by_cases hit : 2 * i < (held L1 es).length
        · obtain ⟨g, hA1, hg1, hg2, _, hcell⟩ := strs_at R1'.out (2 * i) hit
          subst hA1
          have hxm := List.getElem_mem hit
          obtain ⟨e0, he0, hx0, _⟩ := mem_held hxm
          obtain ⟨hxe, hxs⟩ := F4'.out e0 he0
          rw [hx0] at hxs
          obtain ⟨L', r1, r2, hTk'⟩ := hTk.out.step hA.out HE.out hxm (evens_not hnd.out i hit) (q ++ ⟨#[120]⟩) (append_x_ne q)
          rw [← evens_succ _ i hit] at hTk'
          have HTk := Lib.hid hTk'
          have hxk : (held L1 es)[2 * i].size ≤ maxLen := by unfold maxLen; omega
          have hl' : L'.length ≤ 1000 := by have := congrArg List.length hTk'.eq; rw [setMany_length] at this; omega
          clear hTk' hxm hx0 he0 hxe
          generalize (held L1 es)[2 * i] = x at *
          go_wp2_with fail
          refine (Res_any r1 hSr.out hxk (by omega)).mono ?_
          rintro e wl ⟨rfl, S2, T2⟩
          have hcell2 := (T2.cell (p := ⟨g, 2 * i, none⟩) hg2 (by show g ≠ m; omega) (by show g ≠ m + 1; omega)).trans hcell
          go_wp2_with fail
          refine (Res_any r2 S2 hxk hl').mono ?_
          rintro e wm ⟨rfl, S3, T3⟩
          go_wp2
          go_roundw
          case rel => exact ⟨i + 1, _, by omega, by go_num, by go_num, HTk, Lib.hid S3, Lib.hid ((hTr.out.trans T2).trans T3)⟩
          case measure => simp [intOf]; omega
        · have hnn : ((heldO Lk o).length : Int) = (i : Int) := by rw [heldO_of HE.out, hTk.out.nums, evens_length]
          have hff : ((held Lk es).length : Int) = ((held L1 es).length : Int) - (i : Int) := by have := hTk.out.free; rw [evens_length] at this; omega
          have hge2 : ((held L1 es).length : Int) ≤ ((2 * i : Nat) : Int) := by omega
          have hoth := Lib.hid (hTk.out.other hA.out HQ.out)
          have hback := Lib.hid (hTk.out.back hA.out HE.out hNo.out)
          have hL2 : Lk.length ≤ 1000 := by omega
          replace R1 := R_turn R1 (by omega) hTr.out
          replace R2 := R_turn R2 (by omega) hTr.out
          replace S := hSr.out
          replace T := T.trans hTr.out
          clear hSr hTr hTk
          have z4 := S.lt
          go_wp2_with fail
          refine (Hel_any (o := o) (xs := heldO Lk o) rfl S hL2).mono ?_
          rintro e y4 ⟨v3, rfl, R3, B⟩
          replace T := T.of_below B
          replace S := S.below B
          replace R1 := Kd.R_below R1 B
          replace R2 := Kd.R_below R2 B
          clear B
          obtain ⟨A3, d3, rfl⟩ := Kd.R_slice R3
          clear R3
          have z5 := S.lt
          go_wp2_with fail
          refine (Fre_any (xs := held Lk es) rfl S hL2).mono ?_
          rintro e y5 ⟨v4, rfl, R4, B⟩
          replace T := T.of_below B
          replace S := S.below B
          replace R1 := Kd.R_below R1 B
          replace R2 := Kd.R_below R2 B
          clear B
          obtain ⟨A4, d4, rfl⟩ := Kd.R_slice R4
          clear R4
          have z6 := S.lt
          go_wp2_with fail
          refine (Hel_any (o := q) (xs := heldO L1 q) hoth.out S hL2).mono ?_
          rintro e y6 ⟨v5, rfl, R5, B⟩
          replace T := T.of_below B
          replace S := S.below B
          replace R1 := Kd.R_below R1 B
          replace R2 := Kd.R_below R2 B
          clear B
          obtain ⟨A5, d5, rfl⟩ := Kd.R_slice R5
          have z7 := S.lt
          go_wp2_with fail
          refine (Same_any (xs := heldO L1 q) (ys := heldO L1 q) (r := true) (by simp) (Kd.R_reads' R5).2.2 (Kd.R_reads' R5).2.1 (Kd.R_reads' R2).2.2 (Kd.R_reads' R2).2.1 (by omega)).mono ?_
          rintro e y7 ⟨rfl, B⟩
          replace T := T.of_below B
          replace S := S.below B
          replace R1 := Kd.R_below R1 B
          replace R2 := Kd.R_below R2 B
          clear B
          clear R5
          have z8 := S.lt
          go_wp2_with fail
          refine (Rel_any (o := o) (r := (i : Int)) hnn hback.out S hL2).mono ?_
          rintro e y8 ⟨rfl, S', T'⟩
          replace T := T.trans T'
          replace R1 := R_turn R1 (by omega) T'
          replace R2 := R_turn R2 (by omega) T'
          replace S := S'
          clear S' T'
          have z9 := S.lt
          go_wp2_with fail
          refine (Fre_any (xs := held L1 es) rfl S hL1).mono ?_
          rintro e y9 ⟨v6, rfl, R6, B⟩
          replace T := T.of_below B
          replace S := S.below B
          replace R1 := Kd.R_below R1 B
          replace R2 := Kd.R_below R2 B
          clear B
          obtain ⟨A6, d6, rfl⟩ := Kd.R_slice R6
          have z10 := S.lt
          go_wp2_with fail
          refine (Same_any (xs := held L1 es) (ys := held L1 es) (r := true) (by simp) (Kd.R_reads' R6).2.2 (Kd.R_reads' R6).2.1 (Kd.R_reads' R1).2.2 (Kd.R_reads' R1).2.1 (by omega)).mono ?_
          rintro e y10 ⟨rfl, B⟩
          replace T := T.of_below B
          replace S := S.below B
          replace R2 := Kd.R_below R2 B
          clear B
          clear R6 R1
          have z11 := S.lt
          go_wp2_with fail
          refine (Hel_any (o := o) (xs := []) (by rw [heldO_of HE.out]; exact held_no hNo.out) S hL1).mono ?_
          rintro e y11 ⟨v7, rfl, R7, B⟩
          replace T := T.of_below B
          replace S := S.below B
          replace R2 := Kd.R_below R2 B
          clear B
          obtain ⟨A7, d7, rfl⟩ := Kd.R_slice R7
          clear R7
          have z12 := S.lt
          go_wp2_with fail
          refine (Hel_any (o := q) (xs := heldO L1 q) rfl S hL1).mono ?_
          rintro e y12 ⟨v8, rfl, R8, B⟩
          replace T := T.of_below B
          replace S := S.below B
          replace R2 := Kd.R_below R2 B
          clear B
          obtain ⟨A8, d8, rfl⟩ := Kd.R_slice R8
          have z13 := S.lt
          go_wp2_with fail
          refine (Same_any (xs := heldO L1 q) (ys := heldO L1 q) (r := true) (by simp) (Kd.R_reads' R8).2.2 (Kd.R_reads' R8).2.1 (Kd.R_reads' R2).2.2 (Kd.R_reads' R2).2.1 (by omega)).mono ?_
          rintro e y13 ⟨rfl, B⟩
          replace T := T.of_below B
          replace S := S.below B
          clear B
          go_wp2_with (go_at_call 10; refine (awake_any _).mono ?_; rintro e wq ⟨rfl, B⟩)
          replace T := T.of_below B
          go_ret
          exact ⟨rfl, Turn.below HB2.out T (by rw [← HM.out]; exact HB1.out.size) HB2.out.size⟩

theorem walk : Calls Try.prog 6 #[.slice A l.length c0, .string o, .string q] w fun e w' => e = .returned (.bool true) ∧ Below w.heap.size w w' := by
  cases h : smallB l with
  | false => exact walk1 A c0 l o q w hC hc h
  | true =>
    by_cases ho : 100 < o.size
    · exact walk2 A c0 l o q w hC hc h ho
    · by_cases hq : 100 < q.size
      · exact walk3 A c0 l o q w hC hc h ho hq
      · by_cases hoe : o = es
        · subst hoe
          exact walk4 A c0 l q w hC hc h hq
        · by_cases hoq : o = q
          · subst hoq
            exact walk5 A c0 l o w hC hc h ho hoe
          · exact walk6 A c0 l o q w hC hc h ho hq hoe hoq
end

section
open Go.ChangeShapes Go.WideShapes Go.ChangeAt Go.RowKit Go.Joins
open Go.ChangeMaps (open_string shut_string)
theorem own : ownKnob Try.prog.godebug = none := by kernel_rfl
theorem laidOut : laidOutB Try.prog = true := by kernel_rfl

set_option maxRecDepth 100000 in
theorem lifted (os : Os) (started : os.Started) (H : Type) (enc : TypeId × Value → H) :
    ReturnsInHanded {} Try.checked os 6 .any (Rows.stockUndoneSpec.pre6 enc Try.prog Try.f6 Rows.stockUndoneRow.domain false) (Rows.stockUndoneSpec.post enc Try.prog Try.f6 false true false false) := by
  refine returnsInHanded_of_change_sized (C := Try.checked) own started (by kernel_rfl) Try.func6
    (ChangeSpec.witness6 (enc := enc) (C := Try.checked) false ⟨#[], #[.slice none 0 0, .string ByteArray.empty, .string ByteArray.empty], []⟩ 8 (by kernel_rfl) (by kernel_rfl) (by kernel_rfl) (by kernel_rfl)) ?_
  intro W base args ds gs before hval0 hW hcnd hsz0 _
  have hval : ∀ (j : Nat) t v, Try.f6.params[j]? = some t → args[j]? = some v → Value.okWide Try.prog W .any base t v := hval0
  have hW' := hW
  obtain ⟨p, q, hA0, hV, rfl, hfz, hnd⟩ := hW
  have hA : DataW.TrodAll enc Try.prog W 0 (fun _ => true) true Try.f6.params.toList args.toList ds p := hA0
  rw [Try.params6] at hA hval
  obtain ⟨v0, vs0, d0, ds0, p0, q0, hargs, rfl, rfl, h0, r0⟩ := trodAll_cons hA
  obtain ⟨v1, vs1, d1, ds1, p1, q1, rfl, rfl, rfl, h1, r1⟩ := trodAll_cons r0
  obtain ⟨v2, vs2, d2, ds2, p2, q2, rfl, rfl, rfl, h2, r2⟩ := trodAll_cons r1
  obtain ⟨rfl, rfl, rfl⟩ := trodAll_nil r2
  obtain rfl : args = #[v0, v1, v2] := by cases args; simp_all
  obtain ⟨rfl, rfl⟩ := trodVars_none hV
  have k0 := h0
  have k1 := h1
  have k2 := h2
  have lt0 : ∀ x ∈ p0, x.block < W.heap.size := by obtain ⟨m, hm⟩ := k0; exact DataW.trod_lt m _ _ _ hm
  have lt1 : ∀ x ∈ p1, x.block < W.heap.size := by obtain ⟨m, hm⟩ := k1; exact DataW.trod_lt m _ _ _ hm
  have lt2 : ∀ x ∈ p2, x.block < W.heap.size := by obtain ⟨m, hm⟩ := k2; exact DataW.trod_lt m _ _ _ hm
  obtain ⟨A, c, l, rfl, hC, hc⟩ := ops_of (hval 0 22 v0 rfl rfl) h0
  obtain ⟨s1, rfl, _, _, b1⟩ := open_string Try.underlying9 (hval 1 9 v1 rfl rfl) h1
  obtain ⟨s2, rfl, _, _, b2⟩ := open_string Try.underlying9 (hval 2 9 v2 rfl rfl) h2
  clear hA0 hval0 hsz0
  refine (walk A c l s1 s2 W hC hc).mono fun e W' ⟨he, bel⟩ => ?_
  subst he
  exact ⟨_, rfl, _, _, _, [], _, [], hW', trodAll_mk1 (shut_bool Try.underlying4 _), (trodAll_cons_mk (Below.trod laidOut (by kernel_rfl) (of_decide_eq_true (by kernel_rfl)) k0 bel lt0) (trodAll_cons_mk (Below.trod laidOut (by kernel_rfl) (of_decide_eq_true (by kernel_rfl)) k1 bel lt1) (trodAll_cons_mk (Below.trod laidOut (by kernel_rfl) (of_decide_eq_true (by kernel_rfl)) k2 bel lt2) trodAll_mk0))), rfl, bel.frame _, fun h => by cases h⟩

theorem over : Rows.stockUndoneRow.holds Try.pinned (OpenSpec.ofChange Rows.stockUndoneSpec) :=
  OpenClaim.holds_of_wide 6 Try.f6 rfl rfl rfl rfl rfl rfl rfl ⟨rfl, rfl, rfl, rfl, rfl⟩ rfl rfl rfl rfl rfl (by kernel_rfl) Try.func6 (by kernel_rfl)
    (of_decide_eq_true (by kernel_rfl)) (by unfold Func.isWrapper; first | (rw [if_pos (by decide +kernel)]; kernel_rfl) | (rw [if_neg (by decide +kernel)]; exact ⟨rfl, rfl⟩))
    (fun os started H enc _ => lifted os started H enc)

theorem proved : Rows.StockUndoneSaid := over
#print axioms proved
end
end Go.Proofs.Ytcaennbagdipkaa.stockUndone
