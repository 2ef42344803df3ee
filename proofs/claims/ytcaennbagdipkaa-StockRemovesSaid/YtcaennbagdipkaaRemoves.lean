/- StockRemoves. -/
import Derived.Test.YtcaennbagdipkaaLaws
import Derived.Test.YtcaennbagdipkaaRows
import Derived.ProofKit
import Derived.OpenShut
import Derived.ShutString
import Derived.ChangeOld
import Derived.SizedLaws
namespace Go.Proofs.Ytcaennbagdipkaa.stockRemoves
open Go.RowKit Go.Maps Go.Proofs.YtcaennbagdipkaaW.PrintWords P
set_option linter.unusedSimpArgs false
set_option linter.unusedVariables false

section
variable (A : Option Addr) (c0 : Nat) (l : List S29) (o q : ByteArray) (w : World) (hC : Kd.C k29 w A l.length l) (hc : l.length ≤ c0)
include hC hc
set_option maxRecDepth 100000 in
theorem walk1 (h : smallB l = false) : Calls Try.prog 7 #[.slice A l.length c0, .string o, .string q] w fun e w' => e = .returned (.bool true) ∧ Below w.heap.size w w' := by
  have hs := small_any hC hc
  rw [h] at hs
  clear h hC
  go_enter Try.func7, Try.ntmps7
  go_wp2_with (first
    | (go_at_call 9; refine hs.mono ?_; rintro e w1 ⟨rfl, hB1⟩)
    | (go_at_call 10; refine (awake_any _).mono ?_; rintro e w2 ⟨rfl, hB2⟩))
  go_ret
  exact ⟨rfl, hB1.trans (hB2.mono hB1.size)⟩

set_option maxRecDepth 100000 in
theorem walk2 (h : smallB l = true) (ho : 100 < o.size) : Calls Try.prog 7 #[.slice A l.length c0, .string o, .string q] w fun e w' => e = .returned (.bool true) ∧ Below w.heap.size w w' := by
  have hs := small_any hC hc
  rw [h] at hs
  clear h hC
  go_enter Try.func7, Try.ntmps7
  go_wp2_with (first
    | (go_at_call 9; refine hs.mono ?_; rintro e w1 ⟨rfl, hB1⟩)
    | (go_at_call 10; refine (awake_any _).mono ?_; rintro e w2 ⟨rfl, hB2⟩))
  go_ret
  exact ⟨rfl, hB1.trans (hB2.mono hB1.size)⟩

set_option maxRecDepth 100000 in
theorem walk3 (h : smallB l = true) (ho : ¬ 100 < o.size) (hq : 100 < q.size) : Calls Try.prog 7 #[.slice A l.length c0, .string o, .string q] w fun e w' => e = .returned (.bool true) ∧ Below w.heap.size w w' := by
  have hs := small_any hC hc
  rw [h] at hs
  clear h hC
  go_enter Try.func7, Try.ntmps7
  go_wp2_with (first
    | (go_at_call 9; refine hs.mono ?_; rintro e w1 ⟨rfl, hB1⟩)
    | (go_at_call 10; refine (awake_any _).mono ?_; rintro e w2 ⟨rfl, hB2⟩))
  go_ret
  exact ⟨rfl, hB1.trans (hB2.mono hB1.size)⟩

set_option maxRecDepth 100000 in
theorem walk4 (h : smallB l = true) (ho : ¬ 100 < o.size) (hq : ¬ 100 < q.size) (hoq : o = q) : Calls Try.prog 7 #[.slice A l.length c0, .string o, .string q] w fun e w' => e = .returned (.bool true) ∧ Below w.heap.size w w' := by
  have hs := small_any hC hc
  rw [h] at hs
  have he : (o.toList == q.toList) = true := by rw [str_eq]; simpa using hoq
  clear h hC hoq
  go_enter Try.func7, Try.ntmps7
  go_wp2_with (first
    | (go_at_call 9; refine hs.mono ?_; rintro e w1 ⟨rfl, hB1⟩)
    | (go_at_call 10; refine (awake_any _).mono ?_; rintro e w2 ⟨rfl, hB2⟩))
  go_ret
  exact ⟨rfl, hB1.trans (hB2.mono hB1.size)⟩

set_option maxRecDepth 100000 in
set_option maxHeartbeats 4000000 in
theorem walk5 (h : smallB l = true) (ho : ¬ 100 < o.size) (hq : ¬ 100 < q.size) (hoq : o ≠ q) : Calls Try.prog 7 #[.slice A l.length c0, .string o, .string q] w fun e w' => e = .returned (.bool true) ∧ Below w.heap.size w w' := by
  have hs := small_any hC hc
  obtain ⟨hl, hops⟩ := smallB_ops h
  have HF := Lib.hid (fine_run l (fun x hx => (hops x hx).1))
  have HO := Lib.hid hops
  rw [h] at hs
  have he : (o.toList == q.toList) = false := by rw [str_eq]; simpa using hoq
  have HQ := Lib.hid hoq
  have HC := Lib.hid hC
  clear h hC hoq hops
  have hu29 := Try.underlying29
  go_enter Try.func7, Try.ntmps7
  go_wp2_with (first
    | (go_at_call 9; refine hs.mono ?_; rintro e w1 ⟨rfl, hB1⟩)
    | (go_at_call 11; refine (New_any _).mono ?_; rintro e w2 ⟨rfl, S2, B2⟩))
  generalize hm : w1.heap.size = m at S2 B2
  have HM := Lib.hid hm
  have HB1 := Lib.hid hB1
  have HB2 := Lib.hid (hB1.trans (B2.mono (by rw [← hm]; exact hB1.size)))
  have HS2 := Lib.hid S2
  clear hm hB1 B2 S2
  go_loopw [8] (fun i wr => ∃ k : Nat, k ≤ l.length ∧ i = .int .i64 k ∧ Hid (Stk wr m (runS (l.take k)).1 (runS (l.take k)).2) ∧ Hid (Turn m w2 wr)) (fun i _ => l.length - (intOf i).toNat)
  case atStart => exact ⟨0, Nat.zero_le _, rfl, by rw [List.take_zero]; exact HS2, Lib.hid (Turn.refl _ _)⟩
  case round =>
    obtain ⟨k, hk, rfl, hSr, hT⟩ := hrel
    by_cases hlt : k < l.length
    · have HBr := Lib.hid (Turn.below HB2.out hT.out (by rw [← HM.out]; exact HB1.out.size) HB2.out.size)
      obtain ⟨ad, rfl, g0, g1, g2⟩ := at_T29 (Kd.C_below HC.out HBr.out) (k : Int) (by omega) (by omega)
      rw [rd29 l k hlt, Int.toNat_natCast] at g0 g1 g2
      have hf := HF.out k hk
      have hd := Lib.hid (do_any wr m _ _ l[k] hSr.out (by have := (HO.out _ (List.getElem_mem hlt)).1; unfold maxLen; omega) (by have := hf.len; omega) hf.lo (by have := hf.hi; omega))
      have hn := Lib.hid (runS_succ l k hlt)
      clear hf
      generalize runS (List.take k l) = s at *
      generalize doS s.1 s.2 l[k] = D at *
      generalize l[k] = u at *
      go_wp2_with (go_at_call 12; refine hd.out.mono ?_; rintro e w3 ⟨v, rfl, hR, hS3, hT3⟩)
      go_roundw
      case rel => exact ⟨k + 1, by omega, by go_num, by rw [hn.out]; exact Lib.hid hS3, Lib.hid (hT.out.trans hT3)⟩
      case measure => simp [intOf]; omega
    · have hSr := Lib.hid (show Stk wr m (runS l).1 (runS l).2 by have := hSr.out; rw [show k = l.length by omega, List.take_length] at this; exact this)
      have hf := HF.out l.length (Nat.le_refl _)
      rw [List.take_length] at hf
      generalize runS l = s at *
      obtain ⟨L, c⟩ := s
      obtain ⟨f1, f2, f3, f4⟩ := hf
      simp only at f1 f2 f3 f4 hSr
      have f4 := Lib.hid f4
      have hge : (l.length : Int) ≤ (k : Int) := by omega
      have hL : L.length ≤ 1000 := by omega
      have hLr := remL_length L o
      have hlm := hSr.out.lt
      have S := hSr.out
      have T := hT.out
      clear hSr hT
      go_wp2_with fail
      refine (Hel_any (o := o) rfl S hL).mono ?_
      rintro e wb ⟨v1, rfl, R1, B⟩
      replace T := T.of_below B
      replace S := S.below B
      have z1 := S.lt
      go_wp2_with fail
      refine (Hel_any (o := q) rfl S hL).mono ?_
      rintro e wc ⟨v2, rfl, R2, B⟩
      replace T := T.of_below B
      replace S := S.below B
      replace R1 := Kd.R_below R1 B
      have z3 := S.lt
      go_wp2_with fail
      refine (Fre_any rfl S hL).mono ?_
      rintro e wd ⟨v3, rfl, R3, B⟩
      replace T := T.of_below B
      replace S := S.below B
      replace R1 := Kd.R_below R1 B
      replace R2 := Kd.R_below R2 B
      go_wp2_with fail
      refine (Rem_any (o := o) rfl rfl S hL).mono ?_
      rintro e we ⟨v4, rfl, R4, S', T'⟩
      have hA := Lib.hid S.good.apart
      have hB4 := T'.size
      have z2 := S.lt
      replace T := T.trans T'
      replace R1 := R_turn R1 (by omega) T'
      replace R2 := R_turn R2 (by omega) T'
      replace R3 := R_turn R3 (by omega) T'
      replace S := S'
      clear S' T'
      obtain ⟨A1, d1, rfl⟩ := Kd.R_slice R1
      obtain ⟨A2, d2, rfl⟩ := Kd.R_slice R2
      obtain ⟨A3, d3, rfl⟩ := Kd.R_slice R3
      obtain ⟨A4, d4, rfl⟩ := Kd.R_slice R4
      have hq1 := heldO_length L o
      have hq2 := heldO_length L q
      have hq3 := held_length L es
      have hlen1 : (heldO L o).length ≤ 1000 := by omega
      have hlen2 : (heldO L q).length ≤ 1000 := by omega
      have hlen3 : (held L es).length ≤ 1000 := by omega
      go_wp2_with fail
      refine (Same_any (xs := heldO L o) (ys := heldO L o) (r := true) (by simp) (Kd.R_reads' R4).2.2 (Kd.R_reads' R4).2.1 (Kd.R_reads' R1).2.2 (Kd.R_reads' R1).2.1 hlen1).mono ?_
      rintro e wf ⟨rfl, B⟩
      replace T := T.of_below B
      replace S := S.below B
      replace R2 := Kd.R_below R2 B
      replace R3 := Kd.R_below R3 B
      replace R4 := Kd.R_below R4 B
      clear R1
      go_wp2_with fail
      refine (Hel_any (heldO_remL_self L o) S (by omega)).mono ?_
      rintro e wg ⟨v5, rfl, R5, B⟩
      replace T := T.of_below B
      replace S := S.below B
      replace R2 := Kd.R_below R2 B
      replace R3 := Kd.R_below R3 B
      replace R4 := Kd.R_below R4 B
      obtain ⟨A5, d5, rfl⟩ := Kd.R_slice R5
      clear R5
      go_wp2_with fail
      refine (Hel_any (heldO_remL_other L HQ.out) S (by omega)).mono ?_
      rintro e wh ⟨v6, rfl, R6, B⟩
      replace T := T.of_below B
      replace S := S.below B
      replace R2 := Kd.R_below R2 B
      replace R3 := Kd.R_below R3 B
      replace R4 := Kd.R_below R4 B
      obtain ⟨A6, d6, rfl⟩ := Kd.R_slice R6
      go_wp2_with fail
      refine (Same_any (xs := heldO L q) (ys := heldO L q) (r := true) (by simp) (Kd.R_reads' R6).2.2 (Kd.R_reads' R6).2.1 (Kd.R_reads' R2).2.2 (Kd.R_reads' R2).2.1 hlen2).mono ?_
      rintro e wi ⟨rfl, B⟩
      replace T := T.of_below B
      replace S := S.below B
      replace R3 := Kd.R_below R3 B
      replace R4 := Kd.R_below R4 B
      clear R6 R2
      go_wp2_with fail
      refine (Fre_any (free_remL L o) S (by omega)).mono ?_
      rintro e wj ⟨v7, rfl, R7, B⟩
      replace T := T.of_below B
      replace S := S.below B
      replace R3 := Kd.R_below R3 B
      replace R4 := Kd.R_below R4 B
      obtain ⟨A7, d7, rfl⟩ := Kd.R_slice R7
      go_wp2_with fail
      refine (Same_any (xs := held L es) (ys := held L es) (r := true) (by simp) (Kd.R_reads' R7).2.2 (Kd.R_reads' R7).2.1 (Kd.R_reads' R3).2.2 (Kd.R_reads' R3).2.1 hlen3).mono ?_
      rintro e wk ⟨rfl, B⟩
      replace T := T.of_below B
      replace S := S.below B
      replace R3 := Kd.R_below R3 B
      replace R4 := Kd.R_below R4 B
      clear R7 B
      go_wp2_with fail
      have hnd := Lib.hid (held_nodup hA.out o)
      have hnot := Lib.hid (fun x hx => notin_remL hA.out (o := o) (x := x) hx)
      have hnm := Lib.hid (fun x hx => heldO_eq L o x hx)
      have hlr := hLr
      have z4 := S.lt
      clear z1 hB4
      go_loopw [13] (fun i wr => ∃ (k : Nat) (Lk : List Ent) (ck : Int), k ≤ (heldO L o).length ∧ i = .int .i64 k ∧ Hid (Adding (remL L o) c ((heldO L o).take k) Lk ck) ∧ Hid (Stk wr m Lk ck) ∧ Hid (Turn m wk wr)) (fun i _ => (heldO L o).length - (intOf i).toNat)
      case atStart => exact ⟨0, _, _, Nat.zero_le _, rfl, by rw [List.take_zero]; exact Lib.hid (Adding.start _ _), Lib.hid S, Lib.hid (Turn.refl _ _)⟩
      case round =>
        obtain ⟨i, Lk, ck, hi, rfl, hAd, hSr, hTr⟩ := hrel
        have R4' := Lib.hid (R_turn R4 (by omega) hTr.out)
        have R3' := Lib.hid (R_turn R3 (by omega) hTr.out)
        by_cases hit : i < (heldO L o).length
        · obtain ⟨g, hA1, hg1, hg2, _, hcell⟩ := strs_at R4'.out i hit
          subst hA1
          have hxm := List.getElem_mem hit
          obtain ⟨_, e0, he0, hx0, _⟩ := hnm.out _ hxm
          obtain ⟨hxe, hxs⟩ := f4.out e0 he0
          rw [hx0] at hxe hxs
          obtain ⟨hadd, hof, hAd'⟩ := hAd.out.step (x := (heldO L o)[i]) (hnot.out _ hxm) (notin_take hnd.out i hit) hxe (by rw [List.length_take]; omega)
          rw [← take_snoc_str _ i hit] at hAd'
          have hck := hAd.out.count
          rw [List.length_take, Nat.min_eq_left hi] at hck
          have HAd' := Lib.hid hAd'
          have hxk : (heldO L o)[i].size ≤ maxLen := by unfold maxLen; omega
          clear hAd' hAd hxm hx0 he0 hxe
          generalize (heldO L o)[i] = x at *
          go_wp2_with fail
          refine (Of_any hof hSr.out hxk).mono ?_
          rintro e wl ⟨rfl, B⟩
          have S2 := hSr.out.below B
          have hcell2 := (B.cell (World.block_lt_of_cell? wr _ hcell)).trans hcell
          have T2 := Lib.hid (hTr.out.of_below B)
          go_wp2_with fail
          refine (Add_any hadd S2 hxk (by omega) (by omega)).mono ?_
          rintro e wm ⟨rfl, S3, T3⟩
          go_wp2
          go_roundw
          case rel => exact ⟨i + 1, _, _, by omega, by go_num, HAd', Lib.hid S3, Lib.hid (T2.out.trans T3)⟩
          case measure => simp [intOf]; omega
        · have hAd := Lib.hid (show Adding (remL L o) c (heldO L o) Lk ck by have := hAd.out; rw [show i = (heldO L o).length by omega, List.take_length] at this; exact this)
          have hfree := hAd.out.free
          rw [free_remL] at hfree
          have hlk := hAd.out.length
          have hge2 : ((heldO L o).length : Int) ≤ (i : Int) := by omega
          go_wp2_with fail
          refine (Fre_any hfree hSr.out (by omega)).mono ?_
          rintro e wl ⟨v8, rfl, R8, B⟩
          have R3'' := Lib.hid (Kd.R_below R3'.out B)
          have R4'' := Lib.hid (Kd.R_below R4'.out B)
          have T2 := Lib.hid (hTr.out.of_below B)
          obtain ⟨A8, d8, rfl⟩ := Kd.R_slice R8
          clear B
          have hB := Below.refl wl.heap.size wl
          go_wp2_with (first
            | ((with_reducible refine gate_dst (N := 112) rfl ?_); refine Kd.R_lit Kd.string (w0 := wl) wl.heap.size 9 ?hg (N := 112) ?hd (xs := ([] : List ByteArray)) (inner := []) (ok := fun _ => True) (okp := fun _ => True) ?hr ?hp (fun _ hk => hk) trivial (Below.refl _ _) (Nat.le_refl _) (by simp) ?_; (case hd => rfl); (case hg => rfl); (case hr => first | (go_simp; done) | (go_simp; rfl)); (case hp => exact (Reps.none _ _)); intro v9 wm R9 hB9 hg_ hnew_; clear hg_ hnew_)
            | ((with_reducible refine gate_builtin (b := .append) (xs := #[.tmp 112, .tmp 113]) rfl ?_); at_builtin; refine Kd.R_append_rows Kd.string (w0 := wl) wl.heap.size rfl (.tmp 112) (.tmp 113) 31 9 (.string ⟨#[]⟩) 16 rfl Try.underlying31 info9 rfl (by decide) (by omega) v9 [] (held L es) _ _ _ (fun _ => True) (fun _ => False) rfl rfl R9 (Kd.C_below (Kd.R_reads' R3''.out).2.2 hB9) (fun _ _ h => h) (fun _ h => h.elim) (fun _ _ => trivial) hB9 hB9.size (by simp; omega) ?_; intro v10 wn R10 hB10 hg_ hat_; clear hg_ hat_)
            | ((with_reducible refine gate_builtin (b := .append) (xs := #[.tmp 114, .tmp 115]) rfl ?_); at_builtin; refine Kd.R_append_rows Kd.string (w0 := wl) wl.heap.size rfl (.tmp 114) (.tmp 115) 31 9 (.string ⟨#[]⟩) 16 rfl Try.underlying31 info9 rfl (by decide) (by omega) v10 ([] ++ held L es) (heldO L o) _ _ _ (fun _ => True) (fun _ => False) rfl rfl R10 (Kd.C_below (Kd.R_reads' R4''.out).2.2 hB10) (fun _ _ h => h) (fun _ h => h.elim) (fun _ _ => trivial) hB10 hB10.size (by simp; omega) ?_; intro v11 wo R11 hB11 hg_ hat_; clear hg_ hat_))
          rw [List.nil_append] at R11
          obtain ⟨A11, d11, hv⟩ := Kd.R_slice R11
          subst hv
          have hsame := Same_any (w := wo) (xs := held L es ++ heldO L o) (ys := held L es ++ heldO L o) (r := true) (by simp) (Kd.R_reads' (Kd.R_below R8 hB11)).2.2 (Kd.R_reads' R8).2.1 (Kd.R_reads' R11).2.2 (Kd.R_reads' R11).2.1 (by simp; omega)
          rw [List.length_append] at hsame
          rw [List.length_append]
          refine hsame.mono ?_
          rintro e wp ⟨rfl, B⟩
          have hB12 := hB11.trans (B.mono hB11.size)
          clear hsame B
          go_wp2_with (go_at_call 10; refine (awake_any _).mono ?_; rintro e wq ⟨rfl, B⟩)
          go_ret
          have hB13 := hB12.trans (B.mono hB12.size)
          have TT := (T.trans T2.out).of_below hB13
          exact ⟨rfl, Turn.below HB2.out TT (by rw [← HM.out]; exact HB1.out.size) HB2.out.size⟩

theorem walk : Calls Try.prog 7 #[.slice A l.length c0, .string o, .string q] w fun e w' => e = .returned (.bool true) ∧ Below w.heap.size w w' := by
  cases h : smallB l with
  | false => exact walk1 A c0 l o q w hC hc h
  | true =>
    by_cases ho : 100 < o.size
    · exact walk2 A c0 l o q w hC hc h ho
    · by_cases hq : 100 < q.size
      · exact walk3 A c0 l o q w hC hc h ho hq
      · by_cases hoq : o = q
        · exact walk4 A c0 l o q w hC hc h ho hq hoq
        · exact walk5 A c0 l o q w hC hc h ho hq hoq
end

section
open Go.ChangeShapes Go.WideShapes Go.ChangeAt Go.RowKit Go.Joins
open Go.ChangeMaps (open_string shut_string)
theorem own : ownKnob Try.prog.godebug = none := by kernel_rfl
theorem laidOut : laidOutB Try.prog = true := by kernel_rfl

set_option maxRecDepth 100000 in
theorem lifted (os : Os) (started : os.Started) (H : Type) (enc : TypeId × Value → H) :
    ReturnsInHanded {} Try.checked os 7 .any (Rows.stockRemovesSpec.pre6 enc Try.prog Try.f7 Rows.stockRemovesRow.domain false) (Rows.stockRemovesSpec.post enc Try.prog Try.f7 false true false false) := by
  refine returnsInHanded_of_change_sized (C := Try.checked) own started (by kernel_rfl) Try.func7
    (ChangeSpec.witness6 (enc := enc) (C := Try.checked) false ⟨#[], #[.slice none 0 0, .string ByteArray.empty, .string ByteArray.empty], []⟩ 8 (by kernel_rfl) (by kernel_rfl) (by kernel_rfl) (by kernel_rfl)) ?_
  intro W base args ds gs before hval0 hW hcnd hsz0 _
  have hval : ∀ (j : Nat) t v, Try.f7.params[j]? = some t → args[j]? = some v → Value.okWide Try.prog W .any base t v := hval0
  have hW' := hW
  obtain ⟨p, q, hA0, hV, rfl, hfz, hnd⟩ := hW
  have hA : DataW.TrodAll enc Try.prog W 0 (fun _ => true) true Try.f7.params.toList args.toList ds p := hA0
  rw [Try.params7] at hA hval
  obtain ⟨v0, vs0, d0, ds0, p0, q0, hargs, rfl, rfl, h0, r0⟩ := trodAll_cons hA
  obtain ⟨v1, vs1, d1, ds1, p1, q1, rfl, rfl, rfl, h1, r1⟩ := trodAll_cons r0
  obtain ⟨v2, vs2, d2, ds2, p2, q2, rfl, rfl, rfl, h2, r2⟩ := trodAll_cons r1
  obtain ⟨rfl, rfl, rfl⟩ := trodAll_nil r2
  obtain rfl : args = #[v0, v1, v2] := by cases args; simp_all
  obtain ⟨rfl, rfl⟩ := trodVars_none hV
  have k0 := h0
  have k1 := h1
  have k2 := h2
  have lt0 : ∀ x ∈ p0, x.block < W.heap.size := by obtain ⟨m, hm⟩ := k0; exact DataW.trod_lt m _ _ _ hm
  have lt1 : ∀ x ∈ p1, x.block < W.heap.size := by obtain ⟨m, hm⟩ := k1; exact DataW.trod_lt m _ _ _ hm
  have lt2 : ∀ x ∈ p2, x.block < W.heap.size := by obtain ⟨m, hm⟩ := k2; exact DataW.trod_lt m _ _ _ hm
  obtain ⟨A, c, l, rfl, hC, hc⟩ := ops_of (hval 0 22 v0 rfl rfl) h0
  obtain ⟨s1, rfl, _, _, _⟩ := open_string Try.underlying9 (hval 1 9 v1 rfl rfl) h1
  obtain ⟨s2, rfl, _, _, _⟩ := open_string Try.underlying9 (hval 2 9 v2 rfl rfl) h2
  clear hA0 hval0 hsz0
  refine (walk A c l s1 s2 W hC hc).mono fun e W' ⟨he, bel⟩ => ?_
  subst he
  exact ⟨_, rfl, _, _, _, [], _, [], hW', trodAll_mk1 (shut_bool Try.underlying4 _), trodAll_cons_mk (Below.trod laidOut (by kernel_rfl) (of_decide_eq_true (by kernel_rfl)) k0 bel lt0) (trodAll_cons_mk (Below.trod laidOut (by kernel_rfl) (of_decide_eq_true (by kernel_rfl)) k1 bel lt1) (trodAll_cons_mk (Below.trod laidOut (by kernel_rfl) (of_decide_eq_true (by kernel_rfl)) k2 bel lt2) trodAll_mk0)), rfl, bel.frame _, fun h => by cases h⟩

theorem over : Rows.stockRemovesRow.holds Try.pinned (OpenSpec.ofChange Rows.stockRemovesSpec) :=
  OpenClaim.holds_of_wide 7 Try.f7 rfl rfl rfl rfl rfl rfl rfl ⟨rfl, rfl, rfl, rfl, rfl⟩ rfl rfl rfl rfl rfl (by kernel_rfl) Try.func7 (by kernel_rfl)
    (of_decide_eq_true (by kernel_rfl)) (by unfold Func.isWrapper; first | (rw [if_pos (by decide +kernel)]; kernel_rfl) | (rw [if_neg (by decide +kernel)]; exact ⟨rfl, rfl⟩))
    (fun os started H enc _ => lifted os started H enc)

theorem proved : Rows.StockRemovesSaid := over
#print axioms proved
end
end Go.Proofs.Ytcaennbagdipkaa.stockRemoves
