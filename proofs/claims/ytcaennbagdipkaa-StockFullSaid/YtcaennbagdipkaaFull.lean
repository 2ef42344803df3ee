/- StockFull: a stock accepts MaxBoards items and no further one, until some are removed. -/
import Derived.Test.YtcaennbagdipkaaLawsF
import Derived.Test.YtcaennbagdipkaaRows
import Derived.ProofKit
import Derived.OpenShut
import Derived.ShutString
import Derived.ChangeOld
import Derived.SizedLaws
namespace Go.Proofs.Ytcaennbagdipkaa.stockFull
open Go.RowKit Go.Maps Go.Proofs.YtcaennbagdipkaaW.PrintWords P
set_option linter.unusedSimpArgs false
set_option linter.unusedVariables false

section
variable (nm : ByteArray) (mo : Int) (w : World)
set_option maxRecDepth 100000 in
theorem walk1 (h : 20 < nm.size) : Calls Try.prog 4 #[.string nm, .int .u16 mo] w fun e w' => e = .returned (.bool true) ∧ Below w.heap.size w w' := by
  go_enter Try.func4, Try.ntmps4
  go_wp2_with (go_at_call 10; refine (awake_any _).mono ?_; rintro e w2 ⟨rfl, hB2⟩)
  go_ret
  exact ⟨rfl, hB2⟩

set_option maxRecDepth 100000 in
set_option maxHeartbeats 8000000 in
theorem walk2 (h : ¬ 20 < nm.size) (hb0 : 0 ≤ mo) (hb1 : mo < 65536) : Calls Try.prog 4 #[.string nm, .int .u16 mo] w fun e w' => e = .returned (.bool true) ∧ Below w.heap.size w w' := by
  generalize hsz : nm.size = sz at h
  have HSZ := Lib.hid hsz
  have hns : ((nm.size : Nat) : Int) = (sz : Int) := by omega
  clear hsz
  go_enter Try.func4, Try.ntmps4
  go_wp2_with (go_at_call 11; refine (New_any _).mono ?_; rintro e w2 ⟨rfl, S2, B2⟩)
  generalize hm : w.heap.size = m at S2 B2
  have HM := Lib.hid hm
  have HB2 := Lib.hid (show Below w.heap.size w w2 by rw [hm]; exact B2)
  have HS2 := Lib.hid S2
  clear hm B2 S2
  go_loopw [6, 7] (fun x i wr => ∃ (k : Nat) (y : ByteArray) (Lk : List Ent) (ck : Int), k ≤ 512 ∧ x = .string y ∧ i = .int .i64 k ∧ Hid (Filled sz k y Lk ck) ∧ Hid (Stk wr m Lk ck) ∧ Hid (Turn m w2 wr)) (fun _ i _ => 512 - (intOf i).toNat)
  case atStart => exact ⟨0, _, _, _, Nat.zero_le _, rfl, rfl, Lib.hid (by rw [← HSZ.out]; exact Filled.start nm), HS2, Lib.hid (Turn.refl _ _)⟩
  case round =>
    obtain ⟨k, y, Lk, ck, hk, rfl, rfl, hF, hSr, hT⟩ := hrel
    by_cases hlt : k < 512
    · have hcv := conv8 wr
      have hys : y.size ≤ 1000 := by have := hF.out.size; omega
      have hovf : ¬ 9223372036854775807 < y.size + (strOfNums [97 + (k : Int) % 26]).size := by rw [strOfNums_size]; omega
      obtain ⟨hadd, hF'⟩ := hF.out.step (y := y ++ strOfNums [97 + (k : Int) % 26]) (by rw [size_snoc, hF.out.size]) hlt
      have HF' := Lib.hid hF'
      have hck := hF.out.cnt
      have hyk : (y ++ strOfNums [97 + (k : Int) % 26]).size ≤ maxLen := by rw [size_snoc]; unfold maxLen; omega
      clear hF'
      have S := hSr.out.alloc (.cells #[.int .u8 (97 + (k : Int) % 26)] 5)
      have T1 := Lib.hid (hT.out.of_below ((Below.refl _ _).alloc (Nat.le_refl _) (.cells #[.int .u8 (97 + (k : Int) % 26)] 5)))
      go_wp2_with fail
      refine (Add_any hadd S hyk (by omega) (by omega)).mono ?_
      rintro e w3 ⟨rfl, S', T'⟩
      go_wp2
      go_roundw
      case rel => exact ⟨k + 1, _, _, _, by omega, rfl, by go_num, HF', Lib.hid S', Lib.hid (T1.out.trans T')⟩
      case measure => simp [intOf]; omega
    · have hke : k = 512 := by omega
      subst hke
      have hys : y.size ≤ 1000 := by have := hF.out.size; omega
      have hysz := hF.out.size
      have hA := Lib.hid hSr.out.good.apart
      have hye : y ≠ es := ne_es (by omega)
      have hxs : (y ++ ⟨#[120]⟩).size = sz + 513 := by rw [ByteArray.size_append, x_size]; omega
      have hxe := Lib.hid (show (y ++ ⟨#[120]⟩ : ByteArray) ≠ es from append_x_ne y)
      have hnot := Lib.hid (show ∀ e ∈ Lk, e.item ≠ y ++ ⟨#[120]⟩ from fun e he => ne_of_size (by have := (hF.out.all e he).2; omega))
      have hlk := hF.out.len
      have hck := hF.out.cnt
      have a1 := Lib.hid (addS_in (c := ck) hye (hF.out.last (by omega)) hA.out)
      have a2 := Lib.hid (addS_full (c := ck) hxe.out hnot.out (by omega))
      have hyk : y.size ≤ maxLen := by unfold maxLen; omega
      have hxk : (y ++ ⟨#[120]⟩).size ≤ maxLen := by rw [hxs]; unfold maxLen; omega
      have h512 : (held Lk es).length = 512 := by rw [all_free (fun e he => (hF.out.all e he).1), hlk]
      have h512' : ((held Lk es).length : Int) = 512 := by omega
      have HI := Lib.hid (fun e he => (hF.out.all e he).2)
      have hall := Lib.hid (fun e he => (hF.out.all e he).1)
      have S := hSr.out
      have T := hT.out
      have hL : Lk.length ≤ 1000 := by omega
      have hov2 : ¬ 9223372036854775807 < y.size + (⟨#[120]⟩ : ByteArray).size := by rw [x_size]; omega
      clear hye hF hSr hT
      have z1 := S.lt
      go_wp2_with fail
      refine (Add_any a1.out S hyk (by omega) (by omega)).mono ?_
      rintro e y1 ⟨rfl, S', T'⟩
      replace T := T.trans T'
      replace S := S'
      clear S' T'
      have z2 := S.lt
      go_wp2_with fail
      refine (Add_any a2.out S hxk (by omega) (by omega)).mono ?_
      rintro e y2 ⟨rfl, S', T'⟩
      replace T := T.trans T'
      replace S := S'
      clear S' T'
      have z3 := S.lt
      go_wp2_with fail
      refine (Fre_any (xs := held Lk es) rfl S hL).mono ?_
      rintro e y3 ⟨v1, rfl, R1, B⟩
      replace T := T.of_below B
      replace S := S.below B
      clear B
      obtain ⟨A1, d1, rfl⟩ := Kd.R_slice R1
      clear R1
      rw [h512]
      have z4 := S.lt
      go_wp2_with fail
      refine (Fre_any (xs := held Lk es) rfl S hL).mono ?_
      rintro e y4 ⟨v2, rfl, R2, B⟩
      replace T := T.of_below B
      replace S := S.below B
      clear B
      obtain ⟨A2, d2, rfl⟩ := Kd.R_slice R2
      have HR2 := Lib.hid R2
      clear R2
      rw [h512]
      clear h512'
      go_wp2_with fail
      obtain ⟨n, hn⟩ : ∃ n : Nat, (n : Int) = 1 + mo % 512 := ⟨(1 + mo % 512).toNat, by omega⟩
      rw [← hn]
      have hn1 : n ≤ 512 := by omega
      have hn0 : 1 ≤ n := by omega
      clear hn hb0 hb1
      have hnd := Lib.hid (free_nodup hA.out es)
      have hson := Lib.hid (show so ≠ es from ne_es (by decide))
      have hno := Lib.hid (show held Lk so = [] from held_no (fun e he h => by rw [hall.out e he] at h; exact hson.out h.symm))
      go_loopw [10] (fun i wr => ∃ (k : Nat) (Lj : List Ent), k ≤ n ∧ i = .int .i64 k ∧ Hid (Taken Lk so ((held Lk es).take k) Lj) ∧ Hid (Stk wr m Lj ck) ∧ Hid (Turn m y4 wr)) (fun i _ => n - (intOf i).toNat)
      case atStart => exact ⟨0, Lk, Nat.zero_le _, rfl, by rw [List.take_zero]; exact Lib.hid (Taken.start hno.out), Lib.hid S, Lib.hid (Turn.refl _ _)⟩
      case round =>
        obtain ⟨i, Lj, hi, rfl, hTk, hSr, hTr⟩ := hrel
        have hlj : Lj.length = 512 := by have := congrArg List.length hTk.out.eq; rw [setMany_length] at this; omega
        by_cases hit : i < n
        · obtain ⟨g, hA1, hg1, hg2, _, hcell⟩ := strs_at (R_turn HR2.out (by omega) hTr.out) i (by omega)
          subst hA1
          have hit' : i < (held Lk es).length := by omega
          have hxm := List.getElem_mem hit'
          obtain ⟨e0, he0, hx0, _⟩ := mem_held hxm
          have hxz := HI.out e0 he0
          rw [hx0] at hxz
          obtain ⟨L', r1, _, hTk'⟩ := hTk.out.step hA.out hson.out hxm (notin_take hnd.out i hit') so hson.out
          rw [← take_snoc_str _ i hit'] at hTk'
          have HTk := Lib.hid hTk'
          have hxk : (held Lk es)[i].size ≤ maxLen := by unfold maxLen; omega
          clear hTk' hxm hx0 he0
          generalize (held Lk es)[i] = x at *
          have hi512 : (i : Int) < 512 := by omega
          go_wp2_with fail
          refine (Res_any r1 hSr.out hxk (by omega)).mono ?_
          rintro e wl ⟨rfl, S2, T2⟩
          go_wp2
          go_roundw
          case rel => exact ⟨i + 1, _, by omega, by go_num, HTk, Lib.hid S2, Lib.hid (hTr.out.trans T2)⟩
          case measure => simp [intOf]; omega
        · have hin : i = n := by omega
          subst hin
          have hnum := hTk.out.nums
          rw [List.length_take, Nat.min_eq_left (by omega)] at hnum
          have hfr := hTk.out.free
          rw [List.length_take, Nat.min_eq_left (by omega)] at hfr
          have hnj := Lib.hid (show ∀ e ∈ Lj, e.item ≠ y ++ ⟨#[120]⟩ from fun e he => by
            rw [hTk.out.eq] at he
            obtain ⟨z, hz, hzi⟩ := setMany_items he
            rw [← hzi]; exact hnot.out z hz)
          have hrc := remL_count Lj hson.out
          have b1 := Lib.hid (addS_full (c := ck) hxe.out hnj.out (by omega))
          have b2 := Lib.hid (addS_new (c := ck) hxe.out (fun e he => hnj.out e (remL_mem he)) (show (remL Lj so).length < 512 by omega))
          have b3 := held_snoc (remL Lj so) (y ++ (⟨#[120]⟩ : ByteArray)) (ck + 1)
          rw [free_remL] at b3
          have hlast : ((held (remL Lj so ++ [⟨y ++ ⟨#[120]⟩, ck + 1, es⟩]) es).length : Int) = 512 - (i : Int) + 1 := by omega
          have hrem : ((heldO Lj so).length : Int) = (i : Int) := by rw [heldO_of hson.out]; omega
          have hl3 : (remL Lj so ++ [(⟨y ++ ⟨#[120]⟩, ck + 1, es⟩ : Ent)]).length ≤ 1000 := by simp; omega
          clear b3
          generalize remL Lj so ++ [(⟨y ++ ⟨#[120]⟩, ck + 1, es⟩ : Ent)] = L3 at b2 hlast hl3
          have S := hSr.out
          have T := T.trans hTr.out
          have hge : (i : Int) ≤ (i : Int) := Int.le_refl _
          clear hSr hTr hTk hrc hfr hnum
          have z5 := S.lt
          go_wp2_with fail
          refine (Add_any b1.out S hxk (by omega) (by omega)).mono ?_
          rintro e y5 ⟨rfl, S', T'⟩
          replace T := T.trans T'
          replace S := S'
          clear S' T'
          have z6 := S.lt
          go_wp2_with fail
          refine (Rem_any (o := so) rfl rfl S (by omega)).mono ?_
          rintro e y6 ⟨v3, rfl, R3, S', T'⟩
          replace T := T.trans T'
          replace S := S'
          clear S' T'
          obtain ⟨A3, d3, rfl⟩ := Kd.R_slice R3
          clear R3
          have z7 := S.lt
          go_wp2_with fail
          refine (Add_any b2.out S hxk (by omega) (by omega)).mono ?_
          rintro e y7 ⟨rfl, S', T'⟩
          replace T := T.trans T'
          replace S := S'
          clear S' T'
          have z8 := S.lt
          go_wp2_with fail
          refine (Fre_any rfl S hl3).mono ?_
          rintro e y8 ⟨v4, rfl, R4, B⟩
          replace T := T.of_below B
          replace S := S.below B
          clear B
          obtain ⟨A4, d4, rfl⟩ := Kd.R_slice R4
          clear R4
          go_wp2_with (go_at_call 10; refine (awake_any _).mono ?_; rintro e wq ⟨rfl, B⟩)
          replace T := T.of_below B
          go_ret
          exact ⟨rfl, Turn.below HB2.out T (by rw [HM.out]; exact Nat.le_refl _) HB2.out.size⟩

theorem walk (hb0 : 0 ≤ mo) (hb1 : mo < 65536) : Calls Try.prog 4 #[.string nm, .int .u16 mo] w fun e w' => e = .returned (.bool true) ∧ Below w.heap.size w w' := by
  by_cases h : 20 < nm.size
  · exact walk1 nm mo w h
  · exact walk2 nm mo w h hb0 hb1
end

section
open Go.ChangeShapes Go.WideShapes Go.ChangeAt Go.RowKit Go.Joins
open Go.ChangeMaps (open_string shut_string)
theorem own : ownKnob Try.prog.godebug = none := by kernel_rfl
theorem laidOut : laidOutB Try.prog = true := by kernel_rfl

set_option maxRecDepth 100000 in
theorem lifted (os : Os) (started : os.Started) (H : Type) (enc : TypeId × Value → H) :
    ReturnsInHanded {} Try.checked os 4 .any (Rows.stockFullSpec.pre6 enc Try.prog Try.f4 Rows.stockFullRow.domain false) (Rows.stockFullSpec.post enc Try.prog Try.f4 false true false false) := by
  refine returnsInHanded_of_change_sized (C := Try.checked) own started (by kernel_rfl) Try.func4
    (ChangeSpec.witness6 (enc := enc) (C := Try.checked) false ⟨#[], #[.string ByteArray.empty, .int .u16 0], []⟩ 8 (by kernel_rfl) (by kernel_rfl) (by kernel_rfl) (by kernel_rfl)) ?_
  intro W base args ds gs before hval0 hW hcnd hsz0 _
  have hval : ∀ (j : Nat) t v, Try.f4.params[j]? = some t → args[j]? = some v → Value.okWide Try.prog W .any base t v := hval0
  have hW' := hW
  obtain ⟨p, q, hA0, hV, rfl, hfz, hnd⟩ := hW
  have hA : DataW.TrodAll enc Try.prog W 0 (fun _ => true) true Try.f4.params.toList args.toList ds p := hA0
  rw [Try.params4] at hA hval
  obtain ⟨v0, vs0, d0, ds0, p0, q0, hargs, rfl, rfl, h0, r0⟩ := trodAll_cons hA
  obtain ⟨v1, vs1, d1, ds1, p1, q1, rfl, rfl, rfl, h1, r1⟩ := trodAll_cons r0
  obtain ⟨rfl, rfl, rfl⟩ := trodAll_nil r1
  obtain rfl : args = #[v0, v1] := by cases args; simp_all
  obtain ⟨rfl, rfl⟩ := trodVars_none hV
  have k0 := h0
  have k1 := h1
  have lt0 : ∀ x ∈ p0, x.block < W.heap.size := by obtain ⟨m, hm⟩ := k0; exact DataW.trod_lt m _ _ _ hm
  have lt1 : ∀ x ∈ p1, x.block < W.heap.size := by obtain ⟨m, hm⟩ := k1; exact DataW.trod_lt m _ _ _ hm
  obtain ⟨s0, rfl, _, _, b0⟩ := open_string Try.underlying9 (hval 0 9 v0 rfl rfl) h0
  obtain ⟨n1, rfl, _, _, wf1⟩ := open_int Try.underlying44 (hval 1 44 v1 rfl rfl) h1
  have bd1 := Go.bounds_u16 wf1
  clear hA0 hval0 hsz0
  refine (walk s0 n1 W (by omega) (by omega)).mono fun e W' ⟨he, bel⟩ => ?_
  subst he
  exact ⟨_, rfl, _, _, _, [], _, [], hW', trodAll_mk1 (shut_bool Try.underlying4 _), (trodAll_cons_mk (Below.trod laidOut (by kernel_rfl) (of_decide_eq_true (by kernel_rfl)) k0 bel lt0) (trodAll_cons_mk (Below.trod laidOut (by kernel_rfl) (of_decide_eq_true (by kernel_rfl)) k1 bel lt1) trodAll_mk0)), rfl, bel.frame _, fun h => by cases h⟩

theorem over : Rows.stockFullRow.holds Try.pinned (OpenSpec.ofChange Rows.stockFullSpec) :=
  OpenClaim.holds_of_wide 4 Try.f4 rfl rfl rfl rfl rfl rfl rfl ⟨rfl, rfl, rfl, rfl, rfl⟩ rfl rfl rfl rfl rfl (by kernel_rfl) Try.func4 (by kernel_rfl)
    (of_decide_eq_true (by kernel_rfl)) (by unfold Func.isWrapper; first | (rw [if_pos (by decide +kernel)]; kernel_rfl) | (rw [if_neg (by decide +kernel)]; exact ⟨rfl, rfl⟩))
    (fun os started H enc _ => lifted os started H enc)

theorem proved : Rows.StockFullSaid := over
#print axioms proved
end
end Go.Proofs.Ytcaennbagdipkaa.stockFull
