/- The reference's Digits is Itoa (the plain law). -/
import Derived.Test.YtnhflmihjegaiaaDoorTextB
import Derived.Test.YtnhflmihjegaiaaDoorPx9
import Derived.Test.YtnhflmihjegaiaaDoorRefA
import Derived.Test.YtnhflmihjegaiaaDoorPx7
import Derived.Test.YtnhflmihjegaiaaDoorAwkB
namespace Go.Proofs.YtnhflmihjegaiaaDoor
open Go Go.RowKit Go.Proofs.YtnhflmihjegaiaaDoorW.PrintWords P
set_option linter.unusedSimpArgs false
set_option linter.unusedVariables false

theorem wrapU {x : Int} (h : 0 ≤ x ∧ x ≤ 18446744073709551615) : IntKind.u64.wrap x = x := by
  simp [IntKind.wrap, IntKind.signed, IntKind.bits]
  try omega
def ddB (n : Nat) : ByteArray := ⟨(Lib.decDigits n).toArray⟩
theorem ext_digit : ∀ i : Fin 10, (⟨#[48, 49, 50, 51, 52, 53, 54, 55, 56, 57]⟩ : ByteArray).extract i.val (i.val + 1) = ⟨#[UInt8.ofNat (48 + i.val)]⟩ := by
  intro i
  match i with
  | ⟨0, _⟩ => rfl
  | ⟨1, _⟩ => rfl
  | ⟨2, _⟩ => rfl
  | ⟨3, _⟩ => rfl
  | ⟨4, _⟩ => rfl
  | ⟨5, _⟩ => rfl
  | ⟨6, _⟩ => rfl
  | ⟨7, _⟩ => rfl
  | ⟨8, _⟩ => rfl
  | ⟨9, _⟩ => rfl
theorem dd_one {n : Nat} (h : n < 10) : ddB n = ⟨#[UInt8.ofNat (48 + n)]⟩ := by
  unfold ddB
  rw [Lib.decDigits_one h]
theorem dd_more {n : Nat} (h : ¬ n < 10) : ddB n = ddB (n / 10) ++ ddB (n % 10) := by
  rw [dd_one (n := n % 10) (by omega)]
  unfold ddB
  rw [Lib.decDigits, dif_neg h]
  apply ByteArray.ext
  simp
theorem dd_len : ∀ (k n : Nat), n < 10 ^ (k + 1) → (Lib.decDigits n).length ≤ k + 1
  | 0, n, hn => by rw [Lib.decDigits_one (by omega)]; simp
  | k + 1, n, hn => by
    by_cases h10 : n < 10
    · rw [Lib.decDigits_one h10]; simp
    · rw [Lib.decDigits, dif_neg h10, List.length_append, List.length_singleton]
      have := dd_len k (n / 10) (by rw [Nat.pow_succ] at hn; omega)
      omega
theorem dd_size {n : Nat} (h : n ≤ 18446744073709551615) : (ddB n).size ≤ 21 := by
  have e : (ddB n).size = (Lib.decDigits n).length := by simp [ddB, ByteArray.size]
  rw [e]
  exact dd_len 20 n (Nat.lt_of_le_of_lt h (by decide))
theorem ten_le (k : Nat) : 10 ≤ 10 ^ (k + 1) := by
  rw [Nat.pow_succ]
  have := Nat.one_le_pow k 10 (by omega)
  omega
theorem natural_some : ∀ (k n : Nat), n < 10 ^ (k + 1) → n ≤ 18446744073709551615 → sawmillref06_natural.f (k + 1) (n : Int) = some (ddB n)
  | k, n, hn, hm => by
    unfold sawmillref06_natural.f
    by_cases h : n < 10
    · rw [if_pos (by omega), if_pos (by omega), wrapU (by omega), if_pos (by omega), if_pos (by omega), dd_one h]
      have := ext_digit ⟨n, h⟩
      rw [← this]
      have e : ((n : Int) + 1).toNat = n + 1 := by omega
      rw [e, Int.toNat_natCast]
    · rw [if_neg (by omega)]
      have e1 : IntKind.u64.wrap (Int.tdiv (n : Int) 10) = ((n / 10 : Nat) : Int) := by
        rw [Int.tdiv_eq_ediv_of_nonneg (by omega), wrapU (by omega)]
        omega
      have e2 : Int.tmod (n : Int) 10 = ((n % 10 : Nat) : Int) := by
        rw [Int.tmod_eq_emod_of_nonneg (by omega)]
        omega
      rw [e1, e2]
      match k, hn with
      | 0, hn => omega
      | k + 1, hn =>
        rw [natural_some k (n / 10) (by rw [Nat.pow_succ] at hn; omega) (by omega), Option.bind_some, natural_some k (n % 10) (Nat.lt_of_lt_of_le (Nat.mod_lt _ (by omega)) (ten_le k)) (by omega), Option.bind_some]
        have s1 := dd_size (n := n / 10) (by omega)
        have s2 := dd_size (n := n % 10) (by omega)
        rw [if_pos (by omega), ← dd_more h]
theorem digits_some {n : Int} (h : fits n) {k : Nat} (hk : 20 ≤ k) : sawmillref06_Digits.f k n = some (dec n) := by
  obtain ⟨k, rfl⟩ : ∃ m, k = m + 1 := ⟨k - 1, by omega⟩
  have hp : 18446744073709551615 < 10 ^ (k + 1) := Nat.lt_of_lt_of_le (by decide : 18446744073709551615 < 10 ^ 20) (Nat.pow_le_pow_right (by omega) hk)
  unfold sawmillref06_Digits.f
  obtain ⟨h0, h1⟩ := h
  by_cases hn : n < 0
  · have e : IntKind.u64.wrap ((IntKind.u64.wrap (wrap64 (-(wrap64 (n + 1))))) + 1) = ((n.natAbs : Nat) : Int) := by
      rw [show wrap64 (n + 1) = n + 1 by unfold wrap64; omega, show wrap64 (-(n + 1)) = -(n + 1) by unfold wrap64; omega, wrapU (x := -(n + 1)) (by omega), wrapU (by omega)]
      omega
    have s := dd_size (n := n.natAbs) (by omega)
    rw [if_pos hn, e, natural_some k _ (by omega) (by omega), Option.bind_some, if_pos (by omega)]
    unfold dec Lib.itoa ddB
    rw [if_pos hn]
    congr 1
  · have e : IntKind.u64.wrap n = ((n.toNat : Nat) : Int) := by rw [wrapU (by omega)]; omega
    rw [if_neg hn, e, natural_some k _ (by omega) (by omega), Option.bind_some]
    unfold dec Lib.itoa ddB
    rw [if_neg hn]
#print axioms digits_some
end Go.Proofs.YtnhflmihjegaiaaDoor

namespace Go.Proofs.YtnhflmihjegaiaaDoor
open Go.RowKit Go.Shelf Go.Proofs.YtnhflmihjegaiaaDoorW.PrintWords P
set_option linter.unusedSimpArgs false
set_option linter.unusedVariables false

theorem Digits_any (n : Int) (h : fits n) (w : World) : Calls Tryd.prog 34 #[.int .i64 n] w fun e w' => e = .returned (.string (dec n)) ∧ ∃ m, w' = w.drewN m :=
  (sawmillref06_Digits.calls 20 n (dec n) w (digits_some h (Nat.le_refl _))).mono fun e w' h => ⟨h.1, h.2.out⟩
theorem addRow_eq (c : List S60) (t : ByteArray) (r : S84) : addRow c t r = (((((((((t ++ nameOf c r) ++ (⟨#[32]⟩ : ByteArray)) ++ dec r.f1) ++ (⟨#[32]⟩ : ByteArray)) ++ dec r.f2) ++ (⟨#[32]⟩ : ByteArray)) ++ dec r.f3) ++ (⟨#[32]⟩ : ByteArray)) ++ dec r.f4) ++ (⟨#[10]⟩ : ByteArray) := by
  unfold addRow
  simp only [addInts, ByteArray.append_assoc]
set_option maxRecDepth 100000 in
set_option maxHeartbeats 8000000 in
theorem refText_any (w : World) (c : List S60) (B0 B1 B2 B3 : Option Addr) (d0 m1 d1 m2 d2 m3 d3 : Nat) (b4 b5 b6 b7 b8 b9 b10 b11 b12 : Int) (hCc : Kd.C k60 w B0 c.length c) (hcs : ∀ x ∈ c, x.f0.size ≤ 1000)
    (a0 a6 a7 place : Int) (A1 A2 A3 A4 A5 A8 A9 : Option Addr) (n1 n2 n4 n5 n8 n9 c1 c2 c3 c4 c5 c8 c9 : Nat) (l : List S101) (hC : Kd.C k101 w A3 l.length l) (hc : l.length ≤ c3) (hl : l.length ≤ 1000) (d : List S42) (hdr : d = refK l place l.length) (hd : ∀ y ∈ d, fits y.f1 ∧ fits y.f2 ∧ fits y.f3 ∧ fits y.f4) :
    Calls Tryd.prog 19 #[.agg #[.slice B0 c.length d0, .slice B1 m1 d1, .slice B2 m2 d2, .slice B3 m3 d3, .int .i64 b4, .int .i64 b5, .int .i64 b6, .int .i64 b7, .int .i64 b8, .int .i64 b9, .int .i64 b10, .int .i64 b11, .int .i64 b12],
      .agg #[.int .i64 a0, .slice A1 n1 c1, .slice A2 n2 c2, .slice A3 l.length c3, .slice A4 n4 c4, .slice A5 n5 c5, .int .i64 a6, .int .i64 a7, .slice A8 n8 c8, .slice A9 n9 c9], .int .i64 place] w fun e w' =>
      e = .returned (.string (textK c (d.map toRow) d.length)) ∧ Below w.heap.size w w' := by
  have hu77 := Tryd.underlying77
  have hu38 := Tryd.underlying38
  have hu121 := Tryd.underlying121
  have hu60 := Tryd.underlying60
  have HB0 := Lib.hid (((Below.refl w.heap.size w).alloc (Nat.le_refl _) (.cells #[.slice B0 c.length d0, .slice B1 m1 d1, .slice B2 m2 d2, .slice B3 m3 d3, .int .i64 b4, .int .i64 b5, .int .i64 b6, .int .i64 b7, .int .i64 b8, .int .i64 b9, .int .i64 b10, .int .i64 b11, .int .i64 b12] 77)).alloc (by simp [go_sem]) (.cells #[.int .i64 a0, .slice A1 n1 c1, .slice A2 n2 c2, .slice A3 l.length c3, .slice A4 n4 c4, .slice A5 n5 c5, .int .i64 a6, .int .i64 a7, .slice A8 n8 c8, .slice A9 n9 c9] 38))
  have HK0 : Hid (((w.alloc (.cells #[.slice B0 c.length d0, .slice B1 m1 d1, .slice B2 m2 d2, .slice B3 m3 d3, .int .i64 b4, .int .i64 b5, .int .i64 b6, .int .i64 b7, .int .i64 b8, .int .i64 b9, .int .i64 b10, .int .i64 b11, .int .i64 b12] 77)).alloc (.cells #[.int .i64 a0, .slice A1 n1 c1, .slice A2 n2 c2, .slice A3 l.length c3, .slice A4 n4 c4, .slice A5 n5 c5, .int .i64 a6, .int .i64 a7, .slice A8 n8 c8, .slice A9 n9 c9] 38)).cell? ⟨w.heap.size, 0, none⟩ = some (.slice B0 c.length d0)) := Lib.hid ((blk_cell (blk_alloc (blk_new _ _) _) 0).trans rfl)
  have HC := Lib.hid (Kd.C_below hC HB0.out)
  have HCc := Lib.hid (Kd.C_below hCc HB0.out)
  have HN := Lib.hid hcs
  have hRF := Lib.hid (show ∀ r ∈ d.map toRow, RowFits r from fun r hr => by
      obtain ⟨y, hy, rfl⟩ := List.mem_map.1 hr
      exact hd y hy)
  have HDR := Lib.hid hdr
  have hdl : d.length ≤ 1000 := by rw [hdr]; exact Nat.le_trans (refK_len l place _ (Nat.le_refl _)) hl
  have hS := fun (W : World) (h : Kd.C k101 W A3 l.length l) => refStock_any W a0 a6 a7 place A1 A2 A3 A4 A5 A8 A9 n1 n2 n4 n5 n8 n9 c1 c2 c3 c4 c5 c8 c9 l h hc (by omega)
  clear hdr
  go_enter Tryd.func19, Tryd.ntmps19
  go_wp2_with (go_at_call 17; refine hold ?_)
  clear hC hCc hcs hd
  refine Lib.hid ?_
  refine (hS _ HC.out).mono ?_
  rintro e w2 ⟨v, rfl, R, B⟩
  rw [← HDR.out] at R
  obtain ⟨A, cap, hv, _⟩ := Kd.R_reads R
  subst hv
  have HR := Lib.hid (show Kd.R k42 121 w2 _ _ _ d from R)
  have HB2 := Lib.hid (HB0.out.trans (B.mono HB0.out.size))
  have HK2 := Lib.hid ((B.cell (World.block_lt_of_cell? _ _ HK0.out)).trans HK0.out)
  have HCc2 := Lib.hid (Kd.C_below HCc.out B)
  have hsz2 := HB2.out.size
  clear R B HK0 HCc HC hS HDR
  generalize (w.alloc (.cells #[.slice B0 c.length d0, .slice B1 m1 d1, .slice B2 m2 d2, .slice B3 m3 d3, .int .i64 b4, .int .i64 b5, .int .i64 b6, .int .i64 b7, .int .i64 b8, .int .i64 b9, .int .i64 b10, .int .i64 b11, .int .i64 b12] 77)).alloc (.cells #[.int .i64 a0, .slice A1 n1 c1, .slice A2 n2 c2, .slice A3 l.length c3, .slice A4 n4 c4, .slice A5 n5 c5, .int .i64 a6, .int .i64 a7, .slice A8 n8 c8, .slice A9 n9 c9] 38) = w1 at *
  go_wp2_with fail
  go_loopw [7, 9] (fun v i wr => ∃ k : Nat, k ≤ d.length ∧ i = .int .i64 k ∧ v = .string (textK c (d.map toRow) k) ∧ Hid (Below w2.heap.size w2 wr)) (fun _ i _ => d.length - (intOf i).toNat)
  case atStart => exact ⟨0, Nat.zero_le _, rfl, rfl, Lib.hid (Below.refl _ _)⟩
  case round =>
    obtain ⟨k, hk, rfl, rfl, HBr⟩ := hrel
    by_cases hlt : k < d.length
    · obtain ⟨ad, cs, e0, hK, hcs⟩ := at_row (Kd.C_below (Kd.R_reads' HR.out).2.2 HBr.out) z42 k hlt
      subst e0
      obtain rfl := k42_open hK
      clear hK
      have HSC := Lib.hid (show textK c (d.map toRow) (k + 1) = addRow c (textK c (d.map toRow) k) (toRow d[k]) by rw [textK_succ c (d.map toRow) k (by rw [List.length_map]; exact hlt), List.getElem_map])
      have hts := textK_size HN.out (d.map toRow) hRF.out k
      have hrf : RowFits (toRow d[k]) := hRF.out _ (List.mem_map.2 ⟨_, List.getElem_mem hlt, rfl⟩)
      generalize d[k] = y at *
      generalize textK c (d.map toRow) k = t at *
      have hnm := nameOf_size HN.out (toRow y)
      have x0 : wr.cell? (ad.add (k * 5)) = some (.int .i64 y.f0) := hcs 0 _ rfl
      have x1 : wr.cell? ⟨(ad.add (k * 5)).block, (ad.add (k * 5)).off + 1, none⟩ = some (.int .i64 y.f1) := hcs 1 _ rfl
      have x2 : wr.cell? ⟨(ad.add (k * 5)).block, (ad.add (k * 5)).off + 2, none⟩ = some (.int .i64 y.f2) := hcs 2 _ rfl
      have x3 : wr.cell? ⟨(ad.add (k * 5)).block, (ad.add (k * 5)).off + 3, none⟩ = some (.int .i64 y.f3) := hcs 3 _ rfl
      have x4 : wr.cell? ⟨(ad.add (k * 5)).block, (ad.add (k * 5)).off + 4, none⟩ = some (.int .i64 y.f4) := hcs 4 _ rfl
      clear hcs
      have z0 := (HBr.out.cell (World.block_lt_of_cell? _ _ HK2.out)).trans HK2.out
      have hrf : fits y.f1 ∧ fits y.f2 ∧ fits y.f3 ∧ fits y.f4 := hrf
      have HADD := Lib.hid (addRow_eq c t (toRow y))
      have hs1 := dec_size hrf.1
      have hs2 := dec_size hrf.2.1
      have hs3 := dec_size hrf.2.2.1
      have hs4 := dec_size hrf.2.2.2
      have hD1 := Lib.hid (fun W => Digits_any y.f1 hrf.1 W)
      have hD2 := Lib.hid (fun W => Digits_any y.f2 hrf.2.1 W)
      have hD3 := Lib.hid (fun W => Digits_any y.f3 hrf.2.2.1 W)
      have hD4 := Lib.hid (fun W => Digits_any y.f4 hrf.2.2.2 W)
      clear hrf
      have p0 : (k : Int) < (d.length : Int) := by omega
      have p1 : (0 : Int) ≤ (k : Int) := by omega
      by_cases h0 : 0 ≤ y.f0
      · by_cases h1 : y.f0 < (c.length : Int)
        · obtain ⟨j, hj⟩ : ∃ j : Nat, y.f0 = (j : Int) := ⟨y.f0.toNat, by omega⟩
          have hjl : j < c.length := by omega
          obtain ⟨pd, ps, e1, hpK, hps⟩ := at_row (Kd.C_below HCc2.out HBr.out) z60 j hjl
          subst e1
          obtain ⟨_, _, _, _, rfl, _⟩ := k60_open hpK
          have y0 : wr.cell? (pd.add (j * 7)) = some (.string c[j].f0) := hps 0 _ rfl
          clear hpK hps
          have HNN := Lib.hid (show nameOf c (toRow y) = c[j].f0 by
            unfold nameOf
            rw [if_pos (show 0 ≤ (toRow y).f0 ∧ (toRow y).f0 < (c.length : Int) from ⟨h0, h1⟩), show (toRow y).f0 = (j : Int) from hj, Int.toNat_natCast, List.getD_eq_getElem?_getD, List.getElem?_eq_getElem hjl]
            rfl)
          rw [HNN.out] at hnm
          generalize c[j].f0 = nm at *
          have g1 : decide (0 ≤ y.f0) = true := decide_eq_true h0
          have g2 : decide (y.f0 < (c.length : Int)) = true := decide_eq_true h1
          have g3 : decide (j < c.length) = true := decide_eq_true hjl
          have g4 : (j : Int) < (c.length : Int) := by omega
          have g5 : (0 : Int) ≤ (j : Int) := by omega
          rw [hj] at x0 g1 g2
          clear h0 h1 hj
          go_wp2_with fail
          go_quiet (fail)
          have HBp := Lib.hid (pw_below_drewN HBr.out nq)
          obtain ⟨wp, hwq⟩ : ∃ q, q = wr.drewN nq := ⟨_, rfl⟩
          rw [← hwq] at HBp ⊢
          replace x1 : wp.cell? ⟨(ad.add (k * 5)).block, (ad.add (k * 5)).off + 1, none⟩ = some (.int .i64 y.f1) := by rw [hwq]; exact x1
          replace x2 : wp.cell? ⟨(ad.add (k * 5)).block, (ad.add (k * 5)).off + 2, none⟩ = some (.int .i64 y.f2) := by rw [hwq]; exact x2
          replace x3 : wp.cell? ⟨(ad.add (k * 5)).block, (ad.add (k * 5)).off + 3, none⟩ = some (.int .i64 y.f3) := by rw [hwq]; exact x3
          replace x4 : wp.cell? ⟨(ad.add (k * 5)).block, (ad.add (k * 5)).off + 4, none⟩ = some (.int .i64 y.f4) := by rw [hwq]; exact x4
          replace x0 : wp.cell? (ad.add (k * 5)) = some (.int .i64 (j : Int)) := by rw [hwq]; exact x0
          replace y0 : wp.cell? (pd.add (j * 7)) = some (.string nm) := by rw [hwq]; exact y0
          replace z0 : wp.cell? ⟨w.heap.size, 0, none⟩ = some (.slice (some pd) c.length d0) := by rw [hwq]; exact z0
          clear hwq nq
          go_wp2_with fail
          go_quiet (fail)
          have HBq := Lib.hid (pw_below_drewN HBp.out nq)
          obtain ⟨wq, hwq⟩ : ∃ q, q = wp.drewN nq := ⟨_, rfl⟩
          rw [← hwq] at HBq ⊢
          replace x1 : wq.cell? ⟨(ad.add (k * 5)).block, (ad.add (k * 5)).off + 1, none⟩ = some (.int .i64 y.f1) := by rw [hwq]; exact x1
          replace x2 : wq.cell? ⟨(ad.add (k * 5)).block, (ad.add (k * 5)).off + 2, none⟩ = some (.int .i64 y.f2) := by rw [hwq]; exact x2
          replace x3 : wq.cell? ⟨(ad.add (k * 5)).block, (ad.add (k * 5)).off + 3, none⟩ = some (.int .i64 y.f3) := by rw [hwq]; exact x3
          replace x4 : wq.cell? ⟨(ad.add (k * 5)).block, (ad.add (k * 5)).off + 4, none⟩ = some (.int .i64 y.f4) := by rw [hwq]; exact x4
          clear hwq x0 y0 z0
          go_wp2_with fail
          go_quiet (first
            | (go_at_call_of 34 (Value.int .i64 y.f1); refine Calls.quiet_of (hD1.out _))
            | (go_at_call_of 34 (Value.int .i64 y.f2); refine Calls.quiet_of (hD2.out _))
            | (go_at_call_of 34 (Value.int .i64 y.f3); refine Calls.quiet_of (hD3.out _))
            | (go_at_call_of 34 (Value.int .i64 y.f4); refine Calls.quiet_of (hD4.out _)))
          have Mq := Lib.hid (pw_below_drewN HBq.out nq)
          generalize wq.drewN nq = wz at *
          go_wp2_with fail
          go_roundw
          case rel => exact ⟨k + 1, by omega, by go_num, by rw [HSC.out, HADD.out, HNN.out]; rfl, Mq⟩
          case measure => simp [intOf]; omega
        · have HNN := Lib.hid (show nameOf c (toRow y) = ⟨#[45]⟩ by
            unfold nameOf
            rw [if_neg]
            show ¬ (0 ≤ y.f0 ∧ y.f0 < (c.length : Int))
            omega)
          have g1 : decide (0 ≤ y.f0) = true := decide_eq_true h0
          have g2 : decide (y.f0 < (c.length : Int)) = false := decide_eq_false h1
          clear hnm
          go_wp2_with fail
          go_quiet (fail)
          have HBq := Lib.hid (pw_below_drewN HBr.out nq)
          obtain ⟨wq, hwq⟩ : ∃ q, q = wr.drewN nq := ⟨_, rfl⟩
          rw [← hwq] at HBq ⊢
          replace x1 : wq.cell? ⟨(ad.add (k * 5)).block, (ad.add (k * 5)).off + 1, none⟩ = some (.int .i64 y.f1) := by rw [hwq]; exact x1
          replace x2 : wq.cell? ⟨(ad.add (k * 5)).block, (ad.add (k * 5)).off + 2, none⟩ = some (.int .i64 y.f2) := by rw [hwq]; exact x2
          replace x3 : wq.cell? ⟨(ad.add (k * 5)).block, (ad.add (k * 5)).off + 3, none⟩ = some (.int .i64 y.f3) := by rw [hwq]; exact x3
          replace x4 : wq.cell? ⟨(ad.add (k * 5)).block, (ad.add (k * 5)).off + 4, none⟩ = some (.int .i64 y.f4) := by rw [hwq]; exact x4
          clear hwq x0
          go_wp2_with fail
          go_quiet (first
            | (go_at_call_of 34 (Value.int .i64 y.f1); refine Calls.quiet_of (hD1.out _))
            | (go_at_call_of 34 (Value.int .i64 y.f2); refine Calls.quiet_of (hD2.out _))
            | (go_at_call_of 34 (Value.int .i64 y.f3); refine Calls.quiet_of (hD3.out _))
            | (go_at_call_of 34 (Value.int .i64 y.f4); refine Calls.quiet_of (hD4.out _)))
          have Mq := Lib.hid (pw_below_drewN HBq.out nq)
          generalize wq.drewN nq = wz at *
          go_wp2_with fail
          go_roundw
          case rel => exact ⟨k + 1, by omega, by go_num, by rw [HSC.out, HADD.out, HNN.out]; rfl, Mq⟩
          case measure => simp [intOf]; omega
      · have HNN := Lib.hid (show nameOf c (toRow y) = ⟨#[45]⟩ by
          unfold nameOf
          rw [if_neg]
          show ¬ (0 ≤ y.f0 ∧ y.f0 < (c.length : Int))
          omega)
        have g1 : decide (0 ≤ y.f0) = false := decide_eq_false h0
        clear hnm
        go_wp2_with fail
        go_quiet (fail)
        have HBq := Lib.hid (pw_below_drewN HBr.out nq)
        obtain ⟨wq, hwq⟩ : ∃ q, q = wr.drewN nq := ⟨_, rfl⟩
        rw [← hwq] at HBq ⊢
        replace x1 : wq.cell? ⟨(ad.add (k * 5)).block, (ad.add (k * 5)).off + 1, none⟩ = some (.int .i64 y.f1) := by rw [hwq]; exact x1
        replace x2 : wq.cell? ⟨(ad.add (k * 5)).block, (ad.add (k * 5)).off + 2, none⟩ = some (.int .i64 y.f2) := by rw [hwq]; exact x2
        replace x3 : wq.cell? ⟨(ad.add (k * 5)).block, (ad.add (k * 5)).off + 3, none⟩ = some (.int .i64 y.f3) := by rw [hwq]; exact x3
        replace x4 : wq.cell? ⟨(ad.add (k * 5)).block, (ad.add (k * 5)).off + 4, none⟩ = some (.int .i64 y.f4) := by rw [hwq]; exact x4
        clear hwq x0
        go_wp2_with fail
        go_quiet (first
          | (go_at_call_of 34 (Value.int .i64 y.f1); refine Calls.quiet_of (hD1.out _))
          | (go_at_call_of 34 (Value.int .i64 y.f2); refine Calls.quiet_of (hD2.out _))
          | (go_at_call_of 34 (Value.int .i64 y.f3); refine Calls.quiet_of (hD3.out _))
          | (go_at_call_of 34 (Value.int .i64 y.f4); refine Calls.quiet_of (hD4.out _)))
        have Mq := Lib.hid (pw_below_drewN HBq.out nq)
        generalize wq.drewN nq = wz at *
        go_wp2_with fail
        go_roundw
        case rel => exact ⟨k + 1, by omega, by go_num, by rw [HSC.out, HADD.out, HNN.out]; rfl, Mq⟩
        case measure => simp [intOf]; omega
    · have hkl : k = d.length := by omega
      subst hkl
      go_wp2_with fail
      go_ret
      exact ⟨rfl, HB2.out.trans (HBr.out.mono hsz2)⟩
#print axioms refText_any
end Go.Proofs.YtnhflmihjegaiaaDoor

namespace Go.Proofs.YtnhflmihjegaiaaDoor
open Go Go.Proofs Go.RowKit Go.Shelf Go.Proofs.YtnhflmihjegaiaaDoorW.PrintWords P Reg
set_option linter.unusedSimpArgs false
set_option linter.unusedVariables false
set_option maxRecDepth 100000
set_option maxHeartbeats 8000000

theorem same_rows (d : List S42) (h : d.length ≤ 1000000) : ∀ (m j k : Nat), j + m = d.length → m + 1 ≤ k → sawmilllaw64_same.l0 k (d.map toRow) (d.map toR1) (j : Int) = some true
  | 0, j, k, hj, hk => by
    obtain ⟨k, rfl⟩ : ∃ q, k = q + 1 := ⟨k - 1, by omega⟩
    unfold sawmilllaw64_same.l0
    rw [List.length_map, if_neg (by omega)]
  | m + 1, j, k, hj, hk => by
    obtain ⟨k, rfl⟩ : ∃ q, k = q + 1 := ⟨k - 1, by omega⟩
    have hjl : j < d.length := by omega
    have e1 : rd_T84 (d.map toRow) (j : Int) = toRow d[j] := by simp [rd_T84, List.getD_eq_getElem?_getD, List.getElem?_eq_getElem hjl]
    have e2 : rd_T121 (d.map toR1) (j : Int) = toR1 d[j] := by simp [rd_T121, List.getD_eq_getElem?_getD, List.getElem?_eq_getElem hjl]
    unfold sawmilllaw64_same.l0
    rw [e1, e2, List.length_map, List.length_map, if_pos (by omega), if_pos (by omega), if_pos (by omega), if_neg (by simp [toRow, toR1]), show wrap64 ((j : Int) + 1) = ((j + 1 : Nat) : Int) by unfold wrap64; omega]
    exact same_rows d h m (j + 1) k (by omega) (by omega)
theorem same_eq (w : World) (A0 A1 : Option Addr) (c0 c1 n : Nat) (d : List S42) (hn : d.length = n) (h : d.length ≤ 1000000) (h0 : Kd.C k84 w A0 n (d.map toRow)) (e0 : n ≤ c0) (h1 : Kd.C k121 w A1 n (d.map toR1)) (e1 : n ≤ c1) :
    Calls Tryd.prog 15 #[.slice A0 n c0, .slice A1 n c1] w fun e w' => e = .returned (.bool true) ∧ Below w.heap.size w w' := by
  subst hn
  have hc := sawmilllaw64_same.calls (d.length + 1) A0 c0 (d.map toRow) A1 c1 (d.map toR1) true w (by rw [List.length_map]; exact h0) (by rw [List.length_map]; exact e0) (by rw [List.length_map]; exact h1) (by rw [List.length_map]; exact e1) (by
    unfold sawmilllaw64_same.f
    rw [if_pos (by rw [List.length_map, List.length_map])]
    exact same_rows d h d.length 0 (d.length + 1) (by omega) (Nat.le_refl _))
  rw [List.length_map, List.length_map] at hc
  exact hc.mono fun e w' h => ⟨h.1, h.2.below⟩
theorem eqS {a : Act} {o : Oper} {w : World} {s u : Nat} {X : ByteArray} (hop : o.op = .binOp .eql 9 (.tmp s) (.tmp u) 9) (hs : a.eval (.tmp s) = .string X) (hu : a.eval (.tmp u) = .string X) :
    (execOp a.eval o).run Tryd.prog w = .ok (.value (.bool true)) w := by
  obtain ⟨ds, op, ty, pos, aft, gd⟩ := o
  cases hop
  have hu9 := Tryd.underlying9
  simp only [execOp, hs, hu]
  simp [go_sem, hu9]

theorem kreg9 {Q : Exit → Act → World → Prop} (hQ : ∀ c (a : Act) d v w, Q (.panic c) (a.put d v) w → Q (.panic c) a w) (x0 x3 x4 x5 x6 x7 x10 x11 x12 x13 x14 x15 x16 x17 x18 x19 x20 x21 x22 x23 x24 x25 x26 x27 x28 x29 x30 x31 x32 x33 x34 x35 x36 x37 x38 x39 x40 x41 x42 x43 x44 x45 x46 x47 x48 x49 x50 x51 x52 x53 x54 x55 x56 x57 x58 x59 x60 : Value) (wa : World) {B c2 c3 c5 d2 d3 d5 len pn pc : Nat} {A2 A3 A5 D2 D3 D5 P : Option Addr} (place : Int) (ls : List S87) (c : List S60) (hlen : ls.length = len) (hl : len ≤ 100)
    (hs : wa.heap[B]? = some (.cells #[.int .i64 0, .slice none 0 0, .slice A2 0 c2, .slice A3 len c3, .slice none 0 0, .slice A5 0 c5, .int .i64 0, .int .i64 0, .slice none 0 0, .slice none 0 0] 32 (0, 0))) (ht : wa.heap[B + 1]? = some (.cells #[.int .i64 0, .slice none 0 0, .slice D2 0 d2, .slice D3 len d3, .slice none 0 0, .slice D5 0 d5, .int .i64 0, .int .i64 0, .slice none 0 0, .slice none 0 0] 38 (0, 0)))
    (hC : Kd.C k100 wa A3 len (itemsK ls len)) (hcl : len ≤ c3) (hD : Kd.C k101 wa D3 len (itemsK1 ls len)) (hdl : len ≤ d3) (hTab : Tab wa)
    (hwf : ∀ x ∈ itemsK ls len, WfK (itemT x)) (hv : ∀ s ∈ ls, 0 ≤ s.f3 ∧ s.f3 ≤ 4294967295) (hPn : c.length = pn) (hP : Kd.C k60 wa P pn c) (hcs : ∀ x ∈ c, x.f0.size ≤ 1000)
    (hq : ∀ v1 v2 X w, Below wa.heap.size wa w → Q .normal ⟨#[x0, (.slice P pn pc), (.int .i64 place), x3, x4, x5, (.bool true), x7, (.pointer (some ⟨B, 0, none⟩)), (.pointer (some ⟨B + 1, 0, none⟩)), x10, x11, x12, x13, x14, x15, x16, x17, x18, x19, x20, x21, x22, x23, x24, x25, x26, x27, x28, x29, x30, x31, x32, x33, x34, x35, x36, x37, (.agg #[.int .i64 0, .slice none 0 0, .slice A2 0 c2, .slice A3 len c3, .slice none 0 0, .slice A5 0 c5, .int .i64 0, .int .i64 0, .slice none 0 0, .slice none 0 0]), (.int .i64 place), (v1), (.agg #[.int .i64 0, .slice none 0 0, .slice D2 0 d2, .slice D3 len d3, .slice none 0 0, .slice D5 0 d5, .int .i64 0, .int .i64 0, .slice none 0 0, .slice none 0 0]), (.int .i64 place), (v2), (.bool true), (.bool true), (.slice P pn pc), (.agg #[.slice P pn pc, .slice none 0 0, .slice none 0 0, .slice none 0 0, .int .i64 0, .int .i64 0, .int .i64 0, .int .i64 0, .int .i64 0, .int .i64 0, .int .i64 0, .int .i64 0, .int .i64 0]), (.agg #[.int .i64 0, .slice none 0 0, .slice A2 0 c2, .slice A3 len c3, .slice none 0 0, .slice A5 0 c5, .int .i64 0, .int .i64 0, .slice none 0 0, .slice none 0 0]), (.int .i64 place), (.string X), (.slice P pn pc), (.agg #[.slice P pn pc, .slice none 0 0, .slice none 0 0, .slice none 0 0, .int .i64 0, .int .i64 0, .int .i64 0, .int .i64 0, .int .i64 0, .int .i64 0, .int .i64 0, .int .i64 0, .int .i64 0]), (.agg #[.int .i64 0, .slice none 0 0, .slice D2 0 d2, .slice D3 len d3, .slice none 0 0, .slice D5 0 d5, .int .i64 0, .int .i64 0, .slice none 0 0, .slice none 0 0]), (.int .i64 place), (.string X), (.bool true), (.bool true), (.bool true), (.bool true), (.bool true)], []⟩ w) :
    wpAnyH Tryd.prog .any (R Tryd.f5 9) Q (Below wa.heap.size wa) 24 (L 24 0) ⟨#[x0, (.slice P pn pc), (.int .i64 place), x3, x4, x5, x6, x7, (.pointer (some ⟨B, 0, none⟩)), (.pointer (some ⟨B + 1, 0, none⟩)), x10, x11, x12, x13, x14, x15, x16, x17, x18, x19, x20, x21, x22, x23, x24, x25, x26, x27, x28, x29, x30, x31, x32, x33, x34, x35, x36, x37, x38, x39, x40, x41, x42, x43, x44, x45, x46, x47, x48, x49, x50, x51, x52, x53, x54, x55, x56, x57, x58, x59, x60], []⟩ wa := by
  subst hlen
  have b0 := Below.refl wa.heap.size wa
  have hil := itemsK_len ls ls.length (Nat.le_refl _)
  have hil1 := itemsK1_len ls ls.length (Nat.le_refl _)
  refine RegH.take 0 38 (.agg #[.int .i64 0, .slice none 0 0, .slice A2 0 c2, .slice A3 ls.length c3, .slice none 0 0, .slice A5 0 c5, .int .i64 0, .int .i64 0, .slice none 0 0, .slice none 0 0]) hQ b0 (fun w b => loadR (s := 8) (by kernel_rfl) (by kernel_rfl) [.int .i64 0, .slice none 0 0, .slice A2 0 c2, .slice A3 ls.length c3, .slice none 0 0, .slice A5 0 c5, .int .i64 0, .int .i64 0, .slice none 0 0, .slice none 0 0] _ (row_cells (blk_below hs b)) Tryd.underlying32 rfl (by kernel_rfl)) ?_
  refine RegH.take 1 39 (.int .i64 place) hQ b0 (fun _ _ => by kernel_rfl) ?_
  refine RegH.take 3 41 (.agg #[.int .i64 0, .slice none 0 0, .slice D2 0 d2, .slice D3 ls.length d3, .slice none 0 0, .slice D5 0 d5, .int .i64 0, .int .i64 0, .slice none 0 0, .slice none 0 0]) hQ b0 (fun w b => loadR (s := 9) (by kernel_rfl) (by kernel_rfl) [.int .i64 0, .slice none 0 0, .slice D2 0 d2, .slice D3 ls.length d3, .slice none 0 0, .slice D5 0 d5, .int .i64 0, .int .i64 0, .slice none 0 0, .slice none 0 0] _ (row_cells (blk_below ht b)) Tryd.underlying38 rfl (by kernel_rfl)) ?_
  refine RegH.take 4 42 (.int .i64 place) hQ b0 (fun _ _ => by kernel_rfl) ?_
  refine RegH.any1 2 (enter 40 16 #[.agg #[.int .i64 0, .slice none 0 0, .slice A2 0 c2, .slice A3 ls.length c3, .slice none 0 0, .slice A5 0 c5, .int .i64 0, .int .i64 0, .slice none 0 0, .slice none 0 0], .int .i64 place] ?_)
  have hA := Stock_any wa 0 0 0 place none A2 A3 none A5 none none 0 0 0 0 0 0 0 c2 c3 0 c5 0 0 (itemsK ls ls.length) (by rw [hil]; exact hC) (by rw [hil]; exact hcl) (by rw [hil]; omega) hwf
  rw [hil] at hA
  refine hA.mono ?_
  rintro e w5 ⟨v1, d, rfl, hp, hw, R1, B5⟩
  refine ⟨_, rfl, B5, ?_⟩
  have hs5 := B5.size
  have hde := ref_same ls place hl hv hp hw
  have hrf := rows_fit (place := place) (d := d) hwf (by rw [hil]; exact hp)
  have hdl1 : d.length ≤ 1000 := by rw [hde]; exact Nat.le_trans (refK_len _ place _ (by omega)) (by omega)
  refine RegH.any1 5 (enter 43 17 #[.agg #[.int .i64 0, .slice none 0 0, .slice D2 0 d2, .slice D3 ls.length d3, .slice none 0 0, .slice D5 0 d5, .int .i64 0, .int .i64 0, .slice none 0 0, .slice none 0 0], .int .i64 place] ?_)
  have hB := refStock_any w5 0 0 0 place none D2 D3 none D5 none none 0 0 0 0 0 0 0 d2 d3 0 d5 0 0 (itemsK1 ls ls.length) (by rw [hil1]; exact Kd.C_below hD B5) (by rw [hil1]; exact hdl) (by rw [hil1]; omega)
  rw [hil1] at hB
  refine hB.mono ?_
  rintro e w6 ⟨v2, rfl, R2, B6⟩
  rw [← hde] at R2
  have R2 := RR_rows R2
  have B6' := B5.trans (B6.mono hs5)
  refine ⟨_, rfl, B6', ?_⟩
  have hs6 := B6'.size
  obtain ⟨E1, f1, g1, q1, C1⟩ := Kd.R_reads (Kd.R_below R1 (B6.mono (Nat.le_refl _)))
  obtain ⟨E2, f2, g2, q2, C2⟩ := Kd.R_reads R2
  rw [List.length_map] at g1 q1 C1 g2 q2 C2
  subst g1 g2
  refine RegH.any1 6 (enter 44 15 #[.slice E1 d.length f1, .slice E2 d.length f2] ?_)
  refine (same_eq w6 E1 E2 f1 f2 d.length d rfl (by omega) C1 q1 C2 q2).mono ?_
  rintro e w7 ⟨rfl, B7⟩
  have B7' := B6'.trans (B7.mono hs6)
  have hs7 := B7'.size
  refine ⟨_, rfl, B7', ?_⟩
  refine RegH.take 7 45 (.bool true) hQ B7' (fun _ _ => by kernel_rfl) ?_
  refine RegH.take 8 46 (.slice P pn pc) hQ B7' (fun _ _ => by kernel_rfl) ?_
  refine RegH.take 9 47 (.agg #[.slice P pn pc, .slice none 0 0, .slice none 0 0, .slice none 0 0, .int .i64 0, .int .i64 0, .int .i64 0, .int .i64 0, .int .i64 0, .int .i64 0, .int .i64 0, .int .i64 0, .int .i64 0]) hQ B7' (fun _ _ => by kernel_rfl) ?_
  refine RegH.take 10 48 (.agg #[.int .i64 0, .slice none 0 0, .slice A2 0 c2, .slice A3 ls.length c3, .slice none 0 0, .slice A5 0 c5, .int .i64 0, .int .i64 0, .slice none 0 0, .slice none 0 0]) hQ B7' (fun w b => loadR (s := 8) (by kernel_rfl) (by kernel_rfl) [.int .i64 0, .slice none 0 0, .slice A2 0 c2, .slice A3 ls.length c3, .slice none 0 0, .slice A5 0 c5, .int .i64 0, .int .i64 0, .slice none 0 0, .slice none 0 0] _ (row_cells (blk_below hs b)) Tryd.underlying32 rfl (by kernel_rfl)) ?_
  refine RegH.take 11 49 (.int .i64 place) hQ B7' (fun _ _ => by kernel_rfl) ?_
  refine RegH.take 13 51 (.slice P pn pc) hQ B7' (fun _ _ => by kernel_rfl) ?_
  refine RegH.take 14 52 (.agg #[.slice P pn pc, .slice none 0 0, .slice none 0 0, .slice none 0 0, .int .i64 0, .int .i64 0, .int .i64 0, .int .i64 0, .int .i64 0, .int .i64 0, .int .i64 0, .int .i64 0, .int .i64 0]) hQ B7' (fun _ _ => by kernel_rfl) ?_
  refine RegH.take 15 53 (.agg #[.int .i64 0, .slice none 0 0, .slice D2 0 d2, .slice D3 ls.length d3, .slice none 0 0, .slice D5 0 d5, .int .i64 0, .int .i64 0, .slice none 0 0, .slice none 0 0]) hQ B7' (fun w b => loadR (s := 9) (by kernel_rfl) (by kernel_rfl) [.int .i64 0, .slice none 0 0, .slice D2 0 d2, .slice D3 ls.length d3, .slice none 0 0, .slice D5 0 d5, .int .i64 0, .int .i64 0, .slice none 0 0, .slice none 0 0] _ (row_cells (blk_below ht b)) Tryd.underlying38 rfl (by kernel_rfl)) ?_
  refine RegH.take 16 54 (.int .i64 place) hQ B7' (fun _ _ => by kernel_rfl) ?_
  refine RegH.any1 12 (enter 50 18 #[.agg #[.slice P pn pc, .slice none 0 0, .slice none 0 0, .slice none 0 0, .int .i64 0, .int .i64 0, .int .i64 0, .int .i64 0, .int .i64 0, .int .i64 0, .int .i64 0, .int .i64 0, .int .i64 0], .agg #[.int .i64 0, .slice none 0 0, .slice A2 0 c2, .slice A3 ls.length c3, .slice none 0 0, .slice A5 0 c5, .int .i64 0, .int .i64 0, .slice none 0 0, .slice none 0 0], .int .i64 place] ?_)
  have hX := Text_any w7 (hTab.below B7' (Nat.le_refl _)) c P none none none pc 0 0 0 0 0 0 0 0 0 0 0 0 0 0 0 (by rw [hPn]; exact Kd.C_below hP B7') hcs 0 0 0 place none A2 A3 none A5 none none 0 0 0 0 0 0 0 c2 c3 0 c5 0 0 (itemsK ls ls.length) (by rw [hil]; exact Kd.C_below hC B7') (by rw [hil]; exact hcl) (by rw [hil]; omega) hwf
  rw [hil, hPn] at hX
  refine hX.mono ?_
  rintro e w8 ⟨d', hp', hw', rfl, B8⟩
  have hde' := ref_same ls place hl hv hp' hw'
  rw [← hde] at hde'
  subst hde'
  have B8' := B7'.trans (B8.mono hs7)
  have hs8 := B8'.size
  refine ⟨_, rfl, B8', ?_⟩
  refine RegH.any1 17 (enter 55 19 #[.agg #[.slice P pn pc, .slice none 0 0, .slice none 0 0, .slice none 0 0, .int .i64 0, .int .i64 0, .int .i64 0, .int .i64 0, .int .i64 0, .int .i64 0, .int .i64 0, .int .i64 0, .int .i64 0], .agg #[.int .i64 0, .slice none 0 0, .slice D2 0 d2, .slice D3 ls.length d3, .slice none 0 0, .slice D5 0 d5, .int .i64 0, .int .i64 0, .slice none 0 0, .slice none 0 0], .int .i64 place] ?_)
  have hY := refText_any w8 c P none none none pc 0 0 0 0 0 0 0 0 0 0 0 0 0 0 0 (by rw [hPn]; exact Kd.C_below hP B8') hcs 0 0 0 place none D2 D3 none D5 none none 0 0 0 0 0 0 0 d2 d3 0 d5 0 0 (itemsK1 ls ls.length) (by rw [hil1]; exact Kd.C_below hD B8') (by rw [hil1]; exact hdl) (by rw [hil1]; omega) d' (by rw [hil1]; exact hde) (fun y hy => hrf _ (List.mem_map.2 ⟨y, hy, rfl⟩))
  rw [hil1, hPn] at hY
  refine hY.mono ?_
  rintro e w9 ⟨rfl, B9⟩
  have B9' := B8'.trans (B9.mono hs8)
  have hs9 := B9'.size
  refine ⟨_, rfl, B9', ?_⟩
  rw [List.length_map]
  generalize textK c (d'.map toRow) d'.length = X
  refine RegH.take 18 56 (.bool true) hQ B9' (fun _ _ => eqS (s := 50) (u := 55) (X := X) (by kernel_rfl) (by kernel_rfl) (by kernel_rfl)) ?_
  refine RegH.take 19 57 (.bool true) hQ B9' (fun _ _ => by kernel_rfl) ?_
  refine RegH.take 20 58 (.bool true) hQ B9' (fun _ _ => by kernel_rfl) ?_
  refine RegH.any1 21 (enter 59 9 #[] ?_)
  refine (awake_any w9 (hTab.below B9' (Nat.le_refl _))).mono ?_
  rintro e w10 ⟨rfl, B10⟩
  have B10' := B9'.trans (B10.mono hs9)
  refine ⟨_, rfl, B10', ?_⟩
  refine RegH.take 22 60 (.bool true) hQ B10' (fun _ _ => by kernel_rfl) ?_
  refine RegH.take 23 6 (.bool true) hQ B10' (fun _ _ => by kernel_rfl) ?_
  exact RegH.same (l' := L 24 24) (wpAnyH_done (by kernel_rfl) (hq (.slice E1 d'.length f1) (.slice E2 d'.length f2) X _ B10') 0)

theorem nil_C5 {α : Type} (d : Kd α) (w : World) : Kd.C d w none 0 [] := ⟨rfl, Nat.zero_le _, fun h => absurd h (Nat.lt_irrefl _)⟩
theorem stkWalk1 (A : Option Addr) (cc : Nat) (ls : List S87) (P : Option Addr) (pc : Nat) (c : List S60) (place : Int) (w : World) (hC : Kd.C k87 w A ls.length ls) (hc : ls.length ≤ cc) (hG : ∀ y ∈ ls, ((-9223372036854775808 ≤ y.f0 ∧ y.f0 ≤ 9223372036854775807) ∧ (-9223372036854775808 ≤ y.f1 ∧ y.f1 ≤ 9223372036854775807) ∧ (-9223372036854775808 ≤ y.f2 ∧ y.f2 ≤ 9223372036854775807) ∧ (0 ≤ y.f3 ∧ y.f3 ≤ 4294967295) ∧ (-9223372036854775808 ≤ y.f4 ∧ y.f4 ≤ 9223372036854775807))) (hP : Kd.C k60 w P c.length c) (hpc : c.length ≤ pc) (ht : Tab w) (h : ¬ ls.length ≤ 100) : Calls Tryd.prog 5 #[.slice A ls.length cc, .slice P c.length pc, .int .i64 place] w fun e w' => e = .returned (.bool true) ∧ Below w.heap.size w w' := by
  have hA := awake_any w ht
  have h2 : (ls.length : Int) > 100 := by omega
  have h3 : decide ((100 : Int) < (ls.length : Int)) = true := decide_eq_true (by omega)
  have h4 : decide (100 < ls.length) = true := decide_eq_true (by omega)
  go_enter Tryd.func5, Tryd.ntmps5
  go_wp2_with (go_at_call 9; refine hA.mono ?_; rintro e w1 ⟨rfl, B1⟩)
  go_ret
  exact ⟨rfl, B1⟩
theorem stkWalk2 (A : Option Addr) (cc : Nat) (ls : List S87) (P : Option Addr) (pc : Nat) (c : List S60) (place : Int) (w : World) (hC : Kd.C k87 w A ls.length ls) (hc : ls.length ≤ cc) (hG : ∀ y ∈ ls, ((-9223372036854775808 ≤ y.f0 ∧ y.f0 ≤ 9223372036854775807) ∧ (-9223372036854775808 ≤ y.f1 ∧ y.f1 ≤ 9223372036854775807) ∧ (-9223372036854775808 ≤ y.f2 ∧ y.f2 ≤ 9223372036854775807) ∧ (0 ≤ y.f3 ∧ y.f3 ≤ 4294967295) ∧ (-9223372036854775808 ≤ y.f4 ∧ y.f4 ≤ 9223372036854775807))) (hP : Kd.C k60 w P c.length c) (hpc : c.length ≤ pc) (ht : Tab w) (h : ls.length ≤ 100) (h' : ¬ c.length ≤ 30) : Calls Tryd.prog 5 #[.slice A ls.length cc, .slice P c.length pc, .int .i64 place] w fun e w' => e = .returned (.bool true) ∧ Below w.heap.size w w' := by
  have hA := awake_any w ht
  have h2 : ¬ (ls.length : Int) > 100 := by omega
  have h3 : decide ((100 : Int) < (ls.length : Int)) = false := decide_eq_false (by omega)
  have h4 : decide (100 < ls.length) = false := decide_eq_false (by omega)
  have h5 : (c.length : Int) > 30 := by omega
  have h6 : decide ((30 : Int) < (c.length : Int)) = true := decide_eq_true (by omega)
  have h7 : decide (30 < c.length) = true := decide_eq_true (by omega)
  go_enter Tryd.func5, Tryd.ntmps5
  go_wp2_with (go_at_call 9; refine hA.mono ?_; rintro e w1 ⟨rfl, B1⟩)
  go_ret
  exact ⟨rfl, B1⟩
theorem stkWalk3 (A : Option Addr) (cc : Nat) (ls : List S87) (P : Option Addr) (pc : Nat) (c : List S60) (place : Int) (w : World) (hC : Kd.C k87 w A ls.length ls) (hc : ls.length ≤ cc) (hG : ∀ y ∈ ls, ((-9223372036854775808 ≤ y.f0 ∧ y.f0 ≤ 9223372036854775807) ∧ (-9223372036854775808 ≤ y.f1 ∧ y.f1 ≤ 9223372036854775807) ∧ (-9223372036854775808 ≤ y.f2 ∧ y.f2 ≤ 9223372036854775807) ∧ (0 ≤ y.f3 ∧ y.f3 ≤ 4294967295) ∧ (-9223372036854775808 ≤ y.f4 ∧ y.f4 ≤ 9223372036854775807))) (hP : Kd.C k60 w P c.length c) (hpc : c.length ≤ pc) (ht : Tab w) (h : ls.length ≤ 100) (h' : c.length ≤ 30) : Calls Tryd.prog 5 #[.slice A ls.length cc, .slice P c.length pc, .int .i64 place] w fun e w' => e = .returned (.bool true) ∧ Below w.heap.size w w' := by
  have hu32 := Tryd.underlying32
  have hu38 := Tryd.underlying38
  have hu60 := Tryd.underlying60
  have hu58 := Tryd.underlying58
  have HT := Lib.hid ht
  have HP := Lib.hid hP
  have HV := Lib.hid (fun s hs => (hG s hs).2.2.2.1 : ∀ s ∈ ls, 0 ≤ s.f3 ∧ s.f3 ≤ 4294967295)
  have HWF := Lib.hid (itemsK_wf (ls := ls) (fun s hs => ⟨(hG s hs).1, (hG s hs).2.2.1⟩) ls.length)
  have hM := Lib.hid (fun W (b : Below w.heap.size w W) => mill_any W A none none cc 0 0 ls [] [] (Kd.C_below hC b) (nil_C5 _ _) (nil_C5 _ _) (fun ad e hp => by subst e; exact Kd.C_lt (Kd.C_below hC b) hp (by decide)) (fun ad e _ => by cases e) (fun ad e _ => by cases e) (by omega) (by decide) (by decide))
  have hil := itemsK_len ls ls.length (Nat.le_refl _)
  have hil1 := itemsK1_len ls ls.length (Nat.le_refl _)
  have h2 : ¬ (ls.length : Int) > 100 := by omega
  have h3 : decide ((100 : Int) < (ls.length : Int)) = false := decide_eq_false (by omega)
  have h4 : decide (100 < ls.length) = false := decide_eq_false (by omega)
  have h5 : ¬ (c.length : Int) > 30 := by omega
  have h6 : decide ((30 : Int) < (c.length : Int)) = false := decide_eq_false (by omega)
  have h7 : decide (30 < c.length) = false := decide_eq_false (by omega)
  clear ht hC hP hG
  go_enter Tryd.func5, Tryd.ntmps5
  go_wp2_with fail
  go_loopw [7] (fun vi wr => ∃ i : Nat, vi = .int .i64 i ∧ i ≤ c.length ∧ Hid (∀ t, (ht : t < i) → (h : t < c.length) → c[t].f0.size ≤ 100) ∧ Hid (Below w.heap.size w wr)) (fun vi _ => c.length - (intOf vi).toNat)
  case atStart => exact ⟨0, rfl, Nat.zero_le _, Lib.hid (fun t ht => by omega), Lib.hid (Below.refl _ _)⟩
  case round =>
    obtain ⟨i, rfl, hi, HS, HB⟩ := hrel
    by_cases hil2 : i < c.length
    · obtain ⟨pd, ps, e1, hpK, hps⟩ := at_row (Kd.C_below HP.out HB.out) z60 i hil2
      subst e1
      obtain ⟨_, _, _, _, rfl, _⟩ := k60_open hpK
      have y0 : wr.cell? (pd.add (i * 7)) = some (.string c[i].f0) := hps 0 _ rfl
      clear hpK hps
      have HSZ := Lib.hid (show ∀ t, t < i + 1 → (h : t < c.length) → c[i].f0.size ≤ 100 → c[t].f0.size ≤ 100 from fun t ht h hz => by
        by_cases e : t = i
        · subst e; exact hz
        · exact HS.out t (by omega) h)
      generalize c[i].f0 = nm at *
      by_cases hz : nm.size ≤ 100
      · have HS2 := Lib.hid (fun t (ht : t < i + 1) (h : t < c.length) => HSZ.out t ht h hz)
        have k1 : ¬ (nm.size : Int) > 100 := by omega
        have k2 : decide ((100 : Int) < (nm.size : Int)) = false := decide_eq_false (by omega)
        have k3 : decide (100 < nm.size) = false := decide_eq_false (by omega)
        clear HS HSZ
        go_wp2_with fail
        go_roundw
        case rel => exact ⟨i + 1, by go_num, by omega, HS2, HB⟩
        case measure => simp [intOf]; omega
      · have k1 : (nm.size : Int) > 100 := by omega
        have k2 : decide ((100 : Int) < (nm.size : Int)) = true := decide_eq_true (by omega)
        have k3 : decide (100 < nm.size) = true := decide_eq_true (by omega)
        have hA := awake_any wr (HT.out.below HB.out (Nat.le_refl _))
        clear HS HSZ
        go_wp2_with (go_at_call 9; refine hA.mono ?_; rintro e w1 ⟨rfl, B1⟩)
        go_ret
        exact ⟨rfl, HB.out.trans (B1.mono HB.out.size)⟩
    · have hie : i = c.length := by omega
      have HSC := Lib.hid (show ∀ x ∈ c, x.f0.size ≤ 1000 from fun x hx => by
        obtain ⟨t, ht, rfl⟩ := List.mem_iff_getElem.1 hx
        have := HS.out t (by omega) ht
        omega)
      clear HS hie
      have hs0 := HB.out.size
      have hM2 := hM.out wr HB.out
      have HPr := Lib.hid (Kd.C_below HP.out HB.out)
      go_wp2_with (go_at_call 10; refine hold ?_)
      refine Lib.hid ?_
      refine hM2.mono ?_
      rintro e w1 ⟨v2, v3, v5, u2, u3, u5, rfl, M⟩
      clear hM hM2
      obtain ⟨A2, c2, e2, l2, C2⟩ := Kd.R_reads M.r2
      obtain ⟨A3, c3, e3, l3, C3⟩ := Kd.R_reads M.r3
      obtain ⟨A5, c5, e5, l5, C5⟩ := Kd.R_reads M.r5
      obtain ⟨D2, d2, f2, m2, G2⟩ := Kd.R_reads M.q2
      obtain ⟨D3, d3, f3, m3, G3⟩ := Kd.R_reads M.q3
      obtain ⟨D5, d5, f5, m5, G5⟩ := Kd.R_reads M.q5
      rw [hil] at l3 C3
      rw [hil1] at m3 G3
      replace e2 : v2 = .slice A2 0 c2 := e2
      replace e3 : v3 = .slice A3 ls.length c3 := by rw [e3, hil]
      replace e5 : v5 = .slice A5 0 c5 := e5
      replace f2 : u2 = .slice D2 0 d2 := f2
      replace f3 : u3 = .slice D3 ls.length d3 := by rw [f3, hil1]
      replace f5 : u5 = .slice D5 0 d5 := f5
      subst e2 e3 e5 f2 f3 f5
      have HC3 := Lib.hid C3
      have HL3 := Lib.hid l3
      have HG3 := Lib.hid G3
      have HM3 := Lib.hid m3
      have HB1 := Lib.hid (HB.out.trans (M.bl.mono hs0))
      have HP1 := Lib.hid (Kd.C_below HPr.out M.bl)
      have hs1 := HB1.out.size
      clear M C2 C3 C5 G2 G3 G5 l2 l3 l5 m2 m3 m5 hil hil1 HPr
      have h1 : Hid ((((w1.alloc (.cells #[.int .i64 0, .slice none 0 0, .slice none 0 0, .slice none 0 0, .slice none 0 0, .slice none 0 0, .int .i64 0, .int .i64 0, .slice none 0 0, .slice none 0 0] 32)).alloc (.cells #[.int .i64 0, .slice none 0 0, .slice none 0 0, .slice none 0 0, .slice none 0 0, .slice none 0 0, .int .i64 0, .int .i64 0, .slice none 0 0, .slice none 0 0] 38))).heap[w1.heap.size]? = some (.cells #[.int .i64 0, .slice none 0 0, .slice none 0 0, .slice none 0 0, .slice none 0 0, .slice none 0 0, .int .i64 0, .int .i64 0, .slice none 0 0, .slice none 0 0] 32 (0, 0))) := Lib.hid (blk_alloc (blk_new _ _) _)
      have h2 : Hid ((((w1.alloc (.cells #[.int .i64 0, .slice none 0 0, .slice none 0 0, .slice none 0 0, .slice none 0 0, .slice none 0 0, .int .i64 0, .int .i64 0, .slice none 0 0, .slice none 0 0] 32)).alloc (.cells #[.int .i64 0, .slice none 0 0, .slice none 0 0, .slice none 0 0, .slice none 0 0, .slice none 0 0, .int .i64 0, .int .i64 0, .slice none 0 0, .slice none 0 0] 38))).heap[w1.heap.size + 1]? = some (.cells #[.int .i64 0, .slice none 0 0, .slice none 0 0, .slice none 0 0, .slice none 0 0, .slice none 0 0, .int .i64 0, .int .i64 0, .slice none 0 0, .slice none 0 0] 38 (0, 0))) := Lib.hid (by rw [show w1.heap.size + 1 = (w1.alloc (.cells #[.int .i64 0, .slice none 0 0, .slice none 0 0, .slice none 0 0, .slice none 0 0, .slice none 0 0, .int .i64 0, .int .i64 0, .slice none 0 0, .slice none 0 0] 32)).heap.size by simp [go_sem]]; exact blk_new _ _)
      have b12 := Lib.hid (((Below.refl w1.heap.size w1).alloc (Nat.le_refl _) (.cells #[.int .i64 0, .slice none 0 0, .slice none 0 0, .slice none 0 0, .slice none 0 0, .slice none 0 0, .int .i64 0, .int .i64 0, .slice none 0 0, .slice none 0 0] 32)).alloc (by simp [go_sem]) (.cells #[.int .i64 0, .slice none 0 0, .slice none 0 0, .slice none 0 0, .slice none 0 0, .slice none 0 0, .int .i64 0, .int .i64 0, .slice none 0 0, .slice none 0 0] 38))
      go_wp2_with (first
        | (refine row_event (t := 32) (s := 8) (u := 36) rfl rfl rfl rfl rfl h1.out (by kernel_rfl) rfl (all10 rfl rfl rfl) ?_; intro wd hd ned bd zd; have HD := Lib.hid hd; have h2d := Lib.hid ((ned _ (by omega)).trans h2.out); have b1d := Lib.hid (bd _ _ b12.out (Nat.le_refl _)); clear hd ned bd zd h1 h2 b12)
        | (refine row_event (t := 38) (s := 9) (u := 37) rfl rfl rfl rfl rfl h2d.out (by kernel_rfl) rfl (all10 rfl rfl rfl) ?_; intro we he nee be ze; have HE := Lib.hid ((nee _ (by omega)).trans HD.out); have HF := Lib.hid he; have b1e := Lib.hid (be _ _ b1d.out (by omega)); clear he nee be ze h2d b1d HD))
      have HBe := Lib.hid (HB1.out.trans (b1e.out.mono hs1))
      have HTe := Lib.hid (HT.out.below HBe.out (Nat.le_refl _))
      have HCe := Lib.hid (Kd.C_below HC3.out b1e.out)
      have HGe := Lib.hid (Kd.C_below HG3.out b1e.out)
      have HPe := Lib.hid (Kd.C_below HP1.out b1e.out)
      refine wp_region_noPanic ?_
      refine RegH.start (S := Below we.drew.heap.size we.drew) (f := Tryd.f5) (k := 9) (n := 24) (a' := ⟨#[_, _, _, _, _, _, _, _, _, _, _, _, _, _, _, _, _, _, _, _, _, _, _, _, _, _, _, _, _, _, _, _, _, _, _, _, _, _, _, _, _, _, _, _, _, _, _, _, _, _, _, _, _, _, _, _, _, _, _, _, _], _⟩) (by kernel_rfl) (by kernel_rfl) (by kernel_rfl) rfl (by kernel_rfl) ?_
      refine kreg9 (fun _ _ _ _ _ h => h) _ _ _ _ _ _ _ _ _ _ _ _ _ _ _ _ _ _ _ _ _ _ _ _ _ _ _ _ _ _ _ _ _ _ _ _ _ _ _ _ _ _ _ _ _ _ _ _ _ _ _ _ _ _ _ _ _ we.drew place ls c rfl h HE.out HF.out (Kd.C_below HCe.out (Below.drew (Below.refl _ _))) HL3.out (Kd.C_below HGe.out (Below.drew (Below.refl _ _))) HM3.out (HTe.out.below (B := we.heap.size) (Below.drew (Below.refl _ _)) (Nat.le_refl _)) HWF.out HV.out rfl (Kd.C_below HPe.out (Below.drew (Below.refl _ _))) HSC.out ?_
      intro y1 y2 yX wz Bz
      refine NoPanic.normal ?_
      have Bf := HBe.out.trans ((((Below.refl we.heap.size we).drew).trans Bz).mono HBe.out.size)
      go_wp2_with fail
      go_ret
      exact ⟨rfl, Bf⟩
theorem stkWalk (A : Option Addr) (cc : Nat) (ls : List S87) (P : Option Addr) (pc : Nat) (c : List S60) (place : Int) (w : World) (hC : Kd.C k87 w A ls.length ls) (hc : ls.length ≤ cc) (hG : ∀ y ∈ ls, ((-9223372036854775808 ≤ y.f0 ∧ y.f0 ≤ 9223372036854775807) ∧ (-9223372036854775808 ≤ y.f1 ∧ y.f1 ≤ 9223372036854775807) ∧ (-9223372036854775808 ≤ y.f2 ∧ y.f2 ≤ 9223372036854775807) ∧ (0 ≤ y.f3 ∧ y.f3 ≤ 4294967295) ∧ (-9223372036854775808 ≤ y.f4 ∧ y.f4 ≤ 9223372036854775807))) (hP : Kd.C k60 w P c.length c) (hpc : c.length ≤ pc) (ht : Tab w) : Calls Tryd.prog 5 #[.slice A ls.length cc, .slice P c.length pc, .int .i64 place] w fun e w' => e = .returned (.bool true) ∧ Below w.heap.size w w' := by
  by_cases h : ls.length ≤ 100
  · by_cases h' : c.length ≤ 30
    · exact stkWalk3 A cc ls P pc c place w hC hc hG hP hpc ht h h'
    · exact stkWalk2 A cc ls P pc c place w hC hc hG hP hpc ht h h'
  · exact stkWalk1 A cc ls P pc c place w hC hc hG hP hpc ht h
#print axioms stkWalk
end Go.Proofs.YtnhflmihjegaiaaDoor
