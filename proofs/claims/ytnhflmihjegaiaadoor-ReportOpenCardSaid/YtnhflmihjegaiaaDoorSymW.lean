/- The merge of slices.SortStableFunc at ints: the walks of swapRange and rotate. (gen_sym.py) -/
import Derived.Test.YtnhflmihjegaiaaDoorSymP
import Derived.Test.YtnhflmihjegaiaaDoorProg
import Derived.Shelf.SlSortCmp.Kit1
import Derived.Sort.WalkB2
import Derived.Sort.WalkB12
import Derived.Deep.LoopGhost
import Derived.Lib.Hide
namespace Go.Proofs.YtnhflmihjegaiaaDoor.Sym
open Go Go.Proofs Go.Shelf Go.RowKit Go.Lib Go.Sort
set_option linter.unusedSimpArgs false
set_option linter.unusedVariables false
variable {α : Type} [Inhabited α]

set_option maxHeartbeats 4000000 in
set_option maxRecDepth 1000000 in
theorem swapRange_s (enc : α → Value) (fv : Value) (blk off cap a b n : Nat) (d0 d : Array α) (w0 w : World)
    (R : Row1 enc w0 blk off d0) (hs : d0.size = d.size) (S : SW enc w0 blk off d w) (hab : a + n ≤ b) (hb : b + n ≤ d.size) (hsz : d.size < 4611686018427387904) :
    Calls Tryd.prog 70 #[.slice (some ⟨blk, off, none⟩) d.size cap, .int .i64 a, .int .i64 b, .int .i64 n, fv] w fun e w' => e = .returned (.tuple #[]) ∧ ∃ d', Via (swIx a b n) d d' ∧ SW enc w0 blk off d' w' := by
  have mixed : Tryd.prog.follows Departure.mixedOrders = true := by kernel_rfl
  have hcl0 := R.hO.cells
  simp only [Value.cells] at hcl0
  have hst := R.hO.store Tryd.prog
  have S0 : Aside (SW enc w0 blk off d w) := S
  clear S
  go_enter Tryd.func70, Tryd.ntmps70
  go_wp2
  go_loopw [10] (fun v wr => ∃ (i : Nat) (dk : Array α), v = .int .i64 i ∧ i ≤ n ∧ dk.size = d.size ∧ Hid (Via (swIx a b i) d dk) ∧ Aside (SW enc w0 blk off dk wr)) (fun v _ => n - (intOf v).toNat)
  case atStart => exact ⟨0, d, rfl, Nat.zero_le _, rfl, Lib.hid (swR_start a b d), S0⟩
  case round =>
    clear S0
    obtain ⟨i, dk, rfl, hi, hds, V, S1⟩ := hrel
    by_cases hlt : i < n
    · have hltz : (i : Int) < (n : Int) := by omega
      have V2 := Lib.hid (swR_step V.out (show a + i < b by omega) (show b + i < d.size by omega))
      have hds2 : (swp dk (a + i) (b + i)).size = d.size := V2.out.size
      go_wp2_with fail
      obtain ⟨iN1001, hiN1001⟩ : ∃ q, q = a + i := ⟨_, rfl⟩
      obtain ⟨jN1001, hjN1001⟩ : ∃ q, q = b + i := ⟨_, rfl⟩
      have ea1001 : ((a : Int) + (i : Int)).toNat = iN1001 := by omega
      have pa1001 : (0 : Int) ≤ (a : Int) + (i : Int) := by omega
      have ba1001 : (a : Int) + (i : Int) < (d.size : Int) := by omega
      have ra1001 : IntKind.i64.wrap ((a : Int) + (i : Int)) = (a : Int) + (i : Int) := by rw [IntKind.wrap_i64]; omega
      have ec1001 : ((b : Int) + (i : Int)).toNat = jN1001 := by omega
      have pc1001 : (0 : Int) ≤ (b : Int) + (i : Int) := by omega
      have bc1001 : (b : Int) + (i : Int) < (d.size : Int) := by omega
      have rc1001 : IntKind.i64.wrap ((b : Int) + (i : Int)) = (b : Int) + (i : Int) := by rw [IntKind.wrap_i64]; omega
      obtain ⟨x1001, hx1001⟩ : ∃ x, x = dk[a + i]! := ⟨_, rfl⟩
      obtain ⟨y1001, hy1001⟩ : ∃ x, x = dk[b + i]! := ⟨_, rfl⟩
      have S2 : Aside (SW enc w0 blk off (swp dk (a + i) (b + i)) ((wr.setCell ⟨blk, off + iN1001, none⟩ (enc y1001)).setCell ⟨blk, off + jN1001, none⟩ (enc x1001)).drew) := by rw [hiN1001, hjN1001, hx1001, hy1001]; exact S1.out.swapped R (a + i) (b + i) (by omega) (by omega)
      have c1001a := S1.out.c1 R (by omega) (a + i) (by omega)
      have c1001b := S1.out.c1 R (by omega) (b + i) (by omega)
      have f1001a := S1.out.f1 R (by omega) (a + i) (by omega)
      have f1001b := S1.out.f1 R (by omega) (b + i) (by omega)
      obtain ⟨u1001, c1001c⟩ := S1.out.c2 R (by omega) (a + i) (b + i) (by omega) (by omega) (enc y1001)
      rw [← hjN1001, ← hiN1001] at c1001c
      rw [← hx1001, ← hiN1001] at c1001a
      rw [← hy1001, ← hjN1001] at c1001b
      rw [← hiN1001] at f1001a
      rw [← hjN1001] at f1001b
      clear S1 hx1001 hy1001 hiN1001 hjN1001
      go_wp2_with fail
      go_big_region_o
      clear c1001a c1001b c1001c f1001a f1001b
      generalize ((wr.setCell ⟨blk, off + iN1001, none⟩ (enc y1001)).setCell ⟨blk, off + jN1001, none⟩ (enc x1001)).drew = w2 at S2 ⊢
      clear ea1001 ec1001
      generalize swp dk (a + i) (b + i) = dn at *
      go_wp2
      go_roundw
      case rel => exact ⟨i + 1, dn, by go_num, by omega, hds2, V2, S2⟩
      case measure => simp [intOf]; omega
    · have hin : i = n := by omega
      subst hin
      go_wp2
      go_end0
      exact ⟨rfl, dk, V.out, S1.out⟩

set_option maxHeartbeats 4000000 in
set_option maxRecDepth 1000000 in
theorem rotate_s (enc : α → Value) (fv : Value) (blk off cap a m b : Nat) (d0 d : Array α) (w0 w : World)
    (R : Row1 enc w0 blk off d0) (hs : d0.size = d.size) (S : SW enc w0 blk off d w) (ham : a < m) (hmb : m < b) (hb : b ≤ d.size) (hsz : d.size < 4611686018427387904) :
    Calls Tryd.prog 60 #[.slice (some ⟨blk, off, none⟩) d.size cap, .int .i64 a, .int .i64 m, .int .i64 b, fv] w fun e w' => e = .returned (.tuple #[]) ∧ ∃ d', Via (rotIx a m b) d d' ∧ SW enc w0 blk off d' w' := by
  have S0 : Aside (SW enc w0 blk off d w) := S
  clear S
  have hC : Aside (∀ (x y n : Nat) (dk : Array α) (wk : World), dk.size = d.size → SW enc w0 blk off dk wk → x + n ≤ y → y + n ≤ d.size → Calls Tryd.prog 70 #[.slice (some ⟨blk, off, none⟩) d.size cap, .int .i64 x, .int .i64 y, .int .i64 n, fv] wk fun e w' => e = .returned (.tuple #[]) ∧ ∃ d', Via (swIx x y n) dk d' ∧ SW enc w0 blk off d' w') :=
    fun x y n dk wk h1 h2 h3 h4 => by rw [← h1]; exact swapRange_s enc fv blk off cap x y n d0 dk w0 wk R (by omega) h2 h3 (by omega) (by omega)
  have hwm : IntKind.i64.wrap ((m : Int) - (a : Int)) = ((m - a : Nat) : Int) := by rw [IntKind.wrap_i64]; omega
  have hwb : IntKind.i64.wrap ((b : Int) - (m : Int)) = ((b - m : Nat) : Int) := by rw [IntKind.wrap_i64]; omega
  have HB : Hid (m + (b - m) = b ∧ m - (m - a) = a) := Lib.hid (by omega)
  go_enter Tryd.func60, Tryd.ntmps60
  go_wp2
  go_loopw [10, 11] (fun vi vj wr => ∃ (i j : Nat) (dk : Array α), vi = .int .i64 i ∧ vj = .int .i64 j ∧ 0 < i ∧ 0 < j ∧ i ≤ m ∧ j ≤ b - m ∧ dk.size = d.size ∧ Hid (∀ t, dk[rotIx (m - i) m (m + j) t]! = d[rotIx a m b t]!) ∧ Aside (SW enc w0 blk off dk wr)) (fun vi vj _ => (intOf vi).toNat + (intOf vj).toNat)
  case atStart => exact ⟨m - a, b - m, d, by go_num, by go_num, by omega, by omega, by omega, by omega, rfl, Lib.hid (rot_start a m b d (by omega) (by omega)), S0⟩
  case round =>
    clear S0
    obtain ⟨i, j, dk, rfl, rfl, hi0, hj0, him, hjb, hds, V, S1⟩ := hrel
    have hwi : IntKind.i64.wrap ((m : Int) - (i : Int)) = ((m - i : Nat) : Int) := by rw [IntKind.wrap_i64]; omega
    by_cases heq : i = j
    · subst heq
      have hc := hC.out (m - i) m i dk wr hds S1.out (by omega) (by omega)
      go_wp2_with (go_at_call 70; refine hc.mono ?_; rintro e w1 ⟨rfl, d1, V1, S2⟩)
      go_end0
      exact ⟨rfl, d1, ⟨V1.size.trans hds, fun t => by rw [V1.at_, rot_end him, V.out]⟩, S2⟩
    · have hnez : ¬ (i : Int) = (j : Int) := by omega
      by_cases hgt : j < i
      · have hgz : (i : Int) > (j : Int) := by omega
        have hwij : IntKind.i64.wrap ((i : Int) - (j : Int)) = ((i - j : Nat) : Int) := by rw [IntKind.wrap_i64]; omega
        have hc := hC.out (m - i) m j dk wr hds S1.out (by omega) (by omega)
        go_wp2_with (go_at_call 70; refine hc.mono ?_; rintro e w1 ⟨rfl, d1, V1, S2⟩)
        have HS2 : Aside (SW enc w0 blk off d1 w1) := S2
        have HV1 := Lib.hid V1
        clear S2 V1 S1
        go_wp2
        go_roundw
        case rel => exact ⟨i - j, j, d1, by go_num, rfl, by omega, hj0, by omega, hjb, HV1.out.size.trans hds, Lib.hid (fun t => by rw [HV1.out.at_, rot_left him hgt, V.out]), HS2⟩
        case measure => simp [intOf]; omega
      · have hgz : ¬ (i : Int) > (j : Int) := by omega
        have hwji : IntKind.i64.wrap ((j : Int) - (i : Int)) = ((j - i : Nat) : Int) := by rw [IntKind.wrap_i64]; omega
        have hwmj : IntKind.i64.wrap ((m : Int) + (j : Int)) = ((m + j : Nat) : Int) := by rw [IntKind.wrap_i64]; omega
        have hwmi : IntKind.i64.wrap (((m + j : Nat) : Int) - (i : Int)) = ((m + j - i : Nat) : Int) := by rw [IntKind.wrap_i64]; omega
        have hwmi2 : IntKind.i64.wrap ((m : Int) + (j : Int) - (i : Int)) = ((m + j - i : Nat) : Int) := by rw [IntKind.wrap_i64]; omega
        have hc := hC.out (m - i) (m + j - i) i dk wr hds S1.out (by omega) (by omega)
        go_wp2_with (go_at_call 70; refine hc.mono ?_; rintro e w1 ⟨rfl, d1, V1, S2⟩)
        have HS2 : Aside (SW enc w0 blk off d1 w1) := S2
        have HV1 := Lib.hid V1
        clear S2 V1 S1
        go_wp2
        go_roundw
        case rel => exact ⟨i, j - i, d1, rfl, by go_num, hi0, by omega, him, by omega, HV1.out.size.trans hds, Lib.hid (fun t => by rw [HV1.out.at_, rot_right him (by omega), V.out]), HS2⟩
        case measure => simp [intOf]; omega
#print axioms rotate_s
end Go.Proofs.YtnhflmihjegaiaaDoor.Sym

namespace Go.Proofs.YtnhflmihjegaiaaDoor.Sym
open Go Go.Proofs Go.Shelf Go.RowKit Go.Lib Go.Sort
set_option linter.unusedSimpArgs false
set_option linter.unusedVariables false
variable {α : Type} [Inhabited α]

set_option maxHeartbeats 8000000 in
set_option maxRecDepth 1000000 in
theorem symL (enc : α → Value) (cf : α → α → Int) (due : α → Int) (ix : α → Nat) (hcf : ∀ x y, cf x y < 0 ↔ due x < due y) (g : Nat) (cb : Array Value) (blk off cap a m b : Nat) (d0 d : Array α) (w0 w : World)
    (eg : ∀ args w, (callFunc g args).run Tryd.prog w = .ok (.enter g args) w) (hcmp : CmpLays1 Tryd.prog g cb enc cf blk off d0.size w0) (R : Row1 enc w0 blk off d0) (hs : d0.size = d.size) (S : SW enc w0 blk off d w) (hb : b ≤ d.size) (hsz : d.size < 4611686018427387904)
    (hm : m = a + 1) (hmb : m < b) (h2 : Srt due ix d m b) (hc : Crs ix d a m b) :
    Calls Tryd.prog 47 #[.slice (some ⟨blk, off, none⟩) d.size cap, .int .i64 a, .int .i64 m, .int .i64 b, .func (.func g) #[] cb] w fun e w' => e = .returned (.tuple #[]) ∧ ∃ d', SM due ix d a b d' ∧ SW enc w0 blk off d' w' := by
  have mixed : Tryd.prog.follows Departure.mixedOrders = true := by kernel_rfl
  have hcl0 := R.hO.cells
  simp only [Value.cells] at hcl0
  have hst := R.hO.store Tryd.prog
  have S0 : Aside (SW enc w0 blk off d w) := S
  clear S
  have HC : Aside _ := hcmp
  have HCF := Lib.hid hcf
  clear hcmp hcf
  have hw1 : ((m : Int) - (a : Int) == 1) = true := beq_iff_eq.2 (by omega)
  have hm1 : m ≤ a + 1 := by omega
  have hm2 : a + 1 ≤ m := by omega
  have HM := Lib.hid (mono1 (a := a) h2)
  have HL := Lib.hid (fun (i : Nat) (d' : Array α) B V => left1 (d' := d') (i := i) hm hmb h2 hc B V)
  clear h2 hc hm
  go_enter Tryd.func47, Tryd.ntmps47
  go_wp2
  go_loopw [10, 11] (fun vi vj wr => ∃ (i j : Nat), vi = .int .i64 i ∧ vj = .int .i64 j ∧ m ≤ i ∧ i ≤ j ∧ j ≤ b ∧ Hid (BS (fun h => due d[h]! < due d[a]!) m b i j) ∧ Aside (SW enc w0 blk off d wr)) (fun vi vj _ => (intOf vj).toNat - (intOf vi).toNat)
  case atStart => exact ⟨m, b, rfl, rfl, Nat.le_refl _, by omega, Nat.le_refl _, Lib.hid (BS.start (by omega)), S0⟩
  case round =>
    clear S0
    obtain ⟨i, j, rfl, rfl, hmi, hij, hjb, B, S1⟩ := hrel
    by_cases hlt : i < j
    · have hltz : (i : Int) < (j : Int) := by omega
      obtain ⟨h, hh⟩ : ∃ h, h = (i + j) / 2 := ⟨_, rfl⟩
      have hih : i ≤ h ∧ h < j := by omega
      have hz : ((i : Int) + (j : Int)) / 2 = (h : Int) := by omega
      clear hh
      have hw2 : IntKind.i64.wrap ((h : Int) + 1) = (h : Int) + 1 := by rw [IntKind.wrap_i64]; omega
      rcases Int.lt_or_le (due d[h]!) (due d[a]!) with hv | hv
      · have B2 := Lib.hid (B.out.up HM.out hih.1 hih.2 hv)
        go_wp2_with fail
        obtain ⟨iN1002, hiN1002⟩ : ∃ q, q = h := ⟨_, rfl⟩
        obtain ⟨jN1002, hjN1002⟩ : ∃ q, q = a := ⟨_, rfl⟩
        have ea1002 : ((h : Int)).toNat = iN1002 := by omega
        have pa1002 : (0 : Int) ≤ (h : Int) := by omega
        have ba1002 : (h : Int) < (d.size : Int) := by omega
        have ra1002 : IntKind.i64.wrap ((h : Int)) = (h : Int) := by rw [IntKind.wrap_i64]; omega
        have ec1002 : ((a : Int)).toNat = jN1002 := by omega
        have pc1002 : (0 : Int) ≤ (a : Int) := by omega
        have bc1002 : (a : Int) < (d.size : Int) := by omega
        have rc1002 : IntKind.i64.wrap ((a : Int)) = (a : Int) := by rw [IntKind.wrap_i64]; omega
        obtain ⟨x1002, hx1002⟩ : ∃ x, x = d[h]! := ⟨_, rfl⟩
        obtain ⟨y1002, hy1002⟩ : ∃ x, x = d[a]! := ⟨_, rfl⟩
        have l1002a := S1.out.cl R (by omega) (h) (by omega)
        have l1002b := S1.out.cl R (by omega) (a) (by omega)
        rw [← hx1002, ← hiN1002] at l1002a
        rw [← hy1002, ← hjN1002] at l1002b
        have hc1002 := S1.out.cmp HC.out (by omega) x1002 y1002
        have hv1002 : cf x1002 y1002 < 0 := by rw [hx1002, hy1002]; exact (HCF.out _ _).2 hv
        have hd1002 : decide (cf x1002 y1002 < 0) = true := decide_eq_true hv1002
        clear hx1002 hy1002 hiN1002 hjN1002
        go_wp2_with fail
        go_quiet_grown (first | (go_at_fn g; refine Calls.grown_of (hc1002 _ _)))
        have S2 : Aside (SW enc w0 blk off d (grow (wr.drewN nq) osq)) := S1.out.grown nq osq
        clear l1002a l1002b hc1002 S1
        generalize grow (wr.drewN nq) osq = w2 at S2 ⊢
        clear nq osq
        clear ea1002 ec1002
        go_wp2
        go_roundw
        case rel => exact ⟨h + 1, j, by go_num, rfl, by omega, by omega, hjb, B2, S2⟩
        case measure => simp [intOf]; omega
      · have B2 := Lib.hid (B.out.down HM.out hih.1 hih.2 (show ¬ due d[h]! < due d[a]! by omega))
        go_wp2_with fail
        obtain ⟨iN1003, hiN1003⟩ : ∃ q, q = h := ⟨_, rfl⟩
        obtain ⟨jN1003, hjN1003⟩ : ∃ q, q = a := ⟨_, rfl⟩
        have ea1003 : ((h : Int)).toNat = iN1003 := by omega
        have pa1003 : (0 : Int) ≤ (h : Int) := by omega
        have ba1003 : (h : Int) < (d.size : Int) := by omega
        have ra1003 : IntKind.i64.wrap ((h : Int)) = (h : Int) := by rw [IntKind.wrap_i64]; omega
        have ec1003 : ((a : Int)).toNat = jN1003 := by omega
        have pc1003 : (0 : Int) ≤ (a : Int) := by omega
        have bc1003 : (a : Int) < (d.size : Int) := by omega
        have rc1003 : IntKind.i64.wrap ((a : Int)) = (a : Int) := by rw [IntKind.wrap_i64]; omega
        obtain ⟨x1003, hx1003⟩ : ∃ x, x = d[h]! := ⟨_, rfl⟩
        obtain ⟨y1003, hy1003⟩ : ∃ x, x = d[a]! := ⟨_, rfl⟩
        have l1003a := S1.out.cl R (by omega) (h) (by omega)
        have l1003b := S1.out.cl R (by omega) (a) (by omega)
        rw [← hx1003, ← hiN1003] at l1003a
        rw [← hy1003, ← hjN1003] at l1003b
        have hc1003 := S1.out.cmp HC.out (by omega) x1003 y1003
        have hv1003 : ¬ cf x1003 y1003 < 0 := by rw [hx1003, hy1003]; exact fun h => by have h3 := (HCF.out _ _).1 h; have h4 := hv; omega
        have hd1003 : decide (cf x1003 y1003 < 0) = false := decide_eq_false hv1003
        clear hx1003 hy1003 hiN1003 hjN1003
        go_wp2_with fail
        go_quiet_grown (first | (go_at_fn g; refine Calls.grown_of (hc1003 _ _)))
        have S2 : Aside (SW enc w0 blk off d (grow (wr.drewN nq) osq)) := S1.out.grown nq osq
        clear l1003a l1003b hc1003 S1
        generalize grow (wr.drewN nq) osq = w2 at S2 ⊢
        clear nq osq
        clear ea1003 ec1003
        go_wp2
        go_roundw
        case rel => exact ⟨i, h, rfl, rfl, hmi, by omega, by omega, B2, S2⟩
        case measure => simp [intOf]; omega
    · have hije : j = i := by omega
      subst hije
      obtain ⟨ip, hip⟩ : ∃ q, q + 1 = j := ⟨j - 1, by omega⟩
      have zip : (j : Int) = (ip : Int) + 1 := by omega
      have hipw : IntKind.i64.wrap ((ip : Int) + 1 - 1) = (ip : Int) := by rw [IntKind.wrap_i64]; omega
      go_wp2
      go_loopw [13] (fun v wr => ∃ (k : Nat) (dk : Array α), v = .int .i64 k ∧ a ≤ k ∧ k ≤ ip ∧ dk.size = d.size ∧ Hid (Via (mvL a k) d dk) ∧ Aside (SW enc w0 blk off dk wr)) (fun v _ => ip - (intOf v).toNat)
      case atStart => exact ⟨a, d, rfl, Nat.le_refl _, by omega, rfl, Lib.hid (mvL_start a d), S1⟩
      case round =>
        clear S1
        obtain ⟨k, dk, rfl, hak, hki, hds, V, S1⟩ := hrel
        by_cases hlt : k < ip
        · have hltz : (k : Int) < (ip : Int) := by omega
          have V2 := Lib.hid (mvL_step V.out hak (by omega))
          have hds2 : (swp dk k (k + 1)).size = d.size := V2.out.size
          go_wp2_with fail
          obtain ⟨iN1004, hiN1004⟩ : ∃ q, q = k := ⟨_, rfl⟩
          obtain ⟨jN1004, hjN1004⟩ : ∃ q, q = k + 1 := ⟨_, rfl⟩
          have ea1004 : ((k : Int)).toNat = iN1004 := by omega
          have pa1004 : (0 : Int) ≤ (k : Int) := by omega
          have ba1004 : (k : Int) < (d.size : Int) := by omega
          have ra1004 : IntKind.i64.wrap ((k : Int)) = (k : Int) := by rw [IntKind.wrap_i64]; omega
          have ec1004 : ((k : Int) + 1).toNat = jN1004 := by omega
          have pc1004 : (0 : Int) ≤ (k : Int) + 1 := by omega
          have bc1004 : (k : Int) + 1 < (d.size : Int) := by omega
          have rc1004 : IntKind.i64.wrap ((k : Int) + 1) = (k : Int) + 1 := by rw [IntKind.wrap_i64]; omega
          obtain ⟨x1004, hx1004⟩ : ∃ x, x = dk[k]! := ⟨_, rfl⟩
          obtain ⟨y1004, hy1004⟩ : ∃ x, x = dk[k + 1]! := ⟨_, rfl⟩
          have S2 : Aside (SW enc w0 blk off (swp dk (k) (k + 1)) ((wr.setCell ⟨blk, off + iN1004, none⟩ (enc y1004)).setCell ⟨blk, off + jN1004, none⟩ (enc x1004)).drew) := by rw [hiN1004, hjN1004, hx1004, hy1004]; exact S1.out.swapped R (k) (k + 1) (by omega) (by omega)
          have c1004a := S1.out.c1 R (by omega) (k) (by omega)
          have c1004b := S1.out.c1 R (by omega) (k + 1) (by omega)
          have f1004a := S1.out.f1 R (by omega) (k) (by omega)
          have f1004b := S1.out.f1 R (by omega) (k + 1) (by omega)
          obtain ⟨u1004, c1004c⟩ := S1.out.c2 R (by omega) (k) (k + 1) (by omega) (by omega) (enc y1004)
          rw [← hjN1004, ← hiN1004] at c1004c
          rw [← hx1004, ← hiN1004] at c1004a
          rw [← hy1004, ← hjN1004] at c1004b
          rw [← hiN1004] at f1004a
          rw [← hjN1004] at f1004b
          clear S1 hx1004 hy1004 hiN1004 hjN1004
          go_wp2_with fail
          go_big_region_o
          clear c1004a c1004b c1004c f1004a f1004b
          generalize ((wr.setCell ⟨blk, off + iN1004, none⟩ (enc y1004)).setCell ⟨blk, off + jN1004, none⟩ (enc x1004)).drew = w2 at S2 ⊢
          clear ea1004 ec1004
          generalize swp dk k (k + 1) = dn at *
          go_wp2
          go_roundw
          case rel => exact ⟨k + 1, dn, by go_num, by omega, by omega, hds2, V2, S2⟩
          case measure => simp [intOf]; omega
        · have hkz : ¬ (k : Int) < (ip : Int) := by omega
          have hke : k = j - 1 := by omega
          have V2 := V.out
          rw [hke] at V2
          have HF := Lib.hid (HL.out j dk B.out V2)
          clear V2
          go_wp2
          (try simp only [Exit.inBlock, Exit.then]); refine bodyPost_ret (results_none rfl _ _ _) rfl ?_
          exact ⟨rfl, dk, HF.out, S1.out⟩

set_option maxHeartbeats 8000000 in
set_option maxRecDepth 1000000 in
theorem symR (enc : α → Value) (cf : α → α → Int) (due : α → Int) (ix : α → Nat) (hcf : ∀ x y, cf x y < 0 ↔ due x < due y) (g : Nat) (cb : Array Value) (blk off cap a m b : Nat) (d0 d : Array α) (w0 w : World)
    (eg : ∀ args w, (callFunc g args).run Tryd.prog w = .ok (.enter g args) w) (hcmp : CmpLays1 Tryd.prog g cb enc cf blk off d0.size w0) (R : Row1 enc w0 blk off d0) (hs : d0.size = d.size) (S : SW enc w0 blk off d w) (hb : b ≤ d.size) (hsz : d.size < 4611686018427387904)
    (hm : b = m + 1) (ham : a < m) (hne : ¬ m = a + 1) (h1 : Srt due ix d a m) (hc : Crs ix d a m b) :
    Calls Tryd.prog 47 #[.slice (some ⟨blk, off, none⟩) d.size cap, .int .i64 a, .int .i64 m, .int .i64 b, .func (.func g) #[] cb] w fun e w' => e = .returned (.tuple #[]) ∧ ∃ d', SM due ix d a b d' ∧ SW enc w0 blk off d' w' := by
  have mixed : Tryd.prog.follows Departure.mixedOrders = true := by kernel_rfl
  have hcl0 := R.hO.cells
  simp only [Value.cells] at hcl0
  have hst := R.hO.store Tryd.prog
  have S0 : Aside (SW enc w0 blk off d w) := S
  clear S
  have HC : Aside _ := hcmp
  have HCF := Lib.hid hcf
  clear hcmp hcf
  have hw1 : ((m : Int) - (a : Int) == 1) = false := beq_eq_false_iff_ne.2 (by omega)
  have hw0 : ((b : Int) - (m : Int) == 1) = true := beq_iff_eq.2 (by omega)
  have hm1 : b ≤ m + 1 := by omega
  have hm2 : m + 1 ≤ b := by omega
  have HM := Lib.hid (mono2 (m := m) h1)
  have HL := Lib.hid (fun (i : Nat) (d' : Array α) B V => right1 (d' := d') (i := i) hm ham h1 hc B V)
  clear h1 hc hm
  go_enter Tryd.func47, Tryd.ntmps47
  go_wp2
  go_loopw [14, 15] (fun vi vj wr => ∃ (i j : Nat), vi = .int .i64 i ∧ vj = .int .i64 j ∧ a ≤ i ∧ i ≤ j ∧ j ≤ m ∧ Hid (BS (fun h => due d[h]! ≤ due d[m]!) a m i j) ∧ Aside (SW enc w0 blk off d wr)) (fun vi vj _ => (intOf vj).toNat - (intOf vi).toNat)
  case atStart => exact ⟨a, m, rfl, rfl, Nat.le_refl _, by omega, Nat.le_refl _, Lib.hid (BS.start (by omega)), S0⟩
  case round =>
    clear S0
    obtain ⟨i, j, rfl, rfl, hmi, hij, hjb, B, S1⟩ := hrel
    by_cases hlt : i < j
    · have hltz : (i : Int) < (j : Int) := by omega
      obtain ⟨h, hh⟩ : ∃ h, h = (i + j) / 2 := ⟨_, rfl⟩
      have hih : i ≤ h ∧ h < j := by omega
      have hz : ((i : Int) + (j : Int)) / 2 = (h : Int) := by omega
      clear hh
      have hw2 : IntKind.i64.wrap ((h : Int) + 1) = (h : Int) + 1 := by rw [IntKind.wrap_i64]; omega
      rcases Int.lt_or_le (due d[m]!) (due d[h]!) with hv | hv
      · have B2 := Lib.hid (B.out.down HM.out hih.1 hih.2 (show ¬ due d[h]! ≤ due d[m]! by omega))
        go_wp2_with fail
        obtain ⟨iN1005, hiN1005⟩ : ∃ q, q = m := ⟨_, rfl⟩
        obtain ⟨jN1005, hjN1005⟩ : ∃ q, q = h := ⟨_, rfl⟩
        have ea1005 : ((m : Int)).toNat = iN1005 := by omega
        have pa1005 : (0 : Int) ≤ (m : Int) := by omega
        have ba1005 : (m : Int) < (d.size : Int) := by omega
        have ra1005 : IntKind.i64.wrap ((m : Int)) = (m : Int) := by rw [IntKind.wrap_i64]; omega
        have ec1005 : ((h : Int)).toNat = jN1005 := by omega
        have pc1005 : (0 : Int) ≤ (h : Int) := by omega
        have bc1005 : (h : Int) < (d.size : Int) := by omega
        have rc1005 : IntKind.i64.wrap ((h : Int)) = (h : Int) := by rw [IntKind.wrap_i64]; omega
        obtain ⟨x1005, hx1005⟩ : ∃ x, x = d[m]! := ⟨_, rfl⟩
        obtain ⟨y1005, hy1005⟩ : ∃ x, x = d[h]! := ⟨_, rfl⟩
        have l1005a := S1.out.cl R (by omega) (m) (by omega)
        have l1005b := S1.out.cl R (by omega) (h) (by omega)
        rw [← hx1005, ← hiN1005] at l1005a
        rw [← hy1005, ← hjN1005] at l1005b
        have hc1005 := S1.out.cmp HC.out (by omega) x1005 y1005
        have hv1005 : cf x1005 y1005 < 0 := by rw [hx1005, hy1005]; exact (HCF.out _ _).2 hv
        have hd1005 : decide (cf x1005 y1005 < 0) = true := decide_eq_true hv1005
        clear hx1005 hy1005 hiN1005 hjN1005
        go_wp2_with fail
        go_quiet_grown (first | (go_at_fn g; refine Calls.grown_of (hc1005 _ _)))
        have S2 : Aside (SW enc w0 blk off d (grow (wr.drewN nq) osq)) := S1.out.grown nq osq
        clear l1005a l1005b hc1005 S1
        generalize grow (wr.drewN nq) osq = w2 at S2 ⊢
        clear nq osq
        clear ea1005 ec1005
        go_wp2
        go_roundw
        case rel => exact ⟨i, h, rfl, rfl, hmi, by omega, by omega, B2, S2⟩
        case measure => simp [intOf]; omega
      · have B2 := Lib.hid (B.out.up HM.out hih.1 hih.2 hv)
        go_wp2_with fail
        obtain ⟨iN1006, hiN1006⟩ : ∃ q, q = m := ⟨_, rfl⟩
        obtain ⟨jN1006, hjN1006⟩ : ∃ q, q = h := ⟨_, rfl⟩
        have ea1006 : ((m : Int)).toNat = iN1006 := by omega
        have pa1006 : (0 : Int) ≤ (m : Int) := by omega
        have ba1006 : (m : Int) < (d.size : Int) := by omega
        have ra1006 : IntKind.i64.wrap ((m : Int)) = (m : Int) := by rw [IntKind.wrap_i64]; omega
        have ec1006 : ((h : Int)).toNat = jN1006 := by omega
        have pc1006 : (0 : Int) ≤ (h : Int) := by omega
        have bc1006 : (h : Int) < (d.size : Int) := by omega
        have rc1006 : IntKind.i64.wrap ((h : Int)) = (h : Int) := by rw [IntKind.wrap_i64]; omega
        obtain ⟨x1006, hx1006⟩ : ∃ x, x = d[m]! := ⟨_, rfl⟩
        obtain ⟨y1006, hy1006⟩ : ∃ x, x = d[h]! := ⟨_, rfl⟩
        have l1006a := S1.out.cl R (by omega) (m) (by omega)
        have l1006b := S1.out.cl R (by omega) (h) (by omega)
        rw [← hx1006, ← hiN1006] at l1006a
        rw [← hy1006, ← hjN1006] at l1006b
        have hc1006 := S1.out.cmp HC.out (by omega) x1006 y1006
        have hv1006 : ¬ cf x1006 y1006 < 0 := by rw [hx1006, hy1006]; exact fun h => by have h3 := (HCF.out _ _).1 h; have h4 := hv; omega
        have hd1006 : decide (cf x1006 y1006 < 0) = false := decide_eq_false hv1006
        clear hx1006 hy1006 hiN1006 hjN1006
        go_wp2_with fail
        go_quiet_grown (first | (go_at_fn g; refine Calls.grown_of (hc1006 _ _)))
        have S2 : Aside (SW enc w0 blk off d (grow (wr.drewN nq) osq)) := S1.out.grown nq osq
        clear l1006a l1006b hc1006 S1
        generalize grow (wr.drewN nq) osq = w2 at S2 ⊢
        clear nq osq
        clear ea1006 ec1006
        go_wp2
        go_roundw
        case rel => exact ⟨h + 1, j, by go_num, rfl, by omega, by omega, hjb, B2, S2⟩
        case measure => simp [intOf]; omega
    · have hije : j = i := by omega
      subst hije
      go_wp2
      go_loopw [17] (fun v wr => ∃ (k : Nat) (dk : Array α), v = .int .i64 k ∧ j ≤ k ∧ k ≤ m ∧ dk.size = d.size ∧ Hid (Via (mvR m k) d dk) ∧ Aside (SW enc w0 blk off dk wr)) (fun v _ => (intOf v).toNat)
      case atStart => exact ⟨m, d, rfl, by omega, Nat.le_refl _, rfl, Lib.hid (mvR_start m d), S1⟩
      case round =>
        clear S1
        obtain ⟨k, dk, rfl, hak, hki, hds, V, S1⟩ := hrel
        by_cases hlt : j < k
        · obtain ⟨kp, hkp⟩ : ∃ q, k = q + 1 := ⟨k - 1, by omega⟩
          subst hkp
          have hltz : (kp : Int) + 1 > (j : Int) := by omega
          have hltz2 : (j : Int) < (kp : Int) + 1 := by omega
          have V2 := Lib.hid (mvR_step V.out (by omega) hki (by omega))
          have hds2 : (swp dk (kp + 1) kp).size = d.size := V2.out.size
          have hkw : IntKind.i64.wrap ((kp : Int) + 1 - 1) = (kp : Int) := by rw [IntKind.wrap_i64]; omega
          go_wp2_with fail
          obtain ⟨iN1007, hiN1007⟩ : ∃ q, q = kp + 1 := ⟨_, rfl⟩
          obtain ⟨jN1007, hjN1007⟩ : ∃ q, q = kp := ⟨_, rfl⟩
          have ea1007 : ((kp : Int) + 1).toNat = iN1007 := by omega
          have pa1007 : (0 : Int) ≤ (kp : Int) + 1 := by omega
          have ba1007 : (kp : Int) + 1 < (d.size : Int) := by omega
          have ra1007 : IntKind.i64.wrap ((kp : Int) + 1) = (kp : Int) + 1 := by rw [IntKind.wrap_i64]; omega
          have ec1007 : ((kp : Int)).toNat = jN1007 := by omega
          have pc1007 : (0 : Int) ≤ (kp : Int) := by omega
          have bc1007 : (kp : Int) < (d.size : Int) := by omega
          have rc1007 : IntKind.i64.wrap ((kp : Int)) = (kp : Int) := by rw [IntKind.wrap_i64]; omega
          obtain ⟨x1007, hx1007⟩ : ∃ x, x = dk[kp + 1]! := ⟨_, rfl⟩
          obtain ⟨y1007, hy1007⟩ : ∃ x, x = dk[kp]! := ⟨_, rfl⟩
          have S2 : Aside (SW enc w0 blk off (swp dk (kp + 1) (kp)) ((wr.setCell ⟨blk, off + iN1007, none⟩ (enc y1007)).setCell ⟨blk, off + jN1007, none⟩ (enc x1007)).drew) := by rw [hiN1007, hjN1007, hx1007, hy1007]; exact S1.out.swapped R (kp + 1) (kp) (by omega) (by omega)
          have c1007a := S1.out.c1 R (by omega) (kp + 1) (by omega)
          have c1007b := S1.out.c1 R (by omega) (kp) (by omega)
          have f1007a := S1.out.f1 R (by omega) (kp + 1) (by omega)
          have f1007b := S1.out.f1 R (by omega) (kp) (by omega)
          obtain ⟨u1007, c1007c⟩ := S1.out.c2 R (by omega) (kp + 1) (kp) (by omega) (by omega) (enc y1007)
          rw [← hiN1007, ← hjN1007] at c1007c
          rw [← hx1007, ← hiN1007] at c1007a
          rw [← hy1007, ← hjN1007] at c1007b
          rw [← hiN1007] at f1007a
          rw [← hjN1007] at f1007b
          clear S1 hx1007 hy1007 hiN1007 hjN1007
          go_wp2_with fail
          go_big_region_o
          clear c1007a c1007b c1007c f1007a f1007b
          generalize ((wr.setCell ⟨blk, off + iN1007, none⟩ (enc y1007)).setCell ⟨blk, off + jN1007, none⟩ (enc x1007)).drew = w2 at S2 ⊢
          clear ea1007 ec1007
          simp only [Nat.add_sub_cancel] at V2
          generalize swp dk (kp + 1) kp = dn at *
          go_wp2
          go_roundw
          case rel => exact ⟨kp, dn, by go_num, by omega, by omega, hds2, V2, S2⟩
          case measure => simp [intOf]
        · have hkz : ¬ (k : Int) > (j : Int) := by omega
          have hke : k = j := by omega
          have V2 := V.out
          rw [hke] at V2
          have HF := Lib.hid (HL.out j dk B.out V2)
          clear V2
          go_wp2
          (try simp only [Exit.inBlock, Exit.then]); refine bodyPost_ret (results_none rfl _ _ _) rfl ?_
          exact ⟨rfl, dk, HF.out, S1.out⟩
#print axioms symL
#print axioms symR
end Go.Proofs.YtnhflmihjegaiaaDoor.Sym
