/- report.Open at fewer than twenty orders, whatever the memory: the walk. -/
import Derived.Test.YtnhflmihjegaiaaDoorOpenB
namespace Go.Proofs.YtnhflmihjegaiaaDoor
open Go.RowKit Go.Sort Go.Shelf Go.Lib Go.Proofs.YtnhflmihjegaiaaDoorW.PrintWords P
set_option linter.unusedSimpArgs false
set_option linter.unusedVariables false

set_option maxRecDepth 100000 in
set_option maxHeartbeats 4000000 in
theorem Open_any (w : World) (a0 a6 a7 : Int) (A1 A2 A3 A4 A5 A8 A9 : Option Addr) (n1 n2 n3 n4 n8 n9 c1 c2 c3 c4 c5 c8 c9 : Nat) (l : List S116) (hC : Kd.C k116 w A5 l.length l) (hc : l.length ≤ c5) (hl : l.length < 20) :
    Calls Tryd.prog 14 #[.agg #[.int .i64 a0, .slice A1 n1 c1, .slice A2 n2 c2, .slice A3 n3 c3, .slice A4 n4 c4, .slice A5 l.length c5, .int .i64 a6, .int .i64 a7, .slice A8 n8 c8, .slice A9 n9 c9]] w fun e w' =>
      ∃ v, e = .returned v ∧ Kd.R (Kd.int .i64) 3 w' w.heap.size (fun _ => True) v (openL l) ∧ Below w.heap.size w w' := by
  have hu32 := Tryd.underlying32
  have hu116 := Tryd.underlying116
  have hu114 := Tryd.underlying114
  have HCl := Lib.hid (show ∀ ad, A5 = some ad → 0 < l.length → ad.block < w.heap.size from fun ad e h => by subst e; exact Kd.C_lt hC h (by decide))
  have hB0 := (Below.refl w.heap.size w).alloc (Nat.le_refl _) (.cells #[.int .i64 a0, .slice A1 n1 c1, .slice A2 n2 c2, .slice A3 n3 c3, .slice A4 n4 c4, .slice A5 l.length c5, .int .i64 a6, .int .i64 a7, .slice A8 n8 c8, .slice A9 n9 c9] 32)
  have hs0 : (w.alloc (.cells #[.int .i64 a0, .slice A1 n1 c1, .slice A2 n2 c2, .slice A3 n3 c3, .slice A4 n4 c4, .slice A5 l.length c5, .int .i64 a6, .int .i64 a7, .slice A8 n8 c8, .slice A9 n9 c9] 32)).cell? ⟨w.heap.size, 5, none⟩ = some (.slice A5 l.length c5) := by simp [go_sem]
  have hz0 : (w.alloc (.cells #[.int .i64 a0, .slice A1 n1 c1, .slice A2 n2 c2, .slice A3 n3 c3, .slice A4 n4 c4, .slice A5 l.length c5, .int .i64 a6, .int .i64 a7, .slice A8 n8 c8, .slice A9 n9 c9] 32)).heap.size = w.heap.size + 1 := by simp [go_sem]
  have hC0 := Kd.C_below hC hB0
  go_enter Tryd.func14, Tryd.ntmps14
  go_wp2_with fail
  generalize (w.alloc (.cells #[.int .i64 a0, .slice A1 n1 c1, .slice A2 n2 c2, .slice A3 n3 c3, .slice A4 n4 c4, .slice A5 l.length c5, .int .i64 a6, .int .i64 a7, .slice A8 n8 c8, .slice A9 n9 c9] 32)) = w0 at *
  have HZ := Lib.hid hz0
  have HB0 := Lib.hid hB0
  have HS0 := Lib.hid hs0
  have HC0 := Lib.hid hC0
  clear hz0 hB0 hs0 hC0 hC
  go_loopw [3, 9] (fun v i wr => ∃ k : Nat, k ≤ l.length ∧ i = .int .i64 k ∧ Hid (Kd.R (Kd.int .i64) 3 wr w0.heap.size (fun _ => True) v (ints (opK l k))) ∧ Hid (Below w0.heap.size w0 wr)) (fun _ i _ => l.length - (intOf i).toNat)
  case atStart => exact ⟨0, Nat.zero_le _, rfl, Lib.hid (Kd.R_nil _ _ _ _ _), Lib.hid (Below.refl _ _)⟩
  case round =>
    obtain ⟨k, hk, rfl, R3, hB⟩ := hrel
    by_cases hlt : k < l.length
    · obtain ⟨ad, e0, g0, g1, g2, g3, g4, g5, g6, g7, g8, g9, g10, g11⟩ := at_T116 (Kd.C_below HC0.out hB.out) (k : Int) (by omega) (by omega)
      subst e0
      rw [Int.toNat_natCast] at g0 g1 g2 g3 g4 g5 g6 g7 g8 g9 g10 g11
      have hsc := Lib.hid (opK_succ l k)
      have hln := opK_len l k
      generalize opK l k = xs at *
      generalize rd_T116 l (k : Int) = s at *
      cases hsh : s.f1 with
      | false =>
        have g11 : wr.cell? ⟨(ad.add (k * 12)).block, (ad.add (k * 12)).off + 11, none⟩ = some (.bool false) := by rw [← hsh]; exact g11
        have hBa := (Below.refl wr.heap.size wr).alloc (Nat.le_refl _) (.cells #[.string s.f0.f0, .string s.f0.f1, .int .i64 s.f0.f2, .int .i64 s.f0.f3, .int .i64 s.f0.f4, .int .i64 s.f0.f5, .int .i64 s.f0.f6, .int .i64 s.f0.f7, .int .i64 s.f0.f8, .int .i64 s.f0.f9, .int .i64 s.f0.f10, .bool false] 116)
        have hza : (wr.alloc (.cells #[.string s.f0.f0, .string s.f0.f1, .int .i64 s.f0.f2, .int .i64 s.f0.f3, .int .i64 s.f0.f4, .int .i64 s.f0.f5, .int .i64 s.f0.f6, .int .i64 s.f0.f7, .int .i64 s.f0.f8, .int .i64 s.f0.f9, .int .i64 s.f0.f10, .bool false] 116)).heap.size = wr.heap.size + 1 := by simp [go_sem]
        have R3a := Kd.R_below R3.out hBa
        have hBw := hB.out.size
        have hBc := hB.out.trans (hBa.mono hBw)
        have hBz := hBc.size
        have hil := ints_length xs
        have hsc2 := Lib.hid (show opK l (k + 1) = xs ++ [k] by rw [hsc.out, hsh]; rfl)
        clear hBa
        go_wp2_with (first
          | ((with_reducible refine gate_builtin (b := .append) (xs := #[.tmp 17, .tmp 19]) rfl ?_); at_builtin; refine Kd.R_append (Kd.int .i64) (w0 := wr.alloc (.cells #[.string s.f0.f0, .string s.f0.f1, .int .i64 s.f0.f2, .int .i64 s.f0.f3, .int .i64 s.f0.f4, .int .i64 s.f0.f5, .int .i64 s.f0.f6, .int .i64 s.f0.f7, .int .i64 s.f0.f8, .int .i64 s.f0.f9, .int .i64 s.f0.f10, .bool false] 116)) w0.heap.size rfl (.tmp 17) (.tmp 19) 51 3 (.int .i64 0) 8 rfl Tryd.underlying51 info3 rfl (by decide) (by omega) _ (ints xs) (k : Int) [.int .i64 (k : Int)] (fun _ => True) (fun _ => False) ?_ ?_ ?_ ?_ ?_ R3a ?_ ?_ ?_ ?_; rfl; (first | rfl | (rw [hza]; rfl) | (simp [go_sem]; done)); rfl; (exact fun _ hk => hk.elim); (exact fun _ _ => trivial); (exact Below.refl _ _); omega; omega; intro v5 wc R5 hb5 hg5 hat5))
        have hBd := hBc.trans hb5
        clear hb5 hg5 hat5 R3a
        go_wp2
        go_roundw
        case rel => exact ⟨k + 1, by omega, by go_num, by rw [hsc2.out]; simpa [ints] using Lib.hid R5, Lib.hid hBd⟩
        case measure => simp [intOf]; omega
      | true =>
        have g11 : wr.cell? ⟨(ad.add (k * 12)).block, (ad.add (k * 12)).off + 11, none⟩ = some (.bool true) := by rw [← hsh]; exact g11
        have hBa := (Below.refl wr.heap.size wr).alloc (Nat.le_refl _) (.cells #[.string s.f0.f0, .string s.f0.f1, .int .i64 s.f0.f2, .int .i64 s.f0.f3, .int .i64 s.f0.f4, .int .i64 s.f0.f5, .int .i64 s.f0.f6, .int .i64 s.f0.f7, .int .i64 s.f0.f8, .int .i64 s.f0.f9, .int .i64 s.f0.f10, .bool true] 116)
        have hza : (wr.alloc (.cells #[.string s.f0.f0, .string s.f0.f1, .int .i64 s.f0.f2, .int .i64 s.f0.f3, .int .i64 s.f0.f4, .int .i64 s.f0.f5, .int .i64 s.f0.f6, .int .i64 s.f0.f7, .int .i64 s.f0.f8, .int .i64 s.f0.f9, .int .i64 s.f0.f10, .bool true] 116)).heap.size = wr.heap.size + 1 := by simp [go_sem]
        have R3a := Kd.R_below R3.out hBa
        have hBw := hB.out.size
        have hBc := hB.out.trans (hBa.mono hBw)
        have hBz := hBc.size
        have hil := ints_length xs
        have hsc2 := Lib.hid (show opK l (k + 1) = xs by rw [hsc.out, hsh]; simp)
        clear hBa
        go_wp2
        go_roundw
        case rel => exact ⟨k + 1, by omega, by go_num, by rw [hsc2.out]; exact Lib.hid R3a, Lib.hid hBc⟩
        case measure => simp [intOf]; omega
    · have hkl : k = l.length := by omega
      have R3 := R3.out
      rw [hkl] at R3
      have hge : (l.length : Int) ≤ (k : Int) := by omega
      have hz := HZ.out
      have hs1 := (hB.out.cell (World.block_lt_of_cell? _ _ HS0.out)).trans HS0.out
      have hst := fun (v : Value) (hR : Kd.R (Kd.int .i64) 3 wr w0.heap.size (fun _ => True) v (ints (opK l l.length))) => stable25 l wr w0.heap.size v w.heap.size A5 c5 (Kd.C_below HC0.out hB.out) hs1 hR
        (fun k h => by have := Kd.R_base hR k h; omega) (fun hp k ad h e => by have := Kd.R_base hR k h; have := HCl.out ad e hp; omega) hl
      have hst2 := hst _ R3
      clear hst hkl hs1
      go_wp2_with (go_at_call 25; refine hst2.mono ?_; rintro e w2 ⟨rfl, R4, B4⟩)
      go_ret
      have B5 := hB.out.trans B4
      exact ⟨_, rfl, Kd.R_lower R4 (by omega), HB0.out.trans (B5.mono (by omega))⟩

#print axioms Open_any
end Go.Proofs.YtnhflmihjegaiaaDoor
