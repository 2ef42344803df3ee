/- Minus of the reference, whatever the memory. -/
import Derived.Test.YtioglhaofcmebaaExt
import Derived.Test.YtioglhaofcmebaaMathN
import Derived.Test.YtioglhaofcmebaaMathR
import Derived.Deep.AppendLies
import Derived.Deep.RegionHeld3
import Derived.IntWalk
import Derived.Laws.AppendOwn
namespace Go.Proofs.Ytioglhaofcmebaa.P.Ext
open Go.RowKit Go.Proofs.YtioglhaofcmebaaW.PrintWords Go.Proofs.YtioglhaofcmebaaW.PrintMore Go.Proofs.Ytioglhaofcmebaa P
attribute [local go_sem] max2_int min2_int max_two min_two
set_option linter.unusedSimpArgs false
set_option linter.unusedVariables false

set_option maxRecDepth 100000 in
set_option maxHeartbeats 4000000 in
theorem refMinus_any (w : World) (A : Option Addr) (c : Nat) (a : List S23) (B : Option Addr) (d : Nat) (b : List S23) (hA : SpC w A a) (ha : a.length ≤ c) (hB : SpC w B b) (hb : b.length ≤ d) (hla : a.length ≤ 100000) (hlb : b.length ≤ 100000) :
    Calls Try.prog 27 #[.slice A a.length c, .slice B b.length d] w fun e w' => ∃ v, e = .returned v ∧ SpR w' w.heap.size v (minusR (canonL a) (canonL b)) ∧ Below w.heap.size w w' := by
  have hu23 := Try.underlying23
  have ca := sawmillref03_Canon.calls 300000 A c a (canonL a) w hA ha (refCanon _ a (by omega) hla)
  have cb := fun (w1 : World) (hB1 : SpC w1 B b) => sawmillref03_Canon.calls 300000 B d b (canonL b) w1 hB1 hb (refCanon _ b (by omega) hlb)
  obtain ⟨x1, x2, x3⟩ := canonL_can a
  obtain ⟨y1, y2, y3⟩ := canonL_can b
  have HL := Lib.hid (minusR_len (canonL a) (canonL b) x1 y1)
  have HS := Lib.hid (minusR_take (canonL a) (canonL b))
  have hx : (canonL a).length ≤ 100000 := by omega
  have hy : (canonL b).length ≤ 100000 := by omega
  clear x2 y2 x3 y3
  generalize canonL a = x at *
  generalize canonL b = y at *
  clear x1 y1
  go_enter Try.func27, Try.ntmps27
  go_wp2_with fail
  refine ca.mono ?_
  rintro e w1 ⟨v1, rfl, R1, B1⟩
  have hB1 := Kd.C_below hB B1
  have ap := R1
  clear hA hB
  go_wp2_with fail
  refine (cb w1 hB1).mono ?_
  rintro e w2 ⟨v2, rfl, R2, B2⟩
  have hap : Apart v2 v1 := fun k h1 h2 => by
    have h3 := SpR_lt R1 _ h2
    have h4 := Kd.R_base R2 _ h1
    omega
  clear ap hB1
  replace R1 := Kd.R_below R1 B2
  replace R2 := Kd.R_lower R2 B1.size
  have hBb := B1.trans (B2.mono B1.size)
  clear B1 B2
  obtain ⟨A2, c2, rfl⟩ := Kd.R_slice R2
  go_wp2_with fail
  go_loopw [5, 7] (fun v i wr => ∃ k : Nat, k ≤ y.length ∧ i = .int .i64 k ∧ Hid (SpR wr w.heap.size v (minusR x (y.take k))) ∧ Hid (SpR wr w.heap.size (.slice A2 y.length c2) y) ∧ Hid (Apart (.slice A2 y.length c2) v) ∧ Hid (Below w.heap.size w wr)) (fun _ i _ => y.length - (intOf i).toNat)
  case atStart => exact ⟨0, Nat.zero_le _, rfl, Lib.hid R1, Lib.hid R2, Lib.hid hap, Lib.hid hBb⟩
  case round =>
    clear R1 R2 hap hBb
    obtain ⟨k, hk, rfl, R1, R2, hap, hB⟩ := hrel
    by_cases hlt : k < y.length
    · have hms := Lib.hid (HS.out k hlt)
      have hln := HL.out k
      generalize minusR x (y.take k) = out at *
      obtain ⟨A1, c1, rfl⟩ := Kd.R_slice R1.out
      go_wp2_with fail
      go_loopw [8, 9] (fun v i wr => ∃ j : Nat, j ≤ out.length ∧ i = .int .i64 j ∧ Hid (SpR wr w.heap.size v (roundM y[k] (out.take j))) ∧ Hid (SpR wr w.heap.size (.slice A1 out.length c1) out) ∧ Hid (SpR wr w.heap.size (.slice A2 y.length c2) y) ∧ Hid (Apart (.slice A2 y.length c2) v) ∧ Hid (Apart (.slice A1 out.length c1) v) ∧ Hid (Below w.heap.size w wr)) (fun _ i _ => out.length - (intOf i).toNat)
      case atStart => exact ⟨0, Nat.zero_le _, rfl, Lib.hid (Kd.R_nil _ _ _ _ _), R1, R2, Lib.hid (Apart.nil _).symm, Lib.hid (Apart.nil _).symm, hB⟩
      case round =>
        clear R1 R2 hap hB
        obtain ⟨j, hj, rfl, R3, R1, R2, ha2, ha1, hB⟩ := hrel
        by_cases hlj : j < out.length
        · obtain ⟨ad, e0, g0, g1⟩ := at_T23 (Kd.R_reads' R1.out).2.2 (j : Int) (by omega) (by omega)
          subst e0
          rw [rd23 out j hlj, Int.toNat_natCast] at g0 g1
          obtain ⟨bd, e1, f0, f1⟩ := at_T23 (Kd.R_reads' R2.out).2.2 (k : Int) (by omega) (by omega)
          subst e1
          rw [rd23 y k hlt, Int.toNat_natCast] at f0 f1
          have hrt := Lib.hid (roundM_take y[k] out j hlj)
          have hrl := roundM_len2 y[k] (out.take j)
          have hrj : (out.take j).length ≤ j := by rw [List.length_take]; exact Nat.min_le_left _ _
          generalize roundM y[k] (out.take j) = nx at *
          generalize out[j] = s at *
          generalize y[k] = t at *
          have hbw := hB.out.size
          go_wp2_with fail
          have hn1 := World.new_ne wr _ g0
          have hn2 := World.new_ne wr _ f0
          go_region_held3 (fun w' => w'.cell? (ad.add (j * 2)) = some (.int .i64 s.f0) ∧ w'.cell? ⟨(ad.add (j * 2)).block, (ad.add (j * 2)).off + 1, none⟩ = some (.int .i64 s.f1) ∧ w'.cell? (bd.add (k * 2)) = some (.int .i64 t.f0)) (go_keep) (fail)
          all_goals
            have e1 : (if t.f0 < s.f1 then t.f0 else s.f1) = min s.f1 t.f0 := by split <;> omega
            rw [e1]
            clear e1
            have hBa := ((Below.refl wr.heap.size wr).alloc (Nat.le_refl _) (.cells #[.int .i64 s.f0, .int .i64 (min s.f1 t.f0)] 23)).drew
            have l0 : (wr.alloc (.cells #[.int .i64 s.f0, .int .i64 (min s.f1 t.f0)] 23)).drew.cell? ⟨wr.heap.size, 0, none⟩ = some (.int .i64 s.f0) := by simp [go_sem]
            have l1 : (wr.alloc (.cells #[.int .i64 s.f0, .int .i64 (min s.f1 t.f0)] 23)).drew.cell? ⟨wr.heap.size, 1, none⟩ = some (.int .i64 (min s.f1 t.f0)) := by simp [go_sem]
            have g0' := (hBa.cell (World.block_lt_of_cell? _ _ g0)).trans g0
            have g1' := (hBa.cell (World.block_lt_of_cell? _ _ g1)).trans g1
            have f1' := (hBa.cell (World.block_lt_of_cell? _ _ f1)).trans f1
            have R1a := Kd.R_below R1.out hBa
            have R2a := Kd.R_below R2.out hBa
            have R3lt := SpR_lt R3.out
            have R3a := Kd.R_below R3.out hBa
            have hBl := hB.out.trans (hBa.mono hbw)
            have hz : (wr.alloc (.cells #[.int .i64 s.f0, .int .i64 (min s.f1 t.f0)] 23)).drew.heap.size = wr.heap.size + 1 := by simp [go_sem]
            clear hn1 hn2 g0 g1 f0 f1 hBa
            generalize (wr.alloc (.cells #[.int .i64 s.f0, .int .i64 (min s.f1 t.f0)] 23)).drew = wl at *
            go_wp2_with fail
            have hn1 := World.new_ne wl _ g0'
            have hn2 := World.new_ne wl _ f1'
            go_region_held3 (fun w' => w'.cell? (ad.add (j * 2)) = some (.int .i64 s.f0) ∧ w'.cell? ⟨(ad.add (j * 2)).block, (ad.add (j * 2)).off + 1, none⟩ = some (.int .i64 s.f1) ∧ w'.cell? ⟨(bd.add (k * 2)).block, (bd.add (k * 2)).off + 1, none⟩ = some (.int .i64 t.f1)) (go_keep) (fail)
            all_goals
              have e2 : (if s.f0 < t.f1 then t.f1 else s.f0) = max s.f0 t.f1 := by split <;> omega
              rw [e2]
              clear e2
              have hBb := ((Below.refl wl.heap.size wl).alloc (Nat.le_refl _) (.cells #[.int .i64 (max s.f0 t.f1), .int .i64 s.f1] 23)).drew
              have r0 : (wl.alloc (.cells #[.int .i64 (max s.f0 t.f1), .int .i64 s.f1] 23)).drew.cell? ⟨wr.heap.size + 1, 0, none⟩ = some (.int .i64 (max s.f0 t.f1)) := by rw [← hz]; simp [go_sem]
              have r1 : (wl.alloc (.cells #[.int .i64 (max s.f0 t.f1), .int .i64 s.f1] 23)).drew.cell? ⟨wr.heap.size + 1, 1, none⟩ = some (.int .i64 s.f1) := by rw [← hz]; simp [go_sem]
              have l0' := (hBb.cell (World.block_lt_of_cell? _ _ l0)).trans l0
              have l1' := (hBb.cell (World.block_lt_of_cell? _ _ l1)).trans l1
              have R1b := Kd.R_below R1a hBb
              have R2b := Kd.R_below R2a hBb
              have R3b := Kd.R_below R3a hBb
              have hBm := hBl.trans (hBb.mono hBl.size)
              have hBy := hBm.size
              clear hn1 hn2 g0' g1' f1' hBb l0 l1 R1a R2a R3a hBl hz R1 R2 R3 hB
              generalize (wl.alloc (.cells #[.int .i64 (max s.f0 t.f1), .int .i64 s.f1] 23)).drew = wm at *
              have q1 : (nx.length + 2) * 16 ≤ 140737488355328 := by omega
              by_cases hL : min s.f1 t.f0 > s.f0
              · have hL : s.f0 < min s.f1 t.f0 := hL
                have dL : decide (s.f0 < min s.f1 t.f0) = true := decide_eq_true hL
                have hl1 : left1 t s = [⟨s.f0, min s.f1 t.f0⟩] := by unfold left1; rw [if_pos hL]
                by_cases hR : max s.f0 t.f1 < s.f1
                · have dR : decide (max s.f0 t.f1 < s.f1) = true := decide_eq_true hR
                  have hr1 : right1 t s = [⟨max s.f0 t.f1, s.f1⟩] := by unfold right1; rw [if_pos hR]
                  go_wp2_with (first
                    | ((with_reducible refine gate_builtin (b := .append) (xs := #[.tmp 67, .tmp 69]) rfl ?_); at_builtin; refine Kd.R_append k23 (w0 := wm) w.heap.size rfl (.tmp 67) (.tmp 69) 28 23 (.agg #[(.int .i64 0), (.int .i64 0)]) 16 rfl Try.underlying28 info23 rfl (by decide) (by omega) _ nx ⟨s.f0, min s.f1 t.f0⟩ [.int .i64 (s.f0), .int .i64 (min s.f1 t.f0)] (fun _ => True) (fun _ => False) ?_ ?_ ?_ ?_ ?_ R3b ?_ ?_ ?_ ?_; rfl; rfl; (exact k23_mkM _ _ _ ⟨s.f0, min s.f1 t.f0⟩); (exact fun _ hk => hk.elim); (exact fun _ _ => trivial); (exact Below.refl _ _); omega; (try simp only [List.length_append, List.length_cons, List.length_nil]); omega; intro v5 wc R5 hb5 hg5 hat5; have r0c := hg5.cell r0 (fun h => by have : wr.heap.size + 1 < wr.heap.size := R3lt _ h.symm; omega); have r1c := hg5.cell r1 (fun h => by have : wr.heap.size + 1 < wr.heap.size := R3lt _ h.symm; omega); have hBc := hBm.trans hb5; have hBz := hBc.size)
                    | ((with_reducible refine gate_builtin (b := .append) (xs := #[.tmp 76, .tmp 78]) rfl ?_); at_builtin; refine Kd.R_append k23 (w0 := wc) w.heap.size rfl (.tmp 76) (.tmp 78) 28 23 (.agg #[(.int .i64 0), (.int .i64 0)]) 16 rfl Try.underlying28 info23 rfl (by decide) (by omega) _ (nx ++ [⟨s.f0, min s.f1 t.f0⟩]) ⟨max s.f0 t.f1, s.f1⟩ [.int .i64 (max s.f0 t.f1), .int .i64 (s.f1)] (fun _ => True) (fun _ => False) ?_ ?_ ?_ ?_ ?_ R5 ?_ ?_ ?_ ?_; rfl; rfl; (exact k23_mkM _ _ _ ⟨max s.f0 t.f1, s.f1⟩); (exact fun _ hk => hk.elim); (exact fun _ _ => trivial); (exact Below.refl _ _); omega; (try simp only [List.length_append, List.length_cons, List.length_nil]); omega; intro v6 wd R6 hb6 hg6 hat6))
                  have R1c := SpR_grown R1b hg5 (fun k hk => ha1.out k hk)
                  have R2c := SpR_grown R2b hg5 (fun k hk => ha2.out k hk)
                  have ha1c := ha1.out.grown R1b hat5
                  have ha2c := ha2.out.grown R2b hat5
                  have R1d := SpR_grown R1c hg6 (fun k hk => ha1c k hk)
                  have R2d := SpR_grown R2c hg6 (fun k hk => ha2c k hk)
                  have ha1d := (ha1c).grown R1c hat6
                  have ha2d := (ha2c).grown R2c hat6
                  have hBd := hBc.trans hb6
                  clear R1c R2c R5 hBc hb6 hg6 hat6
                  go_wp2
                  go_roundw
                  case rel => exact ⟨j + 1, by omega, by go_num, by rw [hrt.out, hl1, hr1]; exact Lib.hid R6, Lib.hid R1d, Lib.hid R2d, Lib.hid (ha2d), Lib.hid (ha1d), Lib.hid hBd⟩
                  case measure => simp [intOf]; omega
                · have dR : decide (max s.f0 t.f1 < s.f1) = false := decide_eq_false hR
                  have hr1 : right1 t s = [] := by unfold right1; rw [if_neg hR]
                  go_wp2_with (first
                    | ((with_reducible refine gate_builtin (b := .append) (xs := #[.tmp 67, .tmp 69]) rfl ?_); at_builtin; refine Kd.R_append k23 (w0 := wm) w.heap.size rfl (.tmp 67) (.tmp 69) 28 23 (.agg #[(.int .i64 0), (.int .i64 0)]) 16 rfl Try.underlying28 info23 rfl (by decide) (by omega) _ nx ⟨s.f0, min s.f1 t.f0⟩ [.int .i64 (s.f0), .int .i64 (min s.f1 t.f0)] (fun _ => True) (fun _ => False) ?_ ?_ ?_ ?_ ?_ R3b ?_ ?_ ?_ ?_; rfl; rfl; (exact k23_mkM _ _ _ ⟨s.f0, min s.f1 t.f0⟩); (exact fun _ hk => hk.elim); (exact fun _ _ => trivial); (exact Below.refl _ _); omega; (try simp only [List.length_append, List.length_cons, List.length_nil]); omega; intro v5 wc R5 hb5 hg5 hat5; have r0c := hg5.cell r0 (fun h => by have : wr.heap.size + 1 < wr.heap.size := R3lt _ h.symm; omega); have r1c := hg5.cell r1 (fun h => by have : wr.heap.size + 1 < wr.heap.size := R3lt _ h.symm; omega)))
                  have R1c := SpR_grown R1b hg5 (fun k hk => ha1.out k hk)
                  have R2c := SpR_grown R2b hg5 (fun k hk => ha2.out k hk)
                  have ha1c := ha1.out.grown R1b hat5
                  have ha2c := ha2.out.grown R2b hat5
                  have hBc := hBm.trans hb5
                  have hBz := hBc.size
                  clear R1b R2b R3b hBm hb5 hg5 hat5 l0' l1' r0 r1
                  go_wp2
                  go_roundw
                  case rel => exact ⟨j + 1, by omega, by go_num, by rw [hrt.out, hl1, hr1]; simp only [List.append_nil]; exact Lib.hid R5, Lib.hid R1c, Lib.hid R2c, Lib.hid (ha2c), Lib.hid (ha1c), Lib.hid hBc⟩
                  case measure => simp [intOf]; omega
              · have hL : ¬ s.f0 < min s.f1 t.f0 := hL
                have dL : decide (s.f0 < min s.f1 t.f0) = false := decide_eq_false hL
                have hl1 : left1 t s = [] := by unfold left1; rw [if_neg hL]
                by_cases hR : max s.f0 t.f1 < s.f1
                · have dR : decide (max s.f0 t.f1 < s.f1) = true := decide_eq_true hR
                  have hr1 : right1 t s = [⟨max s.f0 t.f1, s.f1⟩] := by unfold right1; rw [if_pos hR]
                  go_wp2_with (first
                    | ((with_reducible refine gate_builtin (b := .append) (xs := #[.tmp 76, .tmp 78]) rfl ?_); at_builtin; refine Kd.R_append k23 (w0 := wm) w.heap.size rfl (.tmp 76) (.tmp 78) 28 23 (.agg #[(.int .i64 0), (.int .i64 0)]) 16 rfl Try.underlying28 info23 rfl (by decide) (by omega) _ nx ⟨max s.f0 t.f1, s.f1⟩ [.int .i64 (max s.f0 t.f1), .int .i64 (s.f1)] (fun _ => True) (fun _ => False) ?_ ?_ ?_ ?_ ?_ R3b ?_ ?_ ?_ ?_; rfl; rfl; (exact k23_mkM _ _ _ ⟨max s.f0 t.f1, s.f1⟩); (exact fun _ hk => hk.elim); (exact fun _ _ => trivial); (exact Below.refl _ _); omega; (try simp only [List.length_append, List.length_cons, List.length_nil]); omega; intro v6 wd R6 hb6 hg6 hat6))
                  have R1d := SpR_grown R1b hg6 (fun k hk => ha1.out k hk)
                  have R2d := SpR_grown R2b hg6 (fun k hk => ha2.out k hk)
                  have ha1d := (ha1.out).grown R1b hat6
                  have ha2d := (ha2.out).grown R2b hat6
                  have hBd := hBm.trans hb6
                  clear R1b R2b R3b hBm hb6 hg6 hat6
                  go_wp2
                  go_roundw
                  case rel => exact ⟨j + 1, by omega, by go_num, by rw [hrt.out, hl1, hr1]; simp only [List.append_nil]; exact Lib.hid R6, Lib.hid R1d, Lib.hid R2d, Lib.hid (ha2d), Lib.hid (ha1d), Lib.hid hBd⟩
                  case measure => simp [intOf]; omega
                · have dR : decide (max s.f0 t.f1 < s.f1) = false := decide_eq_false hR
                  have hr1 : right1 t s = [] := by unfold right1; rw [if_neg hR]
                  go_wp2
                  go_roundw
                  case rel => exact ⟨j + 1, by omega, by go_num, by rw [hrt.out, hl1, hr1]; simp only [List.append_nil]; exact Lib.hid R3b, Lib.hid R1b, Lib.hid R2b, Lib.hid (ha2.out), Lib.hid (ha1.out), Lib.hid hBm⟩
                  case measure => simp [intOf]; omega
        · have hjl : j = out.length := by omega
          have R3 := R3.out
          rw [hjl, List.take_length, ← hms.out] at R3
          have hge : (out.length : Int) ≤ (j : Int) := by omega
          clear hjl
          go_wp2
          go_roundw
          case rel => exact ⟨k + 1, by omega, by go_num, Lib.hid R3, R2, ha2, hB⟩
          case measure => simp [intOf]; omega
    · have hge : (y.length : Int) ≤ (k : Int) := by omega
      have R1 := R1.out
      rw [show k = y.length by omega, List.take_length] at R1
      go_wp2
      go_ret
      exact ⟨_, rfl, R1, hB.out⟩

def sawmillref03_Minus.f (a b : List S23) : Option (List S23) := if a.length ≤ 100000 ∧ b.length ≤ 100000 then some (minusR (canonL a) (canonL b)) else none
theorem sawmillref03_Minus.calls (A0 : Option Addr) (c0 : Nat) (l0 : List S23) (A1 : Option Addr) (c1 : Nat) (l1 : List S23) (r : List S23) (w : World) (hr0 : Kd.C k23 w A0 l0.length l0) (hc0 : l0.length ≤ c0) (hr1 : Kd.C k23 w A1 l1.length l1) (hc1 : l1.length ≤ c1) (h : sawmillref03_Minus.f l0 l1 = some r) :
    Calls Try.prog 27 #[.slice A0 l0.length c0, .slice A1 l1.length c1] w fun e w' => ∃ v0_ : Value, e = .returned (v0_) ∧ Kd.R k23 23 w' w.heap.size (fun _ => True) v0_ r ∧ Below w.heap.size w w' := by
  unfold sawmillref03_Minus.f at h
  split at h
  · rename_i hh; cases h; exact refMinus_any w A0 c0 l0 A1 c1 l1 hr0 hc0 hr1 hc1 hh.1 hh.2
  · cases h

#print axioms sawmillref03_Minus.calls
end Go.Proofs.Ytioglhaofcmebaa.P.Ext
