/- slices.Concat of two rows of spans; span.Union. -/
import Derived.Test.YtioglhaofcmebaaSpF
import Derived.Shelf.Spec.SlicesGrow
namespace Go.Proofs.Ytioglhaofcmebaa
open Go.RowKit Go.Shelf Go.Lib Go.Proofs.YtioglhaofcmebaaW.PrintWords P
set_option linter.unusedSimpArgs false
set_option linter.unusedVariables false

theorem Grow_any (w : World) (n : Nat) (hn : n ≤ 4000000) : Calls Try.prog 49 #[.slice none 0 0, .int .i64 n] w fun e w' => ∃ v, e = .returned v ∧ SpR w' w.heap.size v [] ∧ Below w.heap.size w w' := by
  rcases Nat.eq_zero_or_pos n with rfl | hpos
  · exact (Any8.slices_Grow_room Try.growSp none 0 0 0 w (Nat.le_refl _) (by omega) (by omega) (by omega)).mono fun e w' ⟨he, hw⟩ => ⟨_, he, Kd.R_nil _ _ _ _ _, by rw [hw]; exact Below.refl _ _⟩
  · obtain ⟨i0, hi0, hparts⟩ : ∃ i0, Try.prog.info? 23 = some i0 ∧ (i0.zero, i0.size, i0.bytes) = (some (.agg #[(.int .i64 0), (.int .i64 0)]), 2, 16) := by
      have := info23
      cases h : Try.prog.info? 23 with
      | none => rw [h] at this; simp at this
      | some i0 => rw [h] at this; exact ⟨i0, rfl, by simpa using this⟩
    have hz : i0.zero = some (.agg #[(.int .i64 0), (.int .i64 0)]) := (Prod.mk.inj hparts).1
    have hs : i0.size = 2 := (Prod.mk.inj (Prod.mk.inj hparts).2).1
    have hb : i0.bytes = 16 := (Prod.mk.inj (Prod.mk.inj hparts).2).2
    have hcon := Any8.slices_Grow_grow Try.growSp i0 _ hi0 hz (by omega) none 0 0 n [] w (Nat.le_refl _) (by omega) (by rw [hb]; omega) (by omega) (by simp) (fun _ => rfl) (fun a h => by cases h)
    refine hcon.mono ?_
    rintro e w' ⟨he, hw⟩
    have hge := grownCap_ge w (0 + n) 0 23
    have hle := grownCap_le_maxLen w (0 + n) 0 23 (by unfold maxLen; omega)
    change e = .returned (.slice (some ⟨w.heap.size, 0, none⟩) 0 (grownCap w (0 + n) 0 23)) at he
    change w' = w.drew.alloc (.cells (([] : List Value).toArray ++ Builtin.zeroCells #[.int .i64 0, .int .i64 0] (0 + n - 0) ++ Builtin.zeroCells #[.int .i64 0, .int .i64 0] (grownCap w (0 + n) 0 23 - (0 + n))) 23) at hw
    generalize grownCap w (0 + n) 0 23 = cap at *
    refine ⟨_, he, ?_, ?_⟩
    · have := SpR_of_block (w := w') (base := w.heap.size) (g := w.heap.size) (cap := cap) (xs := []) (cur := ([] : List Value).toArray ++ Builtin.zeroCells #[.int .i64 0, .int .i64 0] (0 + n - 0) ++ Builtin.zeroCells #[.int .i64 0, .int .i64 0] (cap - (0 + n))) (Nat.le_refl _) (by rw [hw]; exact Go.heap_alloc_new w.drew _) (by simp) hle (by simp [Builtin.zeroCells]; omega) (by simp [flat])
      exact this
    · rw [hw]
      exact (Below.refl _ w).drew.alloc (Nat.le_refl _) _

/-- The first k of two. -/
def both (a b : List S23) : Nat → List S23
  | 0 => []
  | 1 => a
  | _ => a ++ b

set_option maxRecDepth 100000 in
set_option maxHeartbeats 4000000 in
theorem Concat_any (w : World) (sb : Nat) (A0 : Option Addr) (c0 : Nat) (a : List S23) (A1 : Option Addr) (c1 : Nat) (b : List S23)
    (h0 : w.cell? ⟨sb, 0, none⟩ = some (.slice A0 a.length c0)) (h1 : w.cell? ⟨sb, 1, none⟩ = some (.slice A1 b.length c1))
    (hC0 : SpC w A0 a) (hc0 : a.length ≤ c0) (hC1 : SpC w A1 b) (hc1 : b.length ≤ c1) (ha : a.length ≤ 1000000) (hb : b.length ≤ 1000000) :
    Calls Try.prog 42 #[.slice (some ⟨sb, 0, none⟩) 2 2] w fun e w' => ∃ v, e = .returned v ∧ SpR w' w.heap.size v (a ++ b) ∧ Below w.heap.size w w' := by
  have HC0 := Lib.hid hC0
  have HC1 := Lib.hid hC1
  clear hC0 hC1
  go_enter Try.func42, Try.ntmps42
  go_wp2_with fail
  go_loopw [3, 11] (fun z i wr => ∃ k : Nat, k ≤ 2 ∧ i = .int .i64 k ∧ z = .int .i64 (((both a b k).length : Nat) : Int) ∧ w = wr) (fun _ i _ => 2 - (intOf i).toNat)
  case atStart => exact ⟨0, Nat.zero_le _, rfl, rfl, rfl⟩
  case round =>
    obtain ⟨k, hk, rfl, rfl, rfl⟩ := hrel
    by_cases e0 : k = 0
    · subst e0
      simp only [both, List.length_nil]
      go_wp2
      go_roundw
      case rel => exact ⟨1, by omega, rfl, by simp [both], by first | rfl | trivial⟩
      case measure => simp [intOf]
    · by_cases e1 : k = 1
      · subst e1
        simp only [both]
        go_wp2
        go_roundw
        case rel => exact ⟨2, by omega, rfl, by simp [both], by first | rfl | trivial⟩
        case measure => simp [intOf]
      · have e2 : k = 2 := by omega
        subst e2
        simp only [both]
        have hn : (a ++ b).length ≤ 4000000 := by simp; omega
        have hg := Grow_any w (a ++ b).length hn
        generalize (a ++ b).length = n at hg ⊢
        go_wp2_with fail
        refine hg.mono ?_
        rintro e w2 ⟨v2, rfl, R2, B2⟩
        go_wp2_with fail
        clear hn hg
        go_loopw [6, 27] (fun v i wr => ∃ k : Nat, k ≤ 2 ∧ i = .int .i64 k ∧ Hid (SpR wr w.heap.size v (both a b k)) ∧ Hid (Below w.heap.size w wr)) (fun _ i _ => 2 - (intOf i).toNat)
        case atStart => exact ⟨0, Nat.zero_le _, rfl, Lib.hid R2, Lib.hid B2⟩
        case round =>
          obtain ⟨k, hk, rfl, hR, hB⟩ := hrel
          replace h0 := (hB.out.cell (World.block_lt_of_cell? w _ h0)).trans h0
          replace h1 := (hB.out.cell (World.block_lt_of_cell? w _ h1)).trans h1
          by_cases e0 : k = 0
          · subst e0
            simp only [both] at hR
            go_wp2_with (first
            | ((with_reducible refine gate_builtin (b := .append) (xs := #[.tmp 31, .tmp 32]) rfl ?_); at_builtin; refine Kd.R_append_rows k23 (w0 := wr) w.heap.size rfl (.tmp 31) (.tmp 32) 28 23 (.agg #[(.int .i64 0), (.int .i64 0)]) 16 rfl Try.underlying28 info23 rfl (by decide) (by omega) _ [] a _ _ _ (fun _ => True) (fun _ => False) rfl rfl hR.out (Kd.C_below HC0.out hB.out) (fun _ _ h => h) (fun _ h => h.elim) (fun _ _ => trivial) (Below.refl _ _) hB.out.size (by first | omega | (simp; omega)) ?_; intro v5 w5 R5 hb5 hg5 hat5))
            have hB5 := hB.out.trans (hb5.mono (Nat.le_refl _))
            clear hR hB hb5 hg5 hat5 h0 h1
            go_wp2
            go_roundw
            case rel => exact ⟨1, by omega, rfl, by simpa [both] using Lib.hid R5, Lib.hid hB5⟩
            case measure => simp [intOf]
          · by_cases e1 : k = 1
            · subst e1
              simp only [both] at hR
              go_wp2_with (first
              | ((with_reducible refine gate_builtin (b := .append) (xs := #[.tmp 31, .tmp 32]) rfl ?_); at_builtin; refine Kd.R_append_rows k23 (w0 := wr) w.heap.size rfl (.tmp 31) (.tmp 32) 28 23 (.agg #[(.int .i64 0), (.int .i64 0)]) 16 rfl Try.underlying28 info23 rfl (by decide) (by omega) _ a b _ _ _ (fun _ => True) (fun _ => False) rfl rfl hR.out (Kd.C_below HC1.out hB.out) (fun _ _ h => h) (fun _ h => h.elim) (fun _ _ => trivial) (Below.refl _ _) hB.out.size (by first | omega | (simp; omega)) ?_; intro v5 w5 R5 hb5 hg5 hat5))
              have hB5 := hB.out.trans (hb5.mono (Nat.le_refl _))
              clear hR hB hb5 hg5 hat5 h0 h1
              go_wp2
              go_roundw
              case rel => exact ⟨2, by omega, rfl, by simpa [both] using Lib.hid R5, Lib.hid hB5⟩
              case measure => simp [intOf]
            · have e2 : k = 2 := by omega
              subst e2
              simp only [both] at hR
              go_wp2
              go_ret
              exact ⟨_, rfl, hR.out, hB.out⟩

set_option maxRecDepth 100000 in
set_option maxHeartbeats 400000 in
theorem Union_any (w : World) (A0 : Option Addr) (c0 : Nat) (a : List S23) (A1 : Option Addr) (c1 : Nat) (b : List S23)
    (hC0 : SpC w A0 a) (hc0 : a.length ≤ c0) (hC1 : SpC w A1 b) (hc1 : b.length ≤ c1) (ha : a.length ≤ 400000) (hb : b.length ≤ 400000) :
    Calls Try.prog 22 #[.slice A0 a.length c0, .slice A1 b.length c1] w fun e w' => ∃ v, e = .returned v ∧ SpR w' w.heap.size v (canonL (a ++ b)) ∧ Below w.heap.size w w' := by
  have hBa := (Below.refl w.heap.size w).alloc (Nat.le_refl _) (.cells #[.slice A0 a.length c0, .slice A1 b.length c1] 28)
  have k0 : (w.alloc (.cells #[.slice A0 a.length c0, .slice A1 b.length c1] 28)).cell? ⟨w.heap.size, 0, none⟩ = some (.slice A0 a.length c0) := by rw [World.cell?_alloc_at _ _ _ _ rfl]; rfl
  have k1 : (w.alloc (.cells #[.slice A0 a.length c0, .slice A1 b.length c1] 28)).cell? ⟨w.heap.size, 1, none⟩ = some (.slice A1 b.length c1) := by rw [World.cell?_alloc_at _ _ _ _ rfl]; rfl
  have hC0' := Kd.C_below hC0 hBa
  have hC1' := Kd.C_below hC1 hBa
  have hsz : (w.alloc (.cells #[.slice A0 a.length c0, .slice A1 b.length c1] 28)).heap.size = w.heap.size + 1 := by simp
  generalize hW : w.alloc (.cells #[.slice A0 a.length c0, .slice A1 b.length c1] 28) = W at *
  have hcon := Concat_any W w.heap.size A0 c0 a A1 c1 b k0 k1 hC0' hc0 hC1' hc1 (by omega) (by omega)
  clear hC0' hC1' k0 k1
  clear hC0 hC1
  go_enter Try.func22, Try.ntmps22
  go_wp2_with fail
  clear hW
  refine hcon.mono ?_
  rintro e w2 ⟨v2, rfl, R2, B2⟩
  obtain ⟨A2, c2, rfl, hl2, hC2⟩ := Kd.R_reads R2
  have hcan := Canon_any w2 A2 c2 (a ++ b) hC2 hl2 (by simp; omega)
  have hB2 := hBa.trans (B2.mono (by omega))
  rw [List.length_append] at hcan
  have HB2 := Lib.hid hB2
  have hbs := hB2.size
  clear R2 B2 hC2 hcon hBa hB2
  go_wp2_with fail
  refine hcan.mono ?_
  rintro e w3 ⟨v3, rfl, R3, B3⟩
  go_wp2
  go_ret
  exact ⟨v3, rfl, Kd.R_lower R3 hbs, HB2.out.trans (B3.mono hbs)⟩

#print axioms Union_any
end Go.Proofs.Ytioglhaofcmebaa
