/- slices.SortStableFunc at fewer than twenty elements; the comparison of report.Open. -/
import Derived.Test.YtnhflmihjegaiaaDoorPx0
import Derived.Test.YtnhflmihjegaiaaDoorShelf
import Derived.Lib.OwnBridge
import Derived.Deep.RegionHeld3
import Derived.Deep.QuietTactic
import Derived.BigQuiet
namespace Go.Proofs.YtnhflmihjegaiaaDoor
open Go.RowKit Go.Sort Go.Shelf Go.Lib Go.Proofs.YtnhflmihjegaiaaDoorW.PrintWords P
set_option linter.unusedSimpArgs false
set_option linter.unusedVariables false

/-- What lies in another block than the row's lies there still in a 'sortWorld'. -/
theorem cell_other {α : Type} [Inhabited α] (enc : α → Value) (W : World) (blk off n : Nat) (dk : Array α) (os : Array Obj) (a : Addr) (h1 : a.block ≠ blk) (h2 : a.block < W.heap.size) : (sortWorld enc W blk off n dk os).cell? a = W.cell? a := by
  unfold sortWorld
  rw [cell?_grow _ _ _ (by simp [putRow, mapBlock, Sort.ahead]; exact h2), cell?_putRow_other enc _ blk off dk a (Or.inl h1)]
  rfl

set_option maxRecDepth 100000 in
set_option maxHeartbeats 2000000 in
theorem closure26 (W : World) (sb : Nat) (ad : Addr) (n c i j : Nat) (hi : i < n) (hj : j < n) (x y : Int) (hs : W.cell? ⟨sb, 5, none⟩ = some (.slice (some ad) n c))
    (hx : W.cell? ⟨(ad.add (i * 12)).block, (ad.add (i * 12)).off + 10, none⟩ = some (.int .i64 x)) (hy : W.cell? ⟨(ad.add (j * 12)).block, (ad.add (j * 12)).off + 10, none⟩ = some (.int .i64 y)) :
    Calls Tryd.prog 26 #[.int .i64 (i : Int), .int .i64 (j : Int), .pointer (some ⟨sb, 0, none⟩)] W fun e w' => e = .returned (.int .i64 (Lib.compareInt x y)) ∧ ∃ q, w' = W.drewN q := by
  have hcon := fun W' => Tryd.cmp_Compare_int x y W'
  have h1 : (0 : Int) ≤ (i : Int) := by omega
  have h2 : (0 : Int) ≤ (j : Int) := by omega
  have h3 : (i : Int) < (n : Int) := by omega
  have h4 : (j : Int) < (n : Int) := by omega
  generalize Lib.compareInt x y = r at hcon ⊢
  go_enter Tryd.func26, Tryd.ntmps26
  go_wp2_with fail
  go_region_held3 (fun w' => w'.cell? ⟨sb, 5, none⟩ = some (.slice (some ad) n c) ∧ w'.cell? ⟨(ad.add (i * 12)).block, (ad.add (i * 12)).off + 10, none⟩ = some (.int .i64 x) ∧ w'.cell? ⟨(ad.add (j * 12)).block, (ad.add (j * 12)).off + 10, none⟩ = some (.int .i64 y)) (go_keep)
    (first
      | (go_at_call 27; refine (hcon _).mono ?_; rintro e w' ⟨rfl, rfl⟩))
  go_wp2
  go_ret
  exact ⟨rfl, 1, rfl⟩

set_option maxRecDepth 100000 in
set_option maxHeartbeats 2000000 in
theorem stable36 (P0 : World → Prop) (v fv : Value) (n : Nat) (w : World) (hsz : n < 20)
    (hcon : Calls Tryd.prog 46 #[v, .int .i64 0, .int .i64 (n : Int), fv] w fun e w' => e = .returned (.tuple #[]) ∧ P0 w') :
    Calls Tryd.prog 36 #[v, .int .i64 (n : Int), fv] w fun e w' => e = .returned (.tuple #[]) ∧ P0 w' := by
  have g1 : decide ((20 : Int) ≤ (n : Int)) = false := decide_eq_false (by omega)
  have g2 : decide ((20 : Int) < (n : Int)) = false := decide_eq_false (by omega)
  have g3 : ¬ (20 : Int) ≤ (n : Int) := by omega
  have g4 : ¬ (20 : Int) < (n : Int) := by omega
  go_enter Tryd.func36, Tryd.ntmps36
  go_wp2
  refine wp_loop_rounds 1 ?_
  rw [rounds_succ]
  go_wp2_with (go_at_call 46; refine hcon.mono ?_; rintro e w1 ⟨rfl, hp1⟩)
  refine wp_loop_rounds 1 ?_
  rw [rounds_succ]
  go_wp2
  all_goals first | (exfalso; omega) | (go_end0; exact ⟨rfl, hp1⟩) | exact ⟨rfl, hp1⟩

set_option maxRecDepth 100000 in
theorem stable25w (P0 : World → Prop) (p : Option Addr) (m cap : Nat) (fv : Value) (w : World) (hsz : m < 20)
    (hcon : Calls Tryd.prog 46 #[.slice p m cap, .int .i64 0, .int .i64 (m : Int), fv] w fun e w' => e = .returned (.tuple #[]) ∧ P0 w') :
    Calls Tryd.prog 25 #[.slice p m cap, fv] w fun e w' => e = .returned (.tuple #[]) ∧ P0 w' := by
  have h36 := stable36 P0 (.slice p m cap) fv m w hsz hcon
  clear hcon
  go_enter Tryd.func25, Tryd.ntmps25
  go_wp2_with (go_at_call 36; refine h36.mono ?_; rintro e w1 ⟨rfl, hp1⟩)
  go_end0
  exact ⟨rfl, hp1⟩
end Go.Proofs.YtnhflmihjegaiaaDoor
