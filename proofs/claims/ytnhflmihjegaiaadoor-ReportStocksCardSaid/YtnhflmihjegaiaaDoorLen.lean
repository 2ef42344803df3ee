/- span.Len, whatever the memory. -/
import Derived.Test.YtnhflmihjegaiaaDoorPx0
import Derived.Lib.Hide
namespace Go.Proofs.YtnhflmihjegaiaaDoor
open Go.RowKit Go.Proofs.YtnhflmihjegaiaaDoorW.PrintWords P
set_option linter.unusedSimpArgs false
set_option linter.unusedVariables false

def lenG (a b : Int) : Int := if a ≥ b then 0 else if a < 0 then (if wrap64 (9223372036854775807 + a) < b then 9223372036854775807 else wrap64 (b - a)) else wrap64 (b - a)

theorem empty38 (a b : Int) (w : World) : Calls Tryd.prog 38 #[.agg #[.int .i64 a, .int .i64 b]] w fun e w' => e = .returned (.bool (decide (a ≥ b))) ∧ Below w.heap.size w w' := by
  have hB := (Below.refl w.heap.size w).alloc (Nat.le_refl _) (.cells #[.int .i64 a, .int .i64 b] 90)
  go_enter Tryd.func38, Tryd.ntmps38
  go_wp2
  go_ret
  first | exact ⟨rfl, hB⟩ | exact ⟨by simp, hB⟩

set_option maxRecDepth 100000 in
theorem Len28 (a b : Int) (w : World) : Calls Tryd.prog 28 #[.agg #[.int .i64 a, .int .i64 b]] w fun e w' => e = .returned (.int .i64 (lenG a b)) ∧ Below w.heap.size w w' := by
  have hB := (Below.refl w.heap.size w).alloc (Nat.le_refl _) (.cells #[.int .i64 a, .int .i64 b] 90)
  have c0 : (w.alloc (.cells #[.int .i64 a, .int .i64 b] 90)).cell? ⟨w.heap.size, 0, none⟩ = some (.int .i64 a) := by simp [go_sem]
  have c1 : (w.alloc (.cells #[.int .i64 a, .int .i64 b] 90)).cell? ⟨w.heap.size, 1, none⟩ = some (.int .i64 b) := by simp [go_sem]
  have he := empty38 a b (w.alloc (.cells #[.int .i64 a, .int .i64 b] 90))
  unfold lenG
  have HB := Lib.hid hB
  by_cases h1 : a ≥ b
  · have d1 : decide (a ≥ b) = true := decide_eq_true h1
    rw [if_pos h1]
    go_enter Tryd.func28, Tryd.ntmps28
    go_wp2_with (go_at_call 38; refine he.mono ?_; rintro e w2 ⟨rfl, B2⟩)
    go_ret
    exact ⟨rfl, HB.out.trans (B2.mono HB.out.size)⟩
  · have d1 : decide (a ≥ b) = false := decide_eq_false h1
    rw [if_neg h1]
    by_cases h2 : a < 0
    · have d2 : decide (a < 0) = true := decide_eq_true h2
      rw [if_pos h2]
      by_cases h3 : wrap64 (9223372036854775807 + a) < b
      · have d3 : decide (wrap64 (9223372036854775807 + a) < b) = true := decide_eq_true h3
        rw [if_pos h3]
        go_enter Tryd.func28, Tryd.ntmps28
        go_wp2_with (go_at_call 38; refine he.mono ?_; rintro e w2 ⟨rfl, B2⟩; replace c0 := (B2.cell (World.block_lt_of_cell? _ _ c0)).trans c0; replace c1 := (B2.cell (World.block_lt_of_cell? _ _ c1)).trans c1)
        go_ret
        exact ⟨rfl, HB.out.trans (B2.mono HB.out.size)⟩
      · have d3 : decide (wrap64 (9223372036854775807 + a) < b) = false := decide_eq_false h3
        rw [if_neg h3]
        go_enter Tryd.func28, Tryd.ntmps28
        go_wp2_with (go_at_call 38; refine he.mono ?_; rintro e w2 ⟨rfl, B2⟩; replace c0 := (B2.cell (World.block_lt_of_cell? _ _ c0)).trans c0; replace c1 := (B2.cell (World.block_lt_of_cell? _ _ c1)).trans c1)
        go_ret
        exact ⟨rfl, HB.out.trans (B2.mono HB.out.size)⟩
    · have d2 : decide (a < 0) = false := decide_eq_false h2
      rw [if_neg h2]
      go_enter Tryd.func28, Tryd.ntmps28
      go_wp2_with (go_at_call 38; refine he.mono ?_; rintro e w2 ⟨rfl, B2⟩; replace c0 := (B2.cell (World.block_lt_of_cell? _ _ c0)).trans c0; replace c1 := (B2.cell (World.block_lt_of_cell? _ _ c1)).trans c1)
      go_ret
      exact ⟨rfl, HB.out.trans (B2.mono HB.out.size)⟩

#print axioms Len28
end Go.Proofs.YtnhflmihjegaiaaDoor
