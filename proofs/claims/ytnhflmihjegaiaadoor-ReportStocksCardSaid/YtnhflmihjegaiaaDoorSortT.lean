/- slices.SortFunc at report's tallies, with the program's own comparison. -/
import Derived.Test.YtnhflmihjegaiaaDoorPx0
import Derived.Test.YtnhflmihjegaiaaDoorShelf
import Derived.Deep.RegionHeld3
namespace Go.Proofs.YtnhflmihjegaiaaDoor
open Go.RowKit Go.Sort Go.Shelf Go.Lib Go.Proofs.YtnhflmihjegaiaaDoorW.PrintWords P
set_option linter.unusedSimpArgs false
set_option linter.unusedVariables false

instance : Inhabited S42 := ⟨z42⟩
def encT (x : S42) : List Value := [.int .i64 x.f0, .int .i64 x.f1, .int .i64 x.f2, .int .i64 x.f3, .int .i64 x.f4]
def or3 (a b c : Int) : Int := if a ≠ 0 then a else if b ≠ 0 then b else c
def cfT (x y : S42) : Int := or3 (Lib.compareInt x.f0 y.f0) (Lib.compareInt x.f1 y.f1) (Lib.compareInt x.f2 y.f2)

set_option maxRecDepth 100000 in
set_option maxHeartbeats 2000000 in
theorem or41 (W : World) (g : Nat) (a b c : Int) (h0 : W.cell? ⟨g, 0, none⟩ = some (.int .i64 a)) (h1 : W.cell? ⟨g, 1, none⟩ = some (.int .i64 b)) (h2 : W.cell? ⟨g, 2, none⟩ = some (.int .i64 c)) :
    Calls Tryd.prog 41 #[.slice (some ⟨g, 0, none⟩) 3 3] W fun e w' => e = .returned (.int .i64 (or3 a b c)) ∧ w' = W := by
  unfold or3
  by_cases ha : a = 0
  · by_cases hb : b = 0
    · by_cases hc : c = 0
      · subst ha hb hc
        simp only [ne_eq, not_true_eq_false, if_false]
        go_enter Tryd.func41, Tryd.ntmps41
        go_wp2
        refine wp_loop_rounds 4 ?_
        rw [rounds_succ]
        go_wp2
        rw [rounds_succ]
        go_wp2
        rw [rounds_succ]
        go_wp2
        rw [rounds_succ]
        go_wp2
        go_ret
        exact ⟨rfl, rfl⟩
      · subst ha hb
        simp only [ne_eq, not_true_eq_false, if_false]
        go_enter Tryd.func41, Tryd.ntmps41
        go_wp2
        refine wp_loop_rounds 3 ?_
        rw [rounds_succ]
        go_wp2
        rw [rounds_succ]
        go_wp2
        rw [rounds_succ]
        go_wp2
        go_ret
        exact ⟨rfl, rfl⟩
    · subst ha
      simp only [ne_eq, not_true_eq_false, if_false, hb, not_false_eq_true, if_true]
      go_enter Tryd.func41, Tryd.ntmps41
      go_wp2
      refine wp_loop_rounds 2 ?_
      rw [rounds_succ]
      go_wp2
      rw [rounds_succ]
      go_wp2
      go_ret
      exact ⟨rfl, rfl⟩
  · simp only [ne_eq, ha, not_false_eq_true, if_true]
    go_enter Tryd.func41, Tryd.ntmps41
    go_wp2
    refine wp_loop_rounds 1 ?_
    rw [rounds_succ]
    go_wp2
    go_ret
    exact ⟨rfl, rfl⟩

/-- W2 is W with blocks laid on top: a structure, so that no tactic rewrites by it. -/
structure Gr (W W2 : World) : Prop where
  out : ∃ os, W2 = grow W os

set_option maxRecDepth 100000 in
set_option maxHeartbeats 4000000 in
theorem compare30 (x y : S42) (W : World) : Calls Tryd.prog 30 #[.agg #[.int .i64 x.f0, .int .i64 x.f1, .int .i64 x.f2, .int .i64 x.f3, .int .i64 x.f4], .agg #[.int .i64 y.f0, .int .i64 y.f1, .int .i64 y.f2, .int .i64 y.f3, .int .i64 y.f4]] W fun e w' => e = .returned (.int .i64 (cfT x y)) ∧ ∃ q os', w' = grow (W.drewN q) os' := by
  have hp := fun W' => Tryd.cmp_Compare_int x.f0 y.f0 W'
  have hl := fun W' => Tryd.cmp_Compare_int x.f1 y.f1 W'
  have hg := fun W' => Tryd.cmp_Compare_int x.f2 y.f2 W'
  unfold cfT
  generalize Lib.compareInt x.f0 y.f0 = rp at *
  generalize Lib.compareInt x.f1 y.f1 = rl at *
  generalize Lib.compareInt x.f2 y.f2 = rg at *
  have hor := fun (W' : World) => or41 (W'.alloc (.cells #[.int .i64 rp, .int .i64 rl, .int .i64 rg] 3)).drew W'.heap.size rp rl rg (by simp [go_sem]) (by simp [go_sem]) (by simp [go_sem])
  generalize or3 rp rl rg = r at *
  have e1 : (W.alloc (.cells #[.int .i64 x.f0, .int .i64 x.f1, .int .i64 x.f2, .int .i64 x.f3, .int .i64 x.f4] 129)).alloc (.cells #[.int .i64 y.f0, .int .i64 y.f1, .int .i64 y.f2, .int .i64 y.f3, .int .i64 y.f4] 129) = grow W (#[Obj.cells #[.int .i64 x.f0, .int .i64 x.f1, .int .i64 x.f2, .int .i64 x.f3, .int .i64 x.f4] 129] ++ #[Obj.cells #[.int .i64 y.f0, .int .i64 y.f1, .int .i64 y.f2, .int .i64 y.f3, .int .i64 y.f4] 129]) := by rw [alloc_eq_grow, alloc_eq_grow, grow_grow]
  have c0 : ((W.alloc (.cells #[.int .i64 x.f0, .int .i64 x.f1, .int .i64 x.f2, .int .i64 x.f3, .int .i64 x.f4] 129)).alloc (.cells #[.int .i64 y.f0, .int .i64 y.f1, .int .i64 y.f2, .int .i64 y.f3, .int .i64 y.f4] 129)).cell? ⟨W.heap.size, 0, none⟩ = some (.int .i64 x.f0) := by simp [go_sem]
  have c1 : ((W.alloc (.cells #[.int .i64 x.f0, .int .i64 x.f1, .int .i64 x.f2, .int .i64 x.f3, .int .i64 x.f4] 129)).alloc (.cells #[.int .i64 y.f0, .int .i64 y.f1, .int .i64 y.f2, .int .i64 y.f3, .int .i64 y.f4] 129)).cell? ⟨W.heap.size, 1, none⟩ = some (.int .i64 x.f1) := by simp [go_sem]
  have c2 : ((W.alloc (.cells #[.int .i64 x.f0, .int .i64 x.f1, .int .i64 x.f2, .int .i64 x.f3, .int .i64 x.f4] 129)).alloc (.cells #[.int .i64 y.f0, .int .i64 y.f1, .int .i64 y.f2, .int .i64 y.f3, .int .i64 y.f4] 129)).cell? ⟨W.heap.size, 2, none⟩ = some (.int .i64 x.f2) := by simp [go_sem]
  have d0 : ((W.alloc (.cells #[.int .i64 x.f0, .int .i64 x.f1, .int .i64 x.f2, .int .i64 x.f3, .int .i64 x.f4] 129)).alloc (.cells #[.int .i64 y.f0, .int .i64 y.f1, .int .i64 y.f2, .int .i64 y.f3, .int .i64 y.f4] 129)).cell? ⟨W.heap.size + 1, 0, none⟩ = some (.int .i64 y.f0) := by simp [go_sem]
  have d1 : ((W.alloc (.cells #[.int .i64 x.f0, .int .i64 x.f1, .int .i64 x.f2, .int .i64 x.f3, .int .i64 x.f4] 129)).alloc (.cells #[.int .i64 y.f0, .int .i64 y.f1, .int .i64 y.f2, .int .i64 y.f3, .int .i64 y.f4] 129)).cell? ⟨W.heap.size + 1, 1, none⟩ = some (.int .i64 y.f1) := by simp [go_sem]
  have d2 : ((W.alloc (.cells #[.int .i64 x.f0, .int .i64 x.f1, .int .i64 x.f2, .int .i64 x.f3, .int .i64 x.f4] 129)).alloc (.cells #[.int .i64 y.f0, .int .i64 y.f1, .int .i64 y.f2, .int .i64 y.f3, .int .i64 y.f4] 129)).cell? ⟨W.heap.size + 1, 2, none⟩ = some (.int .i64 y.f2) := by simp [go_sem]
  have E1 : Gr W _ := ⟨_, e1⟩
  clear e1
  go_enter Tryd.func30, Tryd.ntmps30
  go_wp2_with fail
  generalize (W.alloc (.cells #[.int .i64 x.f0, .int .i64 x.f1, .int .i64 x.f2, .int .i64 x.f3, .int .i64 x.f4] 129)).alloc (.cells #[.int .i64 y.f0, .int .i64 y.f1, .int .i64 y.f2, .int .i64 y.f3, .int .i64 y.f4] 129) = W2 at *
  go_region_held3 (fun w' => w'.cell? ⟨W.heap.size, 0, none⟩ = some (.int .i64 x.f0) ∧ w'.cell? ⟨W.heap.size, 1, none⟩ = some (.int .i64 x.f1) ∧ w'.cell? ⟨W.heap.size, 2, none⟩ = some (.int .i64 x.f2) ∧ w'.cell? ⟨W.heap.size + 1, 0, none⟩ = some (.int .i64 y.f0) ∧ w'.cell? ⟨W.heap.size + 1, 1, none⟩ = some (.int .i64 y.f1) ∧ w'.cell? ⟨W.heap.size + 1, 2, none⟩ = some (.int .i64 y.f2)) (go_keep)
    (first
      | (go_at_call 27; refine (hp _).mono ?_; clear hp; rintro e w' ⟨rfl, rfl⟩)
      | (go_at_call 27; refine (hl _).mono ?_; clear hl; rintro e w' ⟨rfl, rfl⟩)
      | (go_at_call 27; refine (hg _).mono ?_; clear hg; rintro e w' ⟨rfl, rfl⟩)
      | (go_at_call 41; refine (hor W2).mono ?_; rintro e w' ⟨rfl, rfl⟩))
  go_wp2
  go_ret
  obtain ⟨os, hos⟩ := E1.out
  refine ⟨rfl, 1, os ++ #[.cells #[.int .i64 rp, .int .i64 rl, .int .i64 rg] 3], ?_⟩
  rw [hos, alloc_eq_grow, grow_grow]
  rfl
theorem cmpLays30 (blk off size : Nat) (w : World) : CmpLays Tryd.prog 30 #[] encT 5 cfT blk off size w :=
  fun _ _ _ _ x y => compare30 x y _

theorem cmp_neg (a b : Int) : Lib.compareInt a b < 0 ↔ a < b := by
  unfold Lib.compareInt
  by_cases h1 : a < b
  · simp [h1]
  · by_cases h2 : b < a <;> simp [h1, h2]
theorem cmp_zero (a b : Int) : Lib.compareInt a b = 0 ↔ a = b := by
  unfold Lib.compareInt
  by_cases h1 : a < b
  · simp [h1]; omega
  · by_cases h2 : b < a
    · simp [h1, h2]; omega
    · simp [h1, h2]; omega
/-- The order of the rows. -/
def ltT (x y : S42) : Prop := x.f0 < y.f0 ∨ (x.f0 = y.f0 ∧ (x.f1 < y.f1 ∨ (x.f1 = y.f1 ∧ x.f2 < y.f2)))
theorem ltT_iff (x y : S42) : ltOf cfT x y = true ↔ ltT x y := by
  unfold ltOf cfT or3 ltT
  rw [decide_eq_true_eq]
  have h1 := cmp_neg x.f0 y.f0
  have h2 := cmp_zero x.f0 y.f0
  have h3 := cmp_neg x.f1 y.f1
  have h4 := cmp_zero x.f1 y.f1
  have h5 := cmp_neg x.f2 y.f2
  generalize Lib.compareInt x.f0 y.f0 = a at *
  generalize Lib.compareInt x.f1 y.f1 = b at *
  generalize Lib.compareInt x.f2 y.f2 = c at *
  by_cases ha : a = 0
  · have e0 := h2.1 ha
    by_cases hb : b = 0
    · have e1 := h4.1 hb
      rw [if_neg (by simpa using ha), if_neg (by simpa using hb)]
      omega
    · have e1 : ¬ x.f1 = y.f1 := fun h => hb (h4.2 h)
      rw [if_neg (by simpa using ha), if_pos hb]
      omega
  · have e0 : ¬ x.f0 = y.f0 := fun h => ha (h2.2 h)
    rw [if_pos ha]
    omega
theorem swoT : SWO (ltOf cfT) where
  irrefl x := by
    cases h : ltOf cfT x x with
    | false => rfl
    | true => have := (ltT_iff x x).1 h; unfold ltT at this; omega
  trans x y z h1 h2 := by
    rw [ltT_iff] at *
    unfold ltT at *
    omega
  ntrans x y z h1 h2 := by
    have g1 : ¬ ltT x y := fun h => by rw [(ltT_iff x y).2 h] at h1; cases h1
    have g2 : ¬ ltT y z := fun h => by rw [(ltT_iff y z).2 h] at h2; cases h2
    cases h : ltOf cfT x z with
    | false => rfl
    | true =>
      have := (ltT_iff x z).1 h
      unfold ltT at *
      omega

#print axioms compare30
#print axioms swoT
end Go.Proofs.YtnhflmihjegaiaaDoor
