/- A count and a volume of a tally turned in memory. -/
import Derived.Test.YtnhflmihjegaiaaDoorSortU
import Derived.Test.YtnhflmihjegaiaaDoorMapU
namespace Go.Proofs.YtnhflmihjegaiaaDoor
open Go.RowKit Go.Sort Go.Shelf Go.Lib Go.Proofs.YtnhflmihjegaiaaDoorW.PrintWords P
set_option linter.unusedSimpArgs false
set_option linter.unusedVariables false

theorem flat_set3 : ∀ (xs : List S42) (i : Nat) (hi : i < xs.length) (b : Int), flat (xs.set i { xs[i] with f3 := b }) = (flat xs).set (i * 5 + 3) (.int .i64 b)
  | [], i, h, b => by simp at h
  | x :: r, 0, h, b => by simp [flat]
  | x :: r, i + 1, h, b => by
    have := flat_set3 r i (by simpa using h) b
    rw [show (i + 1) * 5 + 3 = (i * 5 + 3) + 1 + 1 + 1 + 1 + 1 by omega]
    simp only [List.set_cons_succ, List.getElem_cons_succ, flat, this]
theorem flat_set4 : ∀ (xs : List S42) (i : Nat) (hi : i < xs.length) (b : Int), flat (xs.set i { xs[i] with f4 := b }) = (flat xs).set (i * 5 + 4) (.int .i64 b)
  | [], i, h, b => by simp at h
  | x :: r, 0, h, b => by simp [flat]
  | x :: r, i + 1, h, b => by
    have := flat_set4 r i (by simpa using h) b
    rw [show (i + 1) * 5 + 4 = (i * 5 + 4) + 1 + 1 + 1 + 1 + 1 by omega]
    simp only [List.set_cons_succ, List.getElem_cons_succ, flat, this]

section
variable {W : World} {base g n cap i : Nat} {xs : List S42}
theorem TR_set3 (h : TR W base (.slice (some ⟨g, 0, none⟩) n cap) xs) (hi : i < xs.length) (b : Int) :
    TR (W.setCell ⟨g, i * 5 + 3, none⟩ (.int .i64 b)) base (.slice (some ⟨g, 0, none⟩) n cap) (xs.set i { xs[i] with f3 := b }) ∧ W.grownBy (W.setCell ⟨g, i * 5 + 3, none⟩ (.int .i64 b)) (some g) := by
  have hn := (TR_block h).1
  subst hn
  obtain ⟨h1, h2⟩ := (TR_own h).stored (i * 5 + 3) (.int .i64 b)
  rw [← flat_set3 xs i hi] at h1
  refine ⟨?_, h2⟩
  refine own_TR ?_
  rw [List.length_set]
  exact h1
theorem TR_set4 (h : TR W base (.slice (some ⟨g, 0, none⟩) n cap) xs) (hi : i < xs.length) (b : Int) :
    TR (W.setCell ⟨g, i * 5 + 4, none⟩ (.int .i64 b)) base (.slice (some ⟨g, 0, none⟩) n cap) (xs.set i { xs[i] with f4 := b }) ∧ W.grownBy (W.setCell ⟨g, i * 5 + 4, none⟩ (.int .i64 b)) (some g) := by
  have hn := (TR_block h).1
  subst hn
  obtain ⟨h1, h2⟩ := (TR_own h).stored (i * 5 + 4) (.int .i64 b)
  rw [← flat_set4 xs i hi] at h1
  refine ⟨?_, h2⟩
  refine own_TR ?_
  rw [List.length_set]
  exact h1
theorem rd42 (l : List S42) (k : Nat) (hk : k < l.length) : rd_T42 l (k : Int) = l[k] := by
  simp [rd_T42, List.getD_eq_getElem?_getD, List.getElem?_eq_getElem hk]
theorem TR_cells (h : TR W base (.slice (some ⟨g, 0, none⟩) n cap) xs) (hi : i < xs.length) :
    W.cell? ⟨g, i * 5 + 3, none⟩ = some (.int .i64 xs[i].f3) ∧ W.cell? ⟨g, i * 5 + 4, none⟩ = some (.int .i64 xs[i].f4) := by
  obtain ⟨ad, e0, g0, g1, g2, g3, g4⟩ := at_T42 (Kd.R_reads' h).2.2 (i : Int) (by omega) (by omega)
  cases e0
  rw [rd42 xs i hi, Int.toNat_natCast] at g3 g4
  have e : (⟨g, 0, none⟩ : Addr).add (i * 5) = ⟨g, i * 5, none⟩ := by unfold Addr.add; split <;> simp_all
  rw [e] at g3 g4
  exact ⟨g3, g4⟩
end

#print axioms TR_set3
#print axioms TR_cells
end Go.Proofs.YtnhflmihjegaiaaDoor
