/- The map of report.Stock: from a product, a length and a grade to a place. -/
import Derived.Test.YtnhflmihjegaiaaDoorPx0
import Derived.Maps.OwnSet
import Derived.DeepKeys4
namespace Go.Proofs.YtnhflmihjegaiaaDoor
open Go.RowKit Go.Maps Go.Proofs.YtnhflmihjegaiaaDoorW.PrintWords P
set_option linter.unusedSimpArgs false
set_option linter.unusedVariables false

theorem laidOut : laidOutB Tryd.prog = true := by kernel_rfl
theorem law126 : Keyed Tryd.prog 126 := Keyed.of_law (deep_law_laid laidOut (m := 3) (by omega) (by decide +kernel) (by kernel_rfl) (by kernel_rfl))
def keyV (a b c : Int) : Value := .agg #[.int .i64 a, .int .i64 b, .int .i64 c]
def keyL (a b c : Int) : Lit := .string (keyBytes [.int .i64 a, .int .i64 b, .int .i64 c])
theorem wf64 {a : Int} (h : -9223372036854775808 ≤ a ∧ a ≤ 9223372036854775807) : (Lit.int .i64 a).wf = true := by
  have h1 : IntKind.i64.min = -9223372036854775808 := by decide +kernel
  have h2 : IntKind.i64.max = 9223372036854775807 := by decide +kernel
  simp [Lit.wf, h1, h2]
  omega
theorem int_lits (n : Nat) (a : Int) (h : (Lit.int .i64 a).wf = true) : Tryd.prog.keyLits (n + 1) 3 [.int .i64 a] = some [.int .i64 a] := by
  unfold Program.keyLits
  rw [Tryd.underlying3]
  simp [h]
theorem key_ex (a b c : Int) (ha : (Lit.int .i64 a).wf = true) (hb : (Lit.int .i64 b).wf = true) (hc : (Lit.int .i64 c).wf = true) : keyOf Tryd.prog 126 (keyV a b c) = some (keyL a b c) := by
  have h1 : (Tryd.prog.keyType 126 && (keyV a b c).formed Tryd.prog 126) = true := by kernel_rfl
  have h2 : Tryd.prog.cellsOf 126 = 3 := by kernel_rfl
  have h3 : Tryd.prog.cellsOf 3 = 1 := by kernel_rfl
  obtain ⟨n, hn⟩ : ∃ n, Tryd.prog.types.size = n + 1 := by
    cases h : Tryd.prog.types.size with
    | zero => exact absurd h (by decide +kernel)
    | succ n => exact ⟨n, rfl⟩
  have h4 : Tryd.prog.keyLits (n + 1 + 1) 126 [.int .i64 a, .int .i64 b, .int .i64 c] = some [.int .i64 a, .int .i64 b, .int .i64 c] := by
    unfold Program.keyLits
    rw [Tryd.underlying126]
    simp [h2, h3, int_lits n a ha, int_lits n b hb, int_lits n c hc]
  unfold keyOf
  rw [Tryd.underlying126]
  dsimp only
  rw [if_pos h1, hn]
  show (Tryd.prog.keyLits (n + 1 + 1) 126 [.int .i64 a, .int .i64 b, .int .i64 c]).map _ = _
  rw [h4]
  rfl
theorem keyL_inj {a b c a' b' c' : Int} (ha : (Lit.int .i64 a).wf = true) (hb : (Lit.int .i64 b).wf = true) (hc : (Lit.int .i64 c).wf = true) (ha' : (Lit.int .i64 a').wf = true) (hb' : (Lit.int .i64 b').wf = true) (hc' : (Lit.int .i64 c').wf = true)
    (h : keyL a b c = keyL a' b' c') : a = a' ∧ b = b' ∧ c = c' := by
  have h1 := key_ex a b c ha hb hc
  have h2 := key_ex a' b' c' ha' hb' hc'
  rw [← h] at h2
  have := law126.inj h1 h2
  simp [keyV] at this
  exact this

#print axioms keyL_inj
end Go.Proofs.YtnhflmihjegaiaaDoor
