/- What report.Recovery computes: the sum of the yields of a species, or the error. -/
import Derived.Test.YtnhflmihjegaiaaDoorItem
import Derived.Test.YtnhflmihjegaiaaDoorPx5
namespace Go.Proofs.YtnhflmihjegaiaaDoor
open Go.RowKit Go.Proofs.YtnhflmihjegaiaaDoorW.PrintWords P
set_option linter.unusedSimpArgs false
set_option linter.unusedVariables false

def fitY (n : Int) : Bool := decide (0 ≤ n) && decide (n ≤ 2305843009213693952)
def validY (y : S42) : Bool := fitY y.f0 && fitY y.f1 && fitY y.f2 && fitY y.f3 && decide (-2305843009213693952 ≤ y.f4) && decide (y.f4 ≤ 2305843009213693952)
def zeroY : S42 := ⟨0, 0, 0, 0, 0⟩
def addY (a b : S42) : S42 × Int := if validY a = true then (if validY b = true then (⟨wrap64 (a.f0 + b.f0), wrap64 (a.f1 + b.f1), wrap64 (a.f2 + b.f2), wrap64 (a.f3 + b.f3), wrap64 (a.f4 + b.f4)⟩, 0) else (zeroY, 9)) else (zeroY, 9)
theorem l0_step (k : Nat) (l : List Int) (n j : Nat) (a b c d e : Int) (hn : n = l.length) (hj : j < n) (hb : n < 1000) : yield_within.l0 (k + 1) l (n : Int) (j : Int) a b c d e = if fitY (l.getD j 0) = true then yield_within.l0 k l (n : Int) ((j + 1 : Nat) : Int) a b c d e else some false := by
  have hw : wrap64 ((j : Int) + 1) = ((j + 1 : Nat) : Int) := by unfold wrap64; omega
  have hr : rd l (j : Int) = l.getD j 0 := by simp [rd]
  conv => lhs; unfold yield_within.l0
  rw [if_pos (by omega), if_pos (by omega), if_pos (by omega), hr, hw]
  unfold fitY
  generalize l.getD j 0 = q
  by_cases h0 : q < 0
  · rw [if_pos h0, if_neg (by simp; omega)]
  · rw [if_neg h0]
    by_cases h1 : q > 2305843009213693952
    · rw [if_pos h1, if_neg (by simp; omega)]
    · rw [if_neg h1, if_pos (by simp; omega)]
theorem within_some (a b c d e : Int) : yield_within.f 5 a b c d e = some (validY ⟨a, b, c, d, e⟩) := by
  unfold yield_within.f
  simp only [Option.bind_some]
  have s0 := l0_step 4 [a, b, c, d] 4 0 a b c d e rfl (by omega) (by omega)
  have s1 := l0_step 3 [a, b, c, d] 4 1 a b c d e rfl (by omega) (by omega)
  have s2 := l0_step 2 [a, b, c, d] 4 2 a b c d e rfl (by omega) (by omega)
  have s3 := l0_step 1 [a, b, c, d] 4 3 a b c d e rfl (by omega) (by omega)
  have s4 : yield_within.l0 1 [a, b, c, d] ((4 : Nat) : Int) ((3 + 1 : Nat) : Int) a b c d e = some (decide (-2305843009213693952 ≤ e) && decide (e ≤ 2305843009213693952)) := by
    unfold yield_within.l0
    rw [if_neg (by omega)]
    by_cases h : -2305843009213693952 ≤ e
    · rw [if_pos h]; simp [h]
    · rw [if_neg h]; simp [h]
  show yield_within.l0 (4 + 1) [a, b, c, d] ((4 : Nat) : Int) ((0 : Nat) : Int) a b c d e = _
  rw [s0, s1, s2, s3, s4]
  unfold validY
  simp only [List.getD_cons_zero, List.getD_cons_succ]
  cases fitY a <;> cases fitY b <;> cases fitY c <;> cases fitY d <;> simp
theorem add_some (a b : S42) : yield_Add.f 5 a.f0 a.f1 a.f2 a.f3 a.f4 b.f0 b.f1 b.f2 b.f3 b.f4 = some ((addY a b).1.f0, (addY a b).1.f1, (addY a b).1.f2, (addY a b).1.f3, (addY a b).1.f4, (addY a b).2) := by
  unfold yield_Add.f
  rw [within_some, within_some]
  simp only [Option.bind_some]
  unfold addY
  by_cases h : validY a = true
  · rw [if_pos h, if_pos h]
    by_cases h2 : validY b = true
    · rw [if_pos h2, if_pos h2]
    · rw [if_neg h2, if_neg h2]; rfl
  · rw [if_neg h, if_neg h]; rfl
/-- Whether a log is passed over. -/
def skipL (sp : ByteArray) (g : S111) : Bool := !g.f5 || (!sp.toList.isEmpty && !(g.f2.toList == sp.toList))
def recGo (sp : ByteArray) : List S111 → S42 → S42 × Int
  | [], sum => (sum, 0)
  | g :: r, sum => if skipL sp g = true then recGo sp r sum else if (addY sum g.f9).2 ≠ 0 then (zeroY, (addY sum g.f9).2) else recGo sp r (addY sum g.f9).1
def recF (l : List S111) (sp : ByteArray) : S42 × Int := recGo sp l zeroY
theorem Add_any (a b : S42) (w : World) : Calls Tryd.prog 12 #[.agg #[.int .i64 a.f0, .int .i64 a.f1, .int .i64 a.f2, .int .i64 a.f3, .int .i64 a.f4], .agg #[.int .i64 b.f0, .int .i64 b.f1, .int .i64 b.f2, .int .i64 b.f3, .int .i64 b.f4]] w
    fun e w' => e = .returned (.tuple #[.agg #[.int .i64 (addY a b).1.f0, .int .i64 (addY a b).1.f1, .int .i64 (addY a b).1.f2, .int .i64 (addY a b).1.f3, .int .i64 (addY a b).1.f4], .int .i64 (addY a b).2]) ∧ Below w.heap.size w w' :=
  yield_Add.calls 5 _ _ _ _ _ _ _ _ _ _ _ _ _ _ _ _ w (add_some a b)
theorem recGo_step (sp : ByteArray) (l : List S111) (k : Nat) (h : k < l.length) (sum : S42) : recGo sp (l.drop k) sum = if skipL sp l[k] = true then recGo sp (l.drop (k + 1)) sum else if (addY sum l[k].f9).2 ≠ 0 then (zeroY, (addY sum l[k].f9).2) else recGo sp (l.drop (k + 1)) (addY sum l[k].f9).1 := by
  rw [List.drop_eq_getElem_cons h]
  rfl
end Go.Proofs.YtnhflmihjegaiaaDoor
