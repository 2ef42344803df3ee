/- The reference's Recovery answers as the package's. -/
import Derived.Test.YtnhflmihjegaiaaDoorRecA
import Derived.Test.YtnhflmihjegaiaaDoorMillI
import Derived.Test.YtnhflmihjegaiaaDoorPx12
namespace Go.Proofs.YtnhflmihjegaiaaDoor
open Go.RowKit Go.Proofs.YtnhflmihjegaiaaDoorW.PrintWords P
set_option linter.unusedSimpArgs false
set_option linter.unusedVariables false

def skipS (sp : ByteArray) (g : S47) : Bool := !g.f1 || (!sp.toList.isEmpty && !(g.f0.toList == sp.toList))
def recGoS (sp : ByteArray) : List S47 → S42 → S42 × Int
  | [], sum => (sum, 0)
  | g :: r, sum => if skipS sp g = true then recGoS sp r sum else if (addY sum g.f2).2 ≠ 0 then (zeroY, (addY sum g.f2).2) else recGoS sp r (addY sum g.f2).1
def recS (l : List S47) (sp : ByteArray) : S42 × Int := recGoS sp l zeroY
theorem recGo_map (sp : ByteArray) : ∀ (l : List S47) (s : S42), recGo sp (l.map logOf) s = recGoS sp l s
  | [], s => rfl
  | g :: r, s => by
    simp only [List.map_cons, recGo, recGoS]
    rw [recGo_map sp r, recGo_map sp r]
    rfl
theorem recF_map (sp : ByteArray) (l : List S47) : recF (l.map logOf) sp = recS l sp := recGo_map sp l zeroY
theorem fits_some (a : Int) : sawmillref22_fits.f a = some (fitY a) := by
  unfold sawmillref22_fits.f fitY
  by_cases h : 0 ≤ a
  · rw [if_pos (by omega)]; simp [h]
  · rw [if_neg (by omega)]; simp [h]
theorem valid_some (y : S42) : sawmillref22_valid.f y.f0 y.f1 y.f2 y.f3 y.f4 = some (validY y) := by
  unfold sawmillref22_valid.f validY
  have e : (if y.f4 ≥ -2305843009213693952 then some (decide (y.f4 ≤ 2305843009213693952)) else some false) = some (decide (-2305843009213693952 ≤ y.f4) && decide (y.f4 ≤ 2305843009213693952)) := by
    by_cases h : -2305843009213693952 ≤ y.f4
    · rw [if_pos h]; simp [h]
    · rw [if_neg h]; simp [h]
  simp only [fits_some, Option.bind_some]
  rw [e]
  cases fitY y.f0 <;> cases fitY y.f1 <;> cases fitY y.f2 <;> cases fitY y.f3 <;> simp
theorem refAdd_some (a b : S42) : sawmillref22_Add.f a.f0 a.f1 a.f2 a.f3 a.f4 b.f0 b.f1 b.f2 b.f3 b.f4 = some ((addY a b).1.f0, (addY a b).1.f1, (addY a b).1.f2, (addY a b).1.f3, (addY a b).1.f4, (addY a b).2) := by
  unfold sawmillref22_Add.f
  rw [valid_some, valid_some]
  simp only [Option.bind_some]
  unfold addY
  by_cases h : validY a = true
  · rw [if_pos h, if_pos h]
    by_cases h2 : validY b = true
    · rw [if_pos h2, if_pos h2]
    · rw [if_neg h2, if_neg h2]; rfl
  · rw [if_neg h, if_neg h]; rfl
end Go.Proofs.YtnhflmihjegaiaaDoor
