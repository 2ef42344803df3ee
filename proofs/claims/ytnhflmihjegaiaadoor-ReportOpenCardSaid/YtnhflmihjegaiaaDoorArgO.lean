/- The laws' argument of orders opened. -/
import Derived.Test.YtnhflmihjegaiaaDoorArg
namespace Go.Proofs.YtnhflmihjegaiaaDoor
open Go.RowKit Go.Maps Go.Proofs.YtnhflmihjegaiaaDoorW.PrintWords P
open Go.ChangeShapes Go.WideShapes Go.ChangeAt Go.Joins Go.Deep
set_option linter.unusedSimpArgs false
set_option linter.unusedVariables false

variable {H : Type} {enc : TypeId × Value → H} {w : World} {base : Nat} {spare : Nat → Bool} {held : Bool}
set_option maxRecDepth 100000 in
theorem open55 {n : Nat} {cs : List Value} {x : DataW H × List MemPlace} (h : DataW.trod enc Tryd.prog w base spare held n 55 cs = some x) : ∃ y : S55, k55.K w y cs ∧ True := by
  obtain ⟨xs, m, _, _, hcl, hxl, hf⟩ := DataW.trod_struct Tryd.underlying55 h
  rw [show Tryd.prog.cellsOf 55 = 2 by kernel_rfl] at hcl
  obtain ⟨a, b, rfl⟩ := len2 hcl
  have hx : xs.length = 2 := hxl
  have t0 : DataW.trod enc Tryd.prog w base spare held m 3 ((List.drop 0 [a, b]).take (Tryd.prog.cellsOf 3)) = xs[0]? := hf 0 _ rfl
  have t1 : DataW.trod enc Tryd.prog w base spare held m 4 ((List.drop 1 [a, b]).take (Tryd.prog.cellsOf 4)) = xs[1]? := hf 1 _ rfl
  rw [c3] at t0
  rw [c4] at t1
  rw [List.getElem?_eq_getElem (by omega)] at t0
  rw [List.getElem?_eq_getElem (by omega)] at t1
  obtain ⟨k0, e0, _, _⟩ := DataW.trod_int Tryd.underlying3 t0
  obtain ⟨q, e1, _⟩ := DataW.trod_bool Tryd.underlying4 t1
  injection e0 with e0
  injection e1 with e1
  subst e0 e1
  exact ⟨⟨k0, q⟩, k55_mk w _, trivial⟩
set_option maxRecDepth 100000 in
theorem due_of {r : Reach} {b0 : Nat} {v : Value} {dd : DataW H} {p : List MemPlace} (hv : Value.okWide Tryd.prog w r b0 50 v) (h : DataW.Trod enc Tryd.prog w base spare held 50 v dd p) :
    ∃ (A : Option Addr) (c : Nat) (l : List S55), v = .slice A l.length c ∧ Kd.C k55 w A l.length l ∧ l.length ≤ c ∧ (∀ o ∈ l, True) :=
  rows_of k55 (fun _ => True) Tryd.underlying50 (by kernel_rfl) z55 (fun n cs x h => open55 h) hv h
end Go.Proofs.YtnhflmihjegaiaaDoor
