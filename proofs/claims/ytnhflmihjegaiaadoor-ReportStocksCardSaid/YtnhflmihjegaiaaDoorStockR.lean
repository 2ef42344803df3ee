/- report.Stock: the drawn region in which a board's key is made. -/
import Derived.Test.YtnhflmihjegaiaaDoorRegH
import Derived.Test.YtnhflmihjegaiaaDoorLen
namespace Go.Proofs.YtnhflmihjegaiaaDoor
open Go Go.Proofs Go.RowKit Go.Proofs.YtnhflmihjegaiaaDoorW.PrintWords P
set_option linter.unusedSimpArgs false
set_option linter.unusedVariables false

theorem ldI {a : Act} {o : Oper} {w : World} {s b j : Nat} {x : Int} (hop : o.op = .load 3 (.tmp s)) (hs : a.eval (.tmp s) = .pointer (some ⟨b, j, none⟩)) (q : w.cell? ⟨b, j, none⟩ = some (.int .i64 x)) :
    (execOp a.eval o).run Tryd.prog w = .ok (.value (.int .i64 x)) w := by
  have hu3 := Tryd.underlying3
  obtain ⟨ds, op, ty, pos, aft, gd⟩ := o
  cases hop
  simp only [execOp, hs]
  go_simp
theorem ld90 {a : Act} {o : Oper} {w : World} {s b j : Nat} {x y : Int} (hop : o.op = .load 90 (.tmp s)) (hs : a.eval (.tmp s) = .pointer (some ⟨b, j, none⟩)) (q : w.cell? ⟨b, j, none⟩ = some (.int .i64 x)) (q2 : w.cell? ⟨b, j + 1, none⟩ = some (.int .i64 y)) :
    (execOp a.eval o).run Tryd.prog w = .ok (.value (.agg #[.int .i64 x, .int .i64 y])) w := by
  have hu90 := Tryd.underlying90
  obtain ⟨ds, op, ty, pos, aft, gd⟩ := o
  cases hop
  simp only [execOp, hs]
  go_simp
theorem st126 {a : Act} {o : Oper} {w : World} {s t kb : Nat} {x y z : Int} (hop : o.op = .store 126 (.tmp s) (.tmp t)) (hs : a.eval (.tmp s) = .pointer (some ⟨kb, 0, none⟩)) (ht : a.eval (.tmp t) = .agg #[.int .i64 x, .int .i64 y, .int .i64 z])
    {u0 u1 u2 : Value} (q0 : w.cell? ⟨kb, 0, none⟩ = some u0) (q1 : w.cell? ⟨kb, 1, none⟩ = some u1) (q2 : w.cell? ⟨kb, 2, none⟩ = some u2) (f0 : w.frozen? ⟨kb, 0, none⟩ = false) (f1 : w.frozen? ⟨kb, 1, none⟩ = false) (f2 : w.frozen? ⟨kb, 2, none⟩ = false) :
    (execOp a.eval o).run Tryd.prog w = .ok .skip (((w.setCell ⟨kb, 0, none⟩ (.int .i64 x)).setCell ⟨kb, 1, none⟩ (.int .i64 y)).setCell ⟨kb, 2, none⟩ (.int .i64 z)) := by
  have hu126 := Tryd.underlying126
  have hu3 := Tryd.underlying3
  obtain ⟨ds, op, ty, pos, aft, gd⟩ := o
  cases hop
  simp only [execOp, hs, ht]
  go_simp
end Go.Proofs.YtnhflmihjegaiaaDoor
