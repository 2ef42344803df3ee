/- A board's item as its row of 22 cells: what a walk needs of it. -/
import Derived.Test.YtnhflmihjegaiaaDoorCopy
namespace Go.Proofs.YtnhflmihjegaiaaDoor
open Go Go.RowKit Go.Proofs.YtnhflmihjegaiaaDoorW.PrintWords P
set_option linter.unusedSimpArgs false
set_option linter.unusedVariables false

structure Cells100 (cs : List Value) (x : S100) : Prop where
  len : cs.length = 22
  one : cs.toArray.all (·.oneCell') = true
  c3 : cs[3]? = some (.int .i64 x.f0.f3)
  c8 : cs[8]? = some (.int .i64 x.f0.f4.f2.f0)
  c9 : cs[9]? = some (.int .i64 x.f0.f4.f2.f1)
  c10 : cs[10]? = some (.int .i64 x.f0.f5)
  c17 : cs[17]? = some (.int .i64 x.f0.f10)
  c18 : cs[18]? = some (.int .i64 x.f1)
theorem item_at {w : World} {A : Option Addr} {l : List S100} (h : Kd.C k100 w A l.length l) (k : Nat) (hk : k < l.length) :
    ∃ ad cs, A = some ad ∧ (∀ j v, cs[j]? = some v → w.cell? ((ad.add (k * 22)).add j) = some v) ∧ Cells100 cs l[k] := by
  obtain ⟨ad, c, e, _, hK, hc0⟩ := Kd.C_get h z100 k (by omega) (by omega)
  have e1 : l.getD (k : Int).toNat z100 = l[k] := by simp [List.getD_eq_getElem?_getD, List.getElem?_eq_getElem hk]
  rw [e1] at hK
  refine ⟨ad, c, e, fun j v hv => ?_, ?_⟩
  · rw [Addr.add_add]
    exact hc0 j v hv
  · obtain ⟨A11, c11, rfl, l11, g11⟩ := k100_open hK
    exact ⟨rfl, by simp [Value.oneCell'], rfl, rfl, rfl, rfl, rfl, rfl⟩
/-- A log's row of 19 cells. -/
structure Cells111 (cs : List Value) (x : S111) : Prop where
  len : cs.length = 19
  one : cs.toArray.all (·.oneCell') = true
  c2 : cs[2]? = some (.string x.f2)
  c5 : cs[5]? = some (.bool x.f5)
  c14 : cs[14]? = some (.int .i64 x.f9.f0)
  c15 : cs[15]? = some (.int .i64 x.f9.f1)
  c16 : cs[16]? = some (.int .i64 x.f9.f2)
  c17 : cs[17]? = some (.int .i64 x.f9.f3)
  c18 : cs[18]? = some (.int .i64 x.f9.f4)
theorem log_at {w : World} {A : Option Addr} {l : List S111} (h : Kd.C k111 w A l.length l) (k : Nat) (hk : k < l.length) :
    ∃ ad cs, A = some ad ∧ (∀ j v, cs[j]? = some v → w.cell? ((ad.add (k * 19)).add j) = some v) ∧ Cells111 cs l[k] := by
  obtain ⟨ad, c, e, _, hK, hc0⟩ := Kd.C_get h z111 k (by omega) (by omega)
  have e1 : l.getD (k : Int).toNat z111 = l[k] := by simp [List.getD_eq_getElem?_getD, List.getElem?_eq_getElem hk]
  rw [e1] at hK
  refine ⟨ad, c, e, fun j v hv => ?_, ?_⟩
  · rw [Addr.add_add]
    exact hc0 j v hv
  · obtain ⟨A6, c6, A7, c7, A13, c13, rfl, l6, g6, l7, g7, l13, g13⟩ := k111_open hK
    exact ⟨rfl, by simp [Value.oneCell'], rfl, rfl, rfl, rfl, rfl, rfl, rfl⟩
end Go.Proofs.YtnhflmihjegaiaaDoor
