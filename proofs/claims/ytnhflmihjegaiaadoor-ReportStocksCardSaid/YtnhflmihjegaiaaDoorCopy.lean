/- A struct of many cells copied to a fresh variable: the row as one value, no cell unrolled. -/
import Derived.Test.YtnhflmihjegaiaaDoorPx0
import Derived.Deep.MidRow
import Derived.Deep.WholeRow
import Derived.Lib.Hide
namespace Go.Proofs.YtnhflmihjegaiaaDoor
open Go Go.RowKit Go.Proofs.YtnhflmihjegaiaaDoorW.PrintWords P
set_option linter.unusedSimpArgs false
set_option linter.unusedVariables false

section
variable {P : Program}
theorem run_loadVar_any (w : World) (p : Addr) (ty : TypeId) (cs : List Value) (d : TypeDesc) (hc : ∀ j v, cs[j]? = some v → w.cell? (p.add j) = some v)
    (hu : P.underlying ty = some d) (hd : d.isRow = true) (hi : (P.info? ty).map (·.size) = some cs.length) :
    (loadVar ty p).run P w = .ok (.agg cs.toArray) w := by
  have hl : (loadCells p cs.length).run P w = .ok cs.toArray w := run_loadCells_list (P := P) w p cs hc
  cases hq : P.info? ty with
  | none => simp [hq] at hi
  | some i =>
    have hs : i.size = cs.length := by simpa [hq] using hi
    have hagg : (isAgg ty).run P w = .ok true w := by
      unfold isAgg
      rw [Sem.run_bind, run_underlying hu w]
      cases d <;> simp_all
    simp [loadVar, Sem.run_bind, hagg, sizeOf, typeInfo, hq, hs, hl]

variable {ops : Array Oper} {rest : List Oper} {o o2 : Oper} {a : Act} {W : World} {Q : Exit → Act → World → Prop}
theorem load_event {N : Tmp} (hgd : o.guard = none) (hN : o.dst = some N) {ty : TypeId} {x : Operand} (ho : o.op = .load ty x) {p : Addr} (hx : a.eval x = .pointer (some p)) (cs : List Value) (d : TypeDesc) (hc : ∀ j v, cs[j]? = some v → W.cell? (p.add j) = some v)
    (hu : P.underlying ty = some d) (hd : d.isRow = true) (hi : (P.info? ty).map (·.size) = some cs.length) (h : wpList P ops Q rest (a.put o.dst (.agg cs.toArray)) W) : wpList P ops Q (o :: rest) a W :=
  Kd.event_run hgd (by simp only [execOp, ho, hx, Instr.loadAt, Instr.sureAddr, Sem.run_bind, Sem.run_pure, Result.andThen_ok, run_loadVar_any W p ty cs d hc hu hd hi]) h

theorem copy_event {N : Tmp} {t : TypeId} {y : Operand} {zs : Array Value} {bytes : Nat} (hgd : o.guard = none) (hN : o.dst = some N) (ho : o.op = .alloc t) (hgd2 : o2.guard = none) (hN2 : o2.dst = none) (ho2 : o2.op = .store t (.tmp N) y)
    (hin : (P.info? t).map (fun i => (i.zero, i.size, i.bytes)) = some (some (.agg zs), zs.size, bytes)) (cs : List Value) (hx : (a.put (some N) (.pointer (some ⟨W.heap.size, 0, none⟩))).eval (.tmp N) = .pointer (some ⟨W.heap.size, 0, none⟩)) (hy : (a.put (some N) (.pointer (some ⟨W.heap.size, 0, none⟩))).eval y = .agg cs.toArray)
    (hl : zs.size = cs.length) (h1 : cs.toArray.all (·.oneCell') = true)
    (h : ∀ g w2, g = W.heap.size → w2.heap[g]? = some (.cells cs.toArray t (0, 0)) → Below W.heap.size W w2 → w2.heap.size = W.heap.size + 1 → wpList P ops Q rest (a.put (some N) (.pointer (some ⟨g, 0, none⟩))) w2) : wpList P ops Q (o :: o2 :: rest) a W := by
  cases hq : P.info? t with
  | none => simp [hq] at hin
  | some i =>
    simp [hq] at hin
    have hz : ∀ w, (zeroValue t).run P w = .ok (.agg zs) w := fun w => by simp [zeroValue, typeInfo, hq, hin.1]
    have hs : (P.info? t).map (·.size) = some cs.toArray.size := by simp [hq, hin.2.1, hl]
    refine Kd.event_run (v := .pointer (some ⟨W.heap.size, 0, none⟩)) (w1 := W.alloc (.cells zs t)) hgd ?_ ?_
    · simp only [execOp, ho, Instr.alloc, Sem.run_bind, hz]
      simp [go_sem]
    · rw [hN]
      refine store_event (w1 := W.alloc (.cells cs.toArray t)) hgd2 (t := t) (p := N) (v := y) ho2 hN2 ?_ ?_
      · simp only [execOp, ho2, hx, hy]
        rw [Sem.run_bind, run_storeAt_new W t zs cs.toArray hs (by simp [hl]) h1]
        rfl
      · rintro w' rfl
        exact h _ _ rfl (blk_new _ _) (below_alloc (Below.refl _ _) _) (by simp [go_sem])
end
theorem map_take_succ {α β : Type} (f : α → β) (l : List α) (k : Nat) (h : k < l.length) : (l.take (k + 1)).map f = (l.take k).map f ++ [f l[k]] := by
  rw [List.take_add_one, List.getElem?_eq_getElem h]
  simp only [Option.toList_some, List.map_append, List.map_cons, List.map_nil]
theorem map_take_len {α β : Type} (f : α → β) (l : List α) (k : Nat) (h : k ≤ l.length) : ((l.take k).map f).length = k := by simp [Nat.min_eq_left h]
theorem at_row {α : Type} {d : Kd α} {w : World} {A : Option Addr} {l : List α} (h : Kd.C d w A l.length l) (z : α) (k : Nat) (hk : k < l.length) :
    ∃ ad cs, A = some ad ∧ d.K w l[k] cs ∧ (∀ j v, cs[j]? = some v → w.cell? ((ad.add (k * d.sz)).add j) = some v) := by
  obtain ⟨ad, c, e, _, hK, hc0⟩ := Kd.C_get h z (k : Int) (by omega) (by omega)
  have e1 : l.getD (k : Int).toNat z = l[k] := by simp [List.getD_eq_getElem?_getD, List.getElem?_eq_getElem hk]
  rw [e1] at hK
  refine ⟨ad, c, e, hK, fun j v hv => ?_⟩
  rw [Addr.add_add]
  exact hc0 j v hv

theorem hold {p : Prop} (h : Hid p) : p := h.out
end Go.Proofs.YtnhflmihjegaiaaDoor
