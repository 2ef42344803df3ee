/- Single operations of a drawn region: an element's address, loads, the store of a slice, an append. -/
import Derived.Test.YtnhflmihjegaiaaDoorCopy
import Derived.Test.YtnhflmihjegaiaaDoorRegH
namespace Go.Proofs.YtnhflmihjegaiaaDoor
open Go Go.RowKit Go.Proofs.YtnhflmihjegaiaaDoorW.PrintWords P Reg
set_option linter.unusedSimpArgs false
set_option linter.unusedVariables false

theorem idxV {a : Act} {o : Oper} {w : World} {t e s i : Nat} {ad : Addr} {n c k sz : Nat} {p : Addr} (hop : o.op = .indexAddr t (.tmp s) (.tmp i)) (hs : a.eval (.tmp s) = .slice (some ad) n c) (hi : a.eval (.tmp i) = .int .i64 (k : Int))
    (ht : Tryd.prog.underlying t = some (.slice e)) (hz : (Tryd.prog.info? e).map (·.size) = some sz) (hk : k < n) (hp : ad.add (k * sz) = p) :
    (execOp a.eval o).run Tryd.prog w = .ok (.value (.pointer (some p))) w := by
  obtain ⟨ds, op, ty, pos, aft, gd⟩ := o
  cases hop
  have he : Tryd.prog.elem t = e := by simp [Program.elem, ht]
  have h := run_indexAt_slice (P := Tryd.prog) (w := w) t ad n c .i64 (k : Int) (by rw [he]; exact ht)
  rw [if_pos ⟨by omega, by omega⟩, he] at h
  have h2 : (sizeOf e).run Tryd.prog w = .ok sz w := by
    cases hq : Tryd.prog.info? e with
    | none => simp [hq] at hz
    | some q =>
      have : q.size = sz := by simpa [hq] using hz
      simp [sizeOf, typeInfo, hq, this]
  simp only [execOp, hs, hi, Sem.run_bind]
  rw [h, h2]
  simp [hp]
theorem loadR {a : Act} {o : Oper} {w : World} {t s : Nat} {p : Addr} (hop : o.op = .load t (.tmp s)) (hs : a.eval (.tmp s) = .pointer (some p)) (cs : List Value) (d : TypeDesc) (hc : ∀ j v, cs[j]? = some v → w.cell? (p.add j) = some v)
    (hu : Tryd.prog.underlying t = some d) (hd : d.isRow = true) (hi : (Tryd.prog.info? t).map (·.size) = some cs.length) :
    (execOp a.eval o).run Tryd.prog w = .ok (.value (.agg cs.toArray)) w := by
  obtain ⟨ds, op, ty, pos, aft, gd⟩ := o
  cases hop
  simp only [execOp, hs, Instr.loadAt, Instr.sureAddr, Sem.run_bind, Sem.run_pure, Result.andThen_ok, run_loadVar_any w p t cs d hc hu hd hi]
theorem load1 {a : Act} {o : Oper} {w : World} {t s : Nat} {p : Addr} {v : Value} {d : TypeDesc} (hop : o.op = .load t (.tmp s)) (hs : a.eval (.tmp s) = .pointer (some p)) (hc : w.cell? p = some v)
    (hu : Tryd.prog.underlying t = some d) (hd : d.isRow = false) :
    (execOp a.eval o).run Tryd.prog w = .ok (.value v) w := by
  obtain ⟨ds, op, ty, pos, aft, gd⟩ := o
  cases hop
  have hagg : (isAgg t).run Tryd.prog w = .ok false w := by
    unfold isAgg
    rw [Sem.run_bind, run_underlying hu w]
    cases d <;> simp_all [TypeDesc.isRow]
  simp only [execOp, hs, Instr.loadAt, Instr.sureAddr, Sem.run_bind, Sem.run_pure, Result.andThen_ok, loadVar, hagg]
  have hl : (load p).run Tryd.prog w = .ok v w := by
    have h3 := run_load (P := Tryd.prog) (w := w) p .plain
    rw [hc] at h3
    exact h3
  rw [if_neg (by decide), hl]
  rfl
theorem storeS {a : Act} {o : Oper} {w : World} {t s u : Nat} {b j : Nat} {A : Option Addr} {n c : Nat} {v0 : Value} (hop : o.op = .store t (.tmp s) (.tmp u)) (hs : a.eval (.tmp s) = .pointer (some ⟨b, j, none⟩)) (hv : a.eval (.tmp u) = .slice A n c)
    (hz : (Tryd.prog.info? t).map (·.size) = some 1) (q : w.cell? ⟨b, j, none⟩ = some v0) (f : w.frozen? ⟨b, j, none⟩ = false) :
    (execOp a.eval o).run Tryd.prog w = .ok .skip (w.setCell ⟨b, j, none⟩ (.slice A n c)) := by
  obtain ⟨ds, op, ty, pos, aft, gd⟩ := o
  cases hop
  have h2 : (sizeOf t).run Tryd.prog w = .ok 1 w := by
    cases hq : Tryd.prog.info? t with
    | none => simp [hq] at hz
    | some q =>
      have : q.size = 1 := by simpa [hq] using hz
      simp [sizeOf, typeInfo, hq, this]
  simp only [execOp, hs, hv, Instr.storeAt, Instr.sureAddr, Sem.run_bind, Sem.run_pure, Result.andThen_ok, storeVar, h2]
  go_simp

theorem stepOf {P : Program} {R : Array Oper} {Q : Exit → Act → World → Prop} {i : Nat} {o : Oper} {K : Act → World → Prop} {a : Act} {w : World} (hi : R[i]? = some o) (hw : Region.wanted o (yielded R a.tmps) = true)
    (h : if Region.wanted o (yielded R a.tmps) = true then Oper.wp P o a w K Q else K (a.put o.dst undef) w) : Step P R Q i K a w := by
  constructor
  unfold wpOp
  rw [hi]
  dsimp only
  rw [if_pos hw]
  rw [if_pos hw] at h
  exact Or.inl h
/-- A row's append, as a step of a drawn region: the goal's world is the box behind W. -/
theorem pushStep {α : Type} (d : Kd α) {f : Func} {k i N : Nat} {Q : Exit → Act → World → Prop} {K : Act → World → Prop} {a : Act} {W : World} (base : Nat) (s x : Operand) (t e : TypeId) (z : Value) (bytes : Nat)
    (ho : (O f k i).op = .call { callee := .builtin .append, args := #[s, x], argTypes := #[t, t] })
    (ht : Tryd.prog.underlying t = some (.slice e)) (hinfo : (Tryd.prog.info? e).map (fun i => (i.zero, i.size, i.bytes)) = some (some z, d.sz, bytes)) (hz : z.cells.size = d.sz) (hs0 : 0 < d.sz) (hb0 : 0 < bytes)
    (v : Value) (xs : List α) (p : α) (cs : List Value) (hs : a.eval s = v) (hx : a.eval x = .slice (some ⟨W.heap.size, 0, none⟩) 1 1) (okp : Nat → Prop) (hp : d.M W base okp p cs) (hokp : ∀ k, okp k → True ∧ some k ≠ v.ownBlock)
    (HO : d.R e W base (fun _ => True) v xs) (hbase : base ≤ W.heap.size) (hl : (xs.length + 1) * bytes ≤ 140737488355328)
    (h : ∀ v1 w1, d.R e w1 base (fun _ => True) v1 (xs ++ [p]) → W.grownBy w1 v.ownBlock → K (a.put (some N) v1) w1)
    (hi : (Reg.R f k)[i]? = some (O f k i) := by kernel_rfl) (hd : (O f k i).dst = some N := by kernel_rfl)
    (hw : Region.wanted (O f k i) (yielded (Reg.R f k) a.tmps) = true := by kernel_rfl) :
    Step Tryd.prog (Reg.R f k) Q i K a (W.alloc (.cells cs.toArray e)) := by
  refine stepOf hi hw ?_
  refine Kd.R_append_step d (w0 := W) base hw s x t e z bytes ho ht hinfo hz hs0 hb0 v xs p cs (fun _ => True) okp hs hx hp hokp (fun _ _ => trivial) HO (Below.refl _ _) hbase hl ?_
  intro v1 w1 h1 _ h3 _
  rw [hd]
  exact h v1 w1 h1 h3

end Go.Proofs.YtnhflmihjegaiaaDoor
