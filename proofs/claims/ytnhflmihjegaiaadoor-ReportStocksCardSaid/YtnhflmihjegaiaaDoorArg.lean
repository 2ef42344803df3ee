/- The laws' arguments opened: slices of boards, logs, orders. -/
import Derived.Test.YtnhflmihjegaiaaDoorPx0
import Derived.Deep.Slices
import Derived.Deep.Fields
import Derived.ChangeSame
import Derived.Lib.SmallJoins
namespace Go.Proofs.YtnhflmihjegaiaaDoor
open Go.RowKit Go.Maps Go.Proofs.YtnhflmihjegaiaaDoorW.PrintWords P
open Go.ChangeShapes Go.WideShapes Go.ChangeAt Go.Joins Go.Deep
set_option linter.unusedSimpArgs false
set_option linter.unusedVariables false

variable {H : Type} {enc : TypeId × Value → H} {w : World} {base : Nat} {spare : Nat → Bool} {held : Bool}
set_option maxRecDepth 100000 in
theorem rows_of {α : Type} (d : Kd α) (Good : α → Prop) {t e : TypeId} (ht : Tryd.prog.underlying t = some (.slice e)) (hsz : Tryd.prog.cellsOf e = d.sz) (z : α)
    (hopen : ∀ n cs x, DataW.trod enc Tryd.prog w base spare held n e cs = some x → ∃ o : α, d.K w o cs ∧ Good o)
    {r : Reach} {b0 : Nat} {v : Value} {dd : DataW H} {p : List MemPlace} (hv : Value.okWide Tryd.prog w r b0 t v) (h : DataW.Trod enc Tryd.prog w base spare held t v dd p) :
    ∃ (A : Option Addr) (c : Nat) (l : List α), v = .slice A l.length c ∧ Kd.C d w A l.length l ∧ l.length ≤ c ∧ (∀ o ∈ l, Good o) := by
  obtain ⟨a0, len0, cap0, rfl⟩ := okWide_slice ht hv
  obtain ⟨fuel, hf⟩ := h
  rcases open_slice (H := H) ht hf with ⟨h1, h2⟩ | ⟨a, len, cap, m, n, D, Pl, h1, hb, hl, hm, hmm, hx, hi⟩
  · simp only [Value.cells, List.cons.injEq, and_true] at h1
    exact ⟨none, 0, [], h1, ⟨rfl, Nat.zero_le _, fun h => absurd h (Nat.lt_irrefl _)⟩, Nat.le_refl _, fun o ho => by cases ho⟩
  · simp only [Value.cells, List.cons.injEq, and_true] at h1
    have hlm : len ≤ m := by rw [hmm]; split <;> omega
    have hc : ∀ i, ∃ o : α, i < len → Good o ∧ ∃ cs, d.K w o cs ∧ ∀ j u, cs[j]? = some u → w.cell? (a.add (i * d.sz + j)) = some u := by
      intro i
      by_cases hil : i < len
      · obtain ⟨cs, hcs, htr⟩ := hi i (by omega)
        obtain ⟨o, hK, hG⟩ := hopen _ _ _ htr
        obtain ⟨_, hcl, hat⟩ := World.cells?_some hcs
        refine ⟨o, fun _ => ⟨hG, cs, hK, fun j u hu => ?_⟩⟩
        have hj : j < cs.length := (List.getElem?_eq_some_iff.1 hu).1
        have h2 := hat j (by rw [← hcl]; exact hj)
        rw [hsz, Go.Deep.add_add] at h2
        rw [h2]
        exact hu
      · exact ⟨z, fun h => absurd h hil⟩
    obtain ⟨f, hf⟩ := Classical.axiomOfChoice hc
    refine ⟨some a, cap, (List.range len).map f, by rw [h1]; simp, ⟨by simp, by simp; unfold maxLen at hm; omega, fun _ => ⟨a, rfl, fun j o hj => ?_⟩⟩, by simpa using hl, fun o ho => ?_⟩
    · rw [List.getElem?_map] at hj
      by_cases hjl : j < len
      · rw [List.getElem?_range hjl] at hj
        simp only [Option.map_some, Option.some.injEq] at hj
        subst hj
        obtain ⟨_, cs, hK, hcell⟩ := hf j hjl
        exact ⟨cs, d.K_len hK, hK, hcell⟩
      · rw [List.getElem?_eq_none (by simpa using hjl)] at hj
        cases hj
    · obtain ⟨i, hi2, rfl⟩ := List.mem_map.1 ho
      exact (hf i (by simpa using hi2)).1

theorem c3 : Tryd.prog.cellsOf 3 = 1 := by kernel_rfl
theorem c4 : Tryd.prog.cellsOf 4 = 1 := by kernel_rfl
theorem c9 : Tryd.prog.cellsOf 9 = 1 := by kernel_rfl
theorem c42 : Tryd.prog.cellsOf 42 = 5 := by kernel_rfl
theorem c85 : Tryd.prog.cellsOf 85 = 1 := by kernel_rfl
theorem len5 {cs : List Value} (h : cs.length = 5) : ∃ a b c d e, cs = [a, b, c, d, e] := by
  match cs, h with
  | [a, b, c, d, e], _ => exact ⟨a, b, c, d, e, rfl⟩
theorem len7 {cs : List Value} (h : cs.length = 7) : ∃ a b c d e f g, cs = [a, b, c, d, e, f, g] := by
  match cs, h with
  | [a, b, c, d, e, f, g], _ => exact ⟨a, b, c, d, e, f, g, rfl⟩
theorem len2 {cs : List Value} (h : cs.length = 2) : ∃ a b, cs = [a, b] := by
  match cs, h with
  | [a, b], _ => exact ⟨a, b, rfl⟩
theorem open42 {n : Nat} {cs : List Value} {x : DataW H × List MemPlace} (h : DataW.trod enc Tryd.prog w base spare held n 42 cs = some x) : ∃ y : S42, cs = [.int .i64 y.f0, .int .i64 y.f1, .int .i64 y.f2, .int .i64 y.f3, .int .i64 y.f4] := by
  obtain ⟨xs, m, _, _, hcl, hxl, hf⟩ := DataW.trod_struct Tryd.underlying42 h
  rw [c42] at hcl
  obtain ⟨a, b, c, d, e, rfl⟩ := len5 hcl
  have hx : xs.length = 5 := hxl
  have t0 : DataW.trod enc Tryd.prog w base spare held m 3 ((List.drop 0 [a, b, c, d, e]).take (Tryd.prog.cellsOf 3)) = xs[0]? := hf 0 _ rfl
  have t1 : DataW.trod enc Tryd.prog w base spare held m 3 ((List.drop 1 [a, b, c, d, e]).take (Tryd.prog.cellsOf 3)) = xs[1]? := hf 1 _ rfl
  have t2 : DataW.trod enc Tryd.prog w base spare held m 3 ((List.drop 2 [a, b, c, d, e]).take (Tryd.prog.cellsOf 3)) = xs[2]? := hf 2 _ rfl
  have t3 : DataW.trod enc Tryd.prog w base spare held m 3 ((List.drop 3 [a, b, c, d, e]).take (Tryd.prog.cellsOf 3)) = xs[3]? := hf 3 _ rfl
  have t4 : DataW.trod enc Tryd.prog w base spare held m 3 ((List.drop 4 [a, b, c, d, e]).take (Tryd.prog.cellsOf 3)) = xs[4]? := hf 4 _ rfl
  rw [c3] at t0
  rw [c3] at t1
  rw [c3] at t2
  rw [c3] at t3
  rw [c3] at t4
  rw [List.getElem?_eq_getElem (by omega)] at t0
  rw [List.getElem?_eq_getElem (by omega)] at t1
  rw [List.getElem?_eq_getElem (by omega)] at t2
  rw [List.getElem?_eq_getElem (by omega)] at t3
  rw [List.getElem?_eq_getElem (by omega)] at t4
  obtain ⟨k0, e0, _, _⟩ := DataW.trod_int Tryd.underlying3 t0
  obtain ⟨k1, e1, _, _⟩ := DataW.trod_int Tryd.underlying3 t1
  obtain ⟨k2, e2, _, _⟩ := DataW.trod_int Tryd.underlying3 t2
  obtain ⟨k3, e3, _, _⟩ := DataW.trod_int Tryd.underlying3 t3
  obtain ⟨k4, e4, _, _⟩ := DataW.trod_int Tryd.underlying3 t4
  injection e0 with e0
  injection e1 with e1
  injection e2 with e2
  injection e3 with e3
  injection e4 with e4
  subst e0 e1 e2 e3 e4
  exact ⟨⟨k0, k1, k2, k3, k4⟩, rfl⟩
theorem open47 {n : Nat} {cs : List Value} {x : DataW H × List MemPlace} (h : DataW.trod enc Tryd.prog w base spare held n 47 cs = some x) : ∃ y : S47, k47.K w y cs ∧ True := by
  obtain ⟨xs, m, _, _, hcl, hxl, hf⟩ := DataW.trod_struct Tryd.underlying47 h
  rw [show Tryd.prog.cellsOf 47 = 7 by kernel_rfl] at hcl
  obtain ⟨a, b, c, d, e, f, g, rfl⟩ := len7 hcl
  have hx : xs.length = 3 := hxl
  have t0 : DataW.trod enc Tryd.prog w base spare held m 9 ((List.drop 0 [a, b, c, d, e, f, g]).take (Tryd.prog.cellsOf 9)) = xs[0]? := hf 0 _ rfl
  have t1 : DataW.trod enc Tryd.prog w base spare held m 4 ((List.drop 1 [a, b, c, d, e, f, g]).take (Tryd.prog.cellsOf 4)) = xs[1]? := hf 1 _ rfl
  have t2 : DataW.trod enc Tryd.prog w base spare held m 42 ((List.drop 2 [a, b, c, d, e, f, g]).take (Tryd.prog.cellsOf 42)) = xs[2]? := hf 2 _ rfl
  rw [c9] at t0
  rw [c4] at t1
  rw [c42] at t2
  rw [List.getElem?_eq_getElem (by omega)] at t0
  rw [List.getElem?_eq_getElem (by omega)] at t1
  rw [List.getElem?_eq_getElem (by omega)] at t2
  obtain ⟨s, e0, _, _⟩ := DataW.trod_string Tryd.underlying9 t0
  obtain ⟨q, e1, _⟩ := DataW.trod_bool Tryd.underlying4 t1
  obtain ⟨y, e2⟩ := open42 t2
  injection e0 with e0
  injection e1 with e1
  change [c, d, e, f, g] = _ at e2
  simp only [List.cons.injEq, and_true] at e2
  obtain ⟨rfl, rfl, rfl, rfl, rfl⟩ := e2
  subst e0 e1
  exact ⟨⟨s, q, y⟩, k47_mk w _, trivial⟩
theorem open87 {n : Nat} {cs : List Value} {x : DataW H × List MemPlace} (h : DataW.trod enc Tryd.prog w base spare held n 87 cs = some x) : ∃ y : S87, k87.K w y cs ∧ (((-9223372036854775808 ≤ y.f0 ∧ y.f0 ≤ 9223372036854775807) ∧ (-9223372036854775808 ≤ y.f1 ∧ y.f1 ≤ 9223372036854775807) ∧ (-9223372036854775808 ≤ y.f2 ∧ y.f2 ≤ 9223372036854775807) ∧ (0 ≤ y.f3 ∧ y.f3 ≤ 4294967295) ∧ (-9223372036854775808 ≤ y.f4 ∧ y.f4 ≤ 9223372036854775807))) := by
  obtain ⟨xs, m, _, _, hcl, hxl, hf⟩ := DataW.trod_struct Tryd.underlying87 h
  rw [show Tryd.prog.cellsOf 87 = 5 by kernel_rfl] at hcl
  obtain ⟨a, b, c, d, e, rfl⟩ := len5 hcl
  have hx : xs.length = 5 := hxl
  have t0 : DataW.trod enc Tryd.prog w base spare held m 3 ((List.drop 0 [a, b, c, d, e]).take (Tryd.prog.cellsOf 3)) = xs[0]? := hf 0 _ rfl
  have t1 : DataW.trod enc Tryd.prog w base spare held m 3 ((List.drop 1 [a, b, c, d, e]).take (Tryd.prog.cellsOf 3)) = xs[1]? := hf 1 _ rfl
  have t2 : DataW.trod enc Tryd.prog w base spare held m 3 ((List.drop 2 [a, b, c, d, e]).take (Tryd.prog.cellsOf 3)) = xs[2]? := hf 2 _ rfl
  have t3 : DataW.trod enc Tryd.prog w base spare held m 85 ((List.drop 3 [a, b, c, d, e]).take (Tryd.prog.cellsOf 85)) = xs[3]? := hf 3 _ rfl
  have t4 : DataW.trod enc Tryd.prog w base spare held m 3 ((List.drop 4 [a, b, c, d, e]).take (Tryd.prog.cellsOf 3)) = xs[4]? := hf 4 _ rfl
  rw [c3] at t0
  rw [c3] at t1
  rw [c3] at t2
  rw [c85] at t3
  rw [c3] at t4
  rw [List.getElem?_eq_getElem (by omega)] at t0
  rw [List.getElem?_eq_getElem (by omega)] at t1
  rw [List.getElem?_eq_getElem (by omega)] at t2
  rw [List.getElem?_eq_getElem (by omega)] at t3
  rw [List.getElem?_eq_getElem (by omega)] at t4
  obtain ⟨k0, e0, _, w0⟩ := DataW.trod_int Tryd.underlying3 t0
  obtain ⟨k1, e1, _, w1⟩ := DataW.trod_int Tryd.underlying3 t1
  obtain ⟨k2, e2, _, w2⟩ := DataW.trod_int Tryd.underlying3 t2
  obtain ⟨k3, e3, _, w3⟩ := DataW.trod_int Tryd.underlying85 t3
  obtain ⟨k4, e4, _, w4⟩ := DataW.trod_int Tryd.underlying3 t4
  injection e0 with e0
  injection e1 with e1
  injection e2 with e2
  injection e3 with e3
  injection e4 with e4
  subst e0 e1 e2 e3 e4
  exact ⟨⟨k0, k1, k2, k3, k4⟩, k87_mk w _, Go.bounds_i64 w0, Go.bounds_i64 w1, Go.bounds_i64 w2, Go.bounds_u32 w3, Go.bounds_i64 w4⟩
set_option maxRecDepth 100000 in
theorem sawn_of {r : Reach} {b0 : Nat} {v : Value} {dd : DataW H} {p : List MemPlace} (hv : Value.okWide Tryd.prog w r b0 22 v) (h : DataW.Trod enc Tryd.prog w base spare held 22 v dd p) :
    ∃ (A : Option Addr) (c : Nat) (l : List S47), v = .slice A l.length c ∧ Kd.C k47 w A l.length l ∧ l.length ≤ c ∧ (∀ o ∈ l, True) :=
  rows_of k47 (fun _ => True) Tryd.underlying22 (by kernel_rfl) z47 (fun n cs x h => open47 h) hv h
set_option maxRecDepth 100000 in
theorem placed_of {r : Reach} {b0 : Nat} {v : Value} {dd : DataW H} {p : List MemPlace} (hv : Value.okWide Tryd.prog w r b0 57 v) (h : DataW.Trod enc Tryd.prog w base spare held 57 v dd p) :
    ∃ (A : Option Addr) (c : Nat) (l : List S87), v = .slice A l.length c ∧ Kd.C k87 w A l.length l ∧ l.length ≤ c ∧ (∀ y ∈ l, (((-9223372036854775808 ≤ y.f0 ∧ y.f0 ≤ 9223372036854775807) ∧ (-9223372036854775808 ≤ y.f1 ∧ y.f1 ≤ 9223372036854775807) ∧ (-9223372036854775808 ≤ y.f2 ∧ y.f2 ≤ 9223372036854775807) ∧ (0 ≤ y.f3 ∧ y.f3 ≤ 4294967295) ∧ (-9223372036854775808 ≤ y.f4 ∧ y.f4 ≤ 9223372036854775807)))) :=
  rows_of k87 _ Tryd.underlying57 (by kernel_rfl) z87 (fun n cs x h => open87 h) hv h
end Go.Proofs.YtnhflmihjegaiaaDoor
