/- The laws' argument of products opened. -/
import Derived.Test.YtnhflmihjegaiaaDoorArg
namespace Go.Proofs.YtnhflmihjegaiaaDoor
open Go.RowKit Go.Maps Go.Proofs.YtnhflmihjegaiaaDoorW.PrintWords P
open Go.ChangeShapes Go.WideShapes Go.ChangeAt Go.Joins Go.Deep
set_option linter.unusedSimpArgs false
set_option linter.unusedVariables false

variable {H : Type} {enc : TypeId × Value → H} {w : World} {base : Nat} {spare : Nat → Bool} {held : Bool}
set_option maxRecDepth 100000 in
theorem rows_in {α : Type} (d : Kd α) (Good : α → Prop) {t e : TypeId} (ht : Tryd.prog.underlying t = some (.slice e)) (hsz : Tryd.prog.cellsOf e = d.sz) (z : α)
    (hopen : ∀ n cs x, DataW.trod enc Tryd.prog w base spare held n e cs = some x → ∃ o : α, d.K w o cs ∧ Good o)
    {fuel : Nat} {cs0 : List Value} {xx : DataW H × List MemPlace} (hf : DataW.trod enc Tryd.prog w base spare held fuel t cs0 = some xx) :
    ∃ (A : Option Addr) (c : Nat) (l : List α), cs0 = [.slice A l.length c] ∧ Kd.C d w A l.length l ∧ l.length ≤ c ∧ (∀ o ∈ l, Good o) := by
  rcases open_slice (H := H) ht hf with ⟨h1, h2⟩ | ⟨a, len, cap, m, n, D, Pl, h1, hb, hl, hm, hmm, hx, hi⟩
  · exact ⟨none, 0, [], h1, ⟨rfl, Nat.zero_le _, fun h => absurd h (Nat.lt_irrefl _)⟩, Nat.le_refl _, fun o ho => by cases ho⟩
  · have hlm : len ≤ m := by rw [hmm]; split <;> omega
    have hc : ∀ i, ∃ o : α, i < len → Good o ∧ ∃ cs, d.K w o cs ∧ ∀ j u, cs[j]? = some u → w.cell? (a.add (i * d.sz + j)) = some u := by
      intro i
      by_cases hil : i < len
      · obtain ⟨cs, hcs, htr⟩ := hi i (by omega)
        obtain ⟨o, hK, hG⟩ := hopen _ _ _ htr
        obtain ⟨_, hcl, hat⟩ := World.cells?_some hcs
        refine ⟨o, fun _ => ⟨hG, cs, hK, fun j u hu => ?_⟩⟩
        have hj : j < cs.length := (List.getElem?_eq_some_iff.1 hu).1
        have h2 := hat j (by rw [← hcl]; exact hj)
        rw [hsz, Go.Deep.add_add] at h2
        rw [h2]
        exact hu
      · exact ⟨z, fun h => absurd h hil⟩
    obtain ⟨f, hf⟩ := Classical.axiomOfChoice hc
    refine ⟨some a, cap, (List.range len).map f, by rw [h1]; simp, ⟨by simp, by simp; unfold maxLen at hm; omega, fun _ => ⟨a, rfl, fun j o hj => ?_⟩⟩, by simpa using hl, fun o ho => ?_⟩
    · rw [List.getElem?_map] at hj
      by_cases hjl : j < len
      · rw [List.getElem?_range hjl] at hj
        simp only [Option.map_some, Option.some.injEq] at hj
        subst hj
        obtain ⟨_, cs, hK, hcell⟩ := hf j hjl
        exact ⟨cs, d.K_len hK, hK, hcell⟩
      · rw [List.getElem?_eq_none (by simpa using hjl)] at hj
        cases hj
    · obtain ⟨i, hi2, rfl⟩ := List.mem_map.1 ho
      exact (hf i (by simpa using hi2)).1

theorem ints_in {n : Nat} {cs : List Value} {x : DataW H × List MemPlace} (h : DataW.trod enc Tryd.prog w base spare held n 51 cs = some x) :
    ∃ (A : Option Addr) (c : Nat) (l : List Int), cs = [.slice A l.length c] ∧ Kd.C (Kd.int .i64) w A l.length l ∧ l.length ≤ c ∧ (∀ o ∈ l, True) :=
  rows_in (Kd.int .i64) (fun _ => True) Tryd.underlying51 (by kernel_rfl) (0 : Int) (fun n cs x h => by
    obtain ⟨k0, e0, _, _⟩ := DataW.trod_int Tryd.underlying3 h
    exact ⟨k0, e0, trivial⟩) h
theorem c51 : Tryd.prog.cellsOf 51 = 1 := by kernel_rfl
set_option maxRecDepth 100000 in
theorem open60 {n : Nat} {cs : List Value} {x : DataW H × List MemPlace} (h : DataW.trod enc Tryd.prog w base spare held n 60 cs = some x) : ∃ y : S60, k60.K w y cs ∧ True := by
  obtain ⟨xs, m, _, _, hcl, hxl, hf⟩ := DataW.trod_struct Tryd.underlying60 h
  rw [show Tryd.prog.cellsOf 60 = 7 by kernel_rfl] at hcl
  obtain ⟨a, b, c, d, e, f, g, rfl⟩ := len7 hcl
  have hx : xs.length = 7 := hxl
  have t0 : DataW.trod enc Tryd.prog w base spare held m 9 ((List.drop 0 [a, b, c, d, e, f, g]).take (Tryd.prog.cellsOf 9)) = xs[0]? := hf 0 _ rfl
  have t1 : DataW.trod enc Tryd.prog w base spare held m 3 ((List.drop 1 [a, b, c, d, e, f, g]).take (Tryd.prog.cellsOf 3)) = xs[1]? := hf 1 _ rfl
  have t2 : DataW.trod enc Tryd.prog w base spare held m 3 ((List.drop 2 [a, b, c, d, e, f, g]).take (Tryd.prog.cellsOf 3)) = xs[2]? := hf 2 _ rfl
  have t3 : DataW.trod enc Tryd.prog w base spare held m 3 ((List.drop 3 [a, b, c, d, e, f, g]).take (Tryd.prog.cellsOf 3)) = xs[3]? := hf 3 _ rfl
  have t4 : DataW.trod enc Tryd.prog w base spare held m 3 ((List.drop 4 [a, b, c, d, e, f, g]).take (Tryd.prog.cellsOf 3)) = xs[4]? := hf 4 _ rfl
  have t5 : DataW.trod enc Tryd.prog w base spare held m 51 ((List.drop 5 [a, b, c, d, e, f, g]).take (Tryd.prog.cellsOf 51)) = xs[5]? := hf 5 _ rfl
  have t6 : DataW.trod enc Tryd.prog w base spare held m 51 ((List.drop 6 [a, b, c, d, e, f, g]).take (Tryd.prog.cellsOf 51)) = xs[6]? := hf 6 _ rfl
  rw [c9] at t0
  rw [List.getElem?_eq_getElem (by omega)] at t0
  rw [c3] at t1
  rw [List.getElem?_eq_getElem (by omega)] at t1
  rw [c3] at t2
  rw [List.getElem?_eq_getElem (by omega)] at t2
  rw [c3] at t3
  rw [List.getElem?_eq_getElem (by omega)] at t3
  rw [c3] at t4
  rw [List.getElem?_eq_getElem (by omega)] at t4
  rw [c51] at t5
  rw [List.getElem?_eq_getElem (by omega)] at t5
  rw [c51] at t6
  rw [List.getElem?_eq_getElem (by omega)] at t6
  obtain ⟨s, e0, _, _⟩ := DataW.trod_string Tryd.underlying9 t0
  obtain ⟨k1, e1, _, _⟩ := DataW.trod_int Tryd.underlying3 t1
  obtain ⟨k2, e2, _, _⟩ := DataW.trod_int Tryd.underlying3 t2
  obtain ⟨k3, e3, _, _⟩ := DataW.trod_int Tryd.underlying3 t3
  obtain ⟨k4, e4, _, _⟩ := DataW.trod_int Tryd.underlying3 t4
  obtain ⟨A5, n5, l5, e5, C5, g5, _⟩ := ints_in t5
  obtain ⟨A6, n6, l6, e6, C6, g6, _⟩ := ints_in t6
  injection e0 with e0
  injection e1 with e1
  injection e2 with e2
  injection e3 with e3
  injection e4 with e4
  injection e5 with e5
  injection e6 with e6
  subst e0 e1 e2 e3 e4 e5 e6
  exact ⟨⟨s, k1, k2, k3, k4, l5, l6⟩, k60_mk w ⟨s, k1, k2, k3, k4, l5, l6⟩ g5 C5 g6 C6, trivial⟩
set_option maxRecDepth 100000 in
theorem prod_of {r : Reach} {b0 : Nat} {v : Value} {dd : DataW H} {p : List MemPlace} (hv : Value.okWide Tryd.prog w r b0 58 v) (h : DataW.Trod enc Tryd.prog w base spare held 58 v dd p) :
    ∃ (A : Option Addr) (c : Nat) (l : List S60), v = .slice A l.length c ∧ Kd.C k60 w A l.length l ∧ l.length ≤ c ∧ (∀ o ∈ l, True) :=
  rows_of k60 (fun _ => True) Tryd.underlying58 (by kernel_rfl) z60 (fun n cs x h => open60 h) hv h
end Go.Proofs.YtnhflmihjegaiaaDoor
