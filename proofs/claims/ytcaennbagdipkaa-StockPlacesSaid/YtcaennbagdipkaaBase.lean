/- Words on memory for the stock's proofs: slices that read as lists of strings or of entries, and what is kept while the stock's two blocks turn. -/
import Derived.Below
import Derived.Laws.OwnMore
import Derived.Deep.AppendLies
import Derived.Deep.Draws
import Derived.Maps.OwnSet
import Derived.Maps.RangeWalk
import Derived.Lib.Hide
import Derived.WideShapes
namespace Go.Proofs.Ytcaennbagdipkaa
open Go.RowKit Go.Maps

theorem block_of_add (a : Addr) (n : Nat) : (a.add n).block = a.block := by unfold Addr.add; split <;> rfl
theorem add_of_add (a : Addr) (i j : Nat) : (a.add i).add j = a.add (i + j) := by
  unfold Addr.add
  by_cases hi : i = 0 <;> by_cases hj : j = 0 <;> simp [hi, hj, Nat.add_assoc]

/-- w' is w with new blocks, and with writes to the blocks m, m + 1 alone. -/
structure Turn (m : Nat) (w w' : World) : Prop where
  os : w'.os = w.os
  tape : w'.tape = w.tape
  output : w'.output = w.output
  size : w.heap.size ≤ w'.heap.size
  block : ∀ k, k < w.heap.size → k ≠ m → k ≠ m + 1 → w'.heap[k]? = w.heap[k]?

theorem Turn.refl (m : Nat) (w : World) : Turn m w w := ⟨rfl, rfl, rfl, Nat.le_refl _, fun _ _ _ _ => rfl⟩
theorem Turn.trans {m : Nat} {a b c : World} (h : Turn m a b) (k : Turn m b c) : Turn m a c :=
  ⟨k.os.trans h.os, k.tape.trans h.tape, k.output.trans h.output, Nat.le_trans h.size k.size, fun i hi h1 h2 => (k.block i (Nat.lt_of_lt_of_le hi h.size) h1 h2).trans (h.block i hi h1 h2)⟩
theorem Turn.of_below {m : Nat} {a w w' : World} (h : Turn m a w) (k : Below w.heap.size w w') : Turn m a w' :=
  h.trans ⟨k.os, k.tape, k.output, k.size, fun i hi _ _ => k.block i hi⟩
theorem Turn.below {m B : Nat} {a w w' : World} (h : Below B a w) (k : Turn m w w') (hB : B ≤ m) (hs : B ≤ w.heap.size) : Below B a w' :=
  h.trans ⟨k.os, k.tape, k.output, k.size, fun i hi => k.block i (by omega) (by omega) (by omega)⟩
theorem Turn.cell {m : Nat} {w w' : World} (h : Turn m w w') {p : Addr} (hp : p.block < w.heap.size) (h1 : p.block ≠ m) (h2 : p.block ≠ m + 1) : w'.cell? p = w.cell? p :=
  World.cell?_of_block (w := w) (h.block p.block hp h1 h2)

/-- A slice value that reads as these cells, outside of the blocks m, m + 1. -/
def Cells (w : World) (m : Nat) (A : Option Addr) (xs : List Value) : Prop :=
  xs ≠ [] → ∃ ad, A = some ad ∧ ad.block < w.heap.size ∧ ad.block ≠ m ∧ ad.block ≠ m + 1 ∧ ∀ j u, xs[j]? = some u → w.cell? (ad.add j) = some u

section
variable {w w' : World} {m : Nat} {A : Option Addr} {xs : List Value}
theorem Cells.nil (w : World) (m : Nat) (A : Option Addr) : Cells w m A [] := fun h => absurd rfl h
theorem Cells.turn (h : Cells w m A xs) (k : Turn m w w') : Cells w' m A xs := fun hn => by
  obtain ⟨ad, e, hb, h1, h2, hc⟩ := h hn
  exact ⟨ad, e, Nat.lt_of_lt_of_le hb k.size, h1, h2, fun j u hu => (k.cell (by rw [block_of_add]; exact hb) (by rw [block_of_add]; exact h1) (by rw [block_of_add]; exact h2)).trans (hc j u hu)⟩
theorem Cells.below (h : Cells w m A xs) (k : Below w.heap.size w w') : Cells w' m A xs := h.turn ((Turn.refl m w).of_below k)
end

/-- The slice value v reads as the strings xs. -/
def Strs (w : World) (m : Nat) (v : Value) (xs : List ByteArray) : Prop :=
  ∃ A c, v = .slice A xs.length c ∧ Cells w m A (xs.map .string)

/-- An entry of the reference: an item, the order for which it is reserved. -/
structure REnt where
  item : ByteArray
  order : ByteArray
deriving DecidableEq, Inhabited

def REnt.cells (e : REnt) : List Value := [.string e.item, .string e.order]
def entCells (l : List REnt) : List Value := l.flatMap REnt.cells

/-- The slice value v reads as the entries l. -/
def Ents (w : World) (m : Nat) (v : Value) (l : List REnt) : Prop :=
  ∃ A c, v = .slice A l.length c ∧ Cells w m A (entCells l)

section
variable {w w' : World} {m : Nat} {v : Value}
theorem Strs.turn {xs : List ByteArray} (h : Strs w m v xs) (k : Turn m w w') : Strs w' m v xs := by
  obtain ⟨A, c, e, hc⟩ := h
  exact ⟨A, c, e, hc.turn k⟩
theorem Strs.below {xs : List ByteArray} (h : Strs w m v xs) (k : Below w.heap.size w w') : Strs w' m v xs := h.turn ((Turn.refl m w).of_below k)
theorem Strs.nil (w : World) (m : Nat) : Strs w m (.slice none 0 0) [] := ⟨none, 0, rfl, Cells.nil _ _ _⟩
theorem Ents.turn {l : List REnt} (h : Ents w m v l) (k : Turn m w w') : Ents w' m v l := by
  obtain ⟨A, c, e, hc⟩ := h
  exact ⟨A, c, e, hc.turn k⟩
theorem Ents.below {l : List REnt} (h : Ents w m v l) (k : Below w.heap.size w w') : Ents w' m v l := h.turn ((Turn.refl m w).of_below k)
theorem Ents.nil (w : World) (m : Nat) : Ents w m (.slice none 0 0) [] := ⟨none, 0, rfl, Cells.nil _ _ _⟩
end

theorem entCells_length : ∀ l : List REnt, (entCells l).length = 2 * l.length
  | [] => rfl
  | e :: r => by
    have := entCells_length r
    simp only [entCells, List.flatMap_cons, REnt.cells, List.length_append, List.length_cons, List.length_nil] at *
    omega

theorem entCells_get (l : List REnt) : ∀ (k : Nat) (hk : k < l.length), (entCells l)[2 * k]? = some (.string l[k].item) ∧ (entCells l)[2 * k + 1]? = some (.string l[k].order) := by
  induction l with
  | nil => intro k hk; exact absurd hk (Nat.not_lt_zero _)
  | cons e r ih =>
    intro k hk
    cases k with
    | zero => exact ⟨rfl, rfl⟩
    | succ k =>
      have := ih k (by simpa using hk)
      refine ⟨?_, ?_⟩
      · rw [show 2 * (k + 1) = 2 * k + 2 by omega]; exact this.1
      · rw [show 2 * (k + 1) + 1 = 2 * k + 1 + 2 by omega]; exact this.2

/-- Strings' equality as the walk writes it. -/
theorem str_eq (a b : ByteArray) : (a.toList == b.toList) = decide (a = b) := by
  rw [ByteArray.toList_eq, ByteArray.toList_eq]
  by_cases h : a = b
  · subst h; simp
  · have : ¬ a.data.toList = b.data.toList := fun e => h (WideShapes.bytes_inj e)
    rw [decide_eq_false h]
    exact beq_eq_false_iff_ne.2 this

theorem str_empty (a : ByteArray) : (a.toList.isEmpty) = decide (a = ByteArray.empty) := by
  have := str_eq a ByteArray.empty
  rw [← this]
  have e : ByteArray.empty.toList = [] := by rw [ByteArray.toList_eq]; rfl
  rw [e]
  cases a.toList <;> rfl

#print axioms entCells_get
#print axioms str_eq
end Go.Proofs.Ytcaennbagdipkaa
