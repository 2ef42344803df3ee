/- The stock in memory: its two blocks read as a list of entries; what a store, a deletion and a look-up do to that reading. -/
import Derived.Test.YtcaennbagdipkaaPlain
import Derived.Maps.OwnSet
namespace Go.Proofs.Ytcaennbagdipkaa
open Go.RowKit Go.Maps Go.Proofs.YtcaennbagdipkaaW.PrintWords
set_option linter.unusedSimpArgs false
set_option linter.unusedVariables false

/-- An entry of the stock: the item, its number, the order for which it is reserved. -/
structure Ent where
  item : ByteArray
  n : Int
  order : ByteArray
deriving Inhabited, DecidableEq

def Ent.val (e : Ent) : Value := .agg #[.int .i64 e.n, .string e.order]
def entD (n : Int) (o : ByteArray) : DataW Unit := .agg [.lit (.int .i64 n), .lit (.string o.data.toList)]
def kOf (s : ByteArray) : Lit := .string s.data.toList

/-- How an element of the stock's map reads. -/
def Rv : Value → Option (DataW Unit × List MemPlace)
  | .agg cs => match cs.toList with
    | [.int .i64 n, .string s] => some (entD n s, [])
    | _ => none
  | _ => none

theorem Rv_mk (n : Int) (s : ByteArray) : Rv (.agg #[.int .i64 n, .string s]) = some (entD n s, []) := rfl

theorem Rv_inv {v : Value} {y : DataW Unit × List MemPlace} (h : Rv v = some y) : ∃ n s, v = .agg #[.int .i64 n, .string s] ∧ y = (entD n s, []) := by
  unfold Rv at h
  split at h
  · rename_i cs
    split at h
    · rename_i n s hl
      refine ⟨n, s, ?_, by cases h; rfl⟩
      rw [show cs = cs.toList.toArray from rfl, hl]
    · cases h
  · cases h

theorem entD_inj {n n' : Int} {s s' : ByteArray} (h : entD n s = entD n' s') : n = n' ∧ s = s' := by
  simp only [entD, DataW.agg.injEq, List.cons.injEq, DataW.lit.injEq, Lit.int.injEq, Lit.string.injEq, and_true, true_and] at h
  exact ⟨h.1, WideShapes.bytes_inj h.2⟩
theorem kOf_inj {s s' : ByteArray} (h : kOf s = kOf s') : s = s' := WideShapes.bytes_inj (by simpa [kOf] using h)
theorem kOf_isKey (s : ByteArray) : WideAt.IsKeyLit (kOf s) := trivial

theorem law : Keyed Try.prog 9 := string_keyed Try.underlying9
theorem hkey {s : ByteArray} (h : s.size ≤ maxLen) : keyOf Try.prog 9 (.string s) = some (kOf s) := Go.WideMaps.keyOf_string_mk Try.underlying9 h
theorem zero64 (w : World) : (zeroValue 64).run Try.prog w = .ok (.agg #[.int .i64 0, .string es]) w := by kernel_rfl

/-- The map's datum holds just the entries L. -/
structure Rep (D : DataW Unit) (L : List Ent) : Prop where
  at_ : ∀ e ∈ L, ∀ z, D.atKey (kOf e.item) z = entD e.n e.order
  has : ∀ k : Lit, Maps.has D k = true → ∃ e ∈ L, k = kOf e.item
  size : Maps.size D = L.length

/-- The list itself: risen by its numbers, no item twice, no number above c; every item is a string that can be a key. -/
structure Good (L : List Ent) (c : Int) : Prop where
  rising : L.Pairwise (fun a b => a.n < b.n)
  apart : L.Pairwise (fun a b => a.item ≠ b.item)
  top : ∀ e ∈ L, e.n ≤ c
  key : ∀ e ∈ L, e.item.size ≤ maxLen

/-- THE STOCK AT m: block m is its map, block m + 1 its struct. -/
structure Stk (w : World) (m : Nat) (L : List Ent) (c : Int) : Prop where
  row : w.heap[m + 1]? = some (.cells #[.map (some m), .int .i64 c] 55 (0, 0))
  map : ∃ D, w.ownsMap Try.prog 9 Rv m L.length D ∧ Rep D L
  good : Good L c

theorem Good.nil : Good [] 0 := ⟨List.Pairwise.nil, List.Pairwise.nil, (fun e h => by cases h), (fun e h => by cases h)⟩

theorem apart_eq {L : List Ent} (h : L.Pairwise (fun a b => a.item ≠ b.item)) {a b : Ent} (ha : a ∈ L) (hb : b ∈ L) (he : a.item = b.item) : a = b := by
  induction L with
  | nil => cases ha
  | cons x r ih =>
    obtain ⟨h1, h2⟩ := List.pairwise_cons.1 h
    rcases List.mem_cons.1 ha with ea | ha <;> rcases List.mem_cons.1 hb with eb | hb
    · rw [ea, eb]
    · rw [ea] at he; exact absurd he (h1 b hb)
    · rw [eb] at he; exact absurd he.symm (h1 a ha)
    · exact ih h2 ha hb

theorem Rep.has_iff {D : DataW Unit} {L : List Ent} (h : Rep D L) (hD : IsMap D) (s : ByteArray) : Maps.has D (kOf s) = true ↔ ∃ e ∈ L, e.item = s := by
  constructor
  · intro hh
    obtain ⟨e, he, hk⟩ := h.has _ hh
    exact ⟨e, he, (kOf_inj hk).symm⟩
  · rintro ⟨e, he, rfl⟩
    exact has_true_of_atKey (fun z => h.at_ e he z)

/-- 'len' tells how many entries there are, to the one. -/
theorem owns_tight {w : World} {m n : Nat} {D : DataW Unit} (h : w.ownsMap Try.prog 9 Rv m n D) : w.ownsMap Try.prog 9 Rv m (Maps.size D) D := by
  obtain ⟨e, clock, hb, F, _, rfl⟩ := h
  refine ⟨e, clock, hb, F, ?_, rfl⟩
  simp [Maps.size, length_sorted]

/-- An entry put in: a new one at the end. -/
theorem Rep.add {D : DataW Unit} {L : List Ent} (h : Rep D L) (hT : Tidy D) (e : Ent) (hn : ∀ x ∈ L, x.item ≠ e.item) : Rep (D.put (kOf e.item) (entD e.n e.order)) (L ++ [e]) := by
  have hno : Maps.has D (kOf e.item) = false := by
    cases hh : Maps.has D (kOf e.item)
    · rfl
    · obtain ⟨x, hx, hxe⟩ := (h.has_iff hT.isMap e.item).1 hh
      exact absurd hxe (hn x hx)
  refine ⟨fun x hx z => ?_, fun k hk => ?_, ?_⟩
  · rcases List.mem_append.1 hx with hx | hx
    · rw [atKey_put_other (fun hk => hn x hx (kOf_inj hk))]
      exact h.at_ x hx z
    · obtain rfl := List.mem_singleton.1 hx
      exact atKey_put_same hT.isMap (kOf_isKey _) _ _
  · by_cases hke : k = kOf e.item
    · exact ⟨e, by simp, hke⟩
    · rw [has_put_other hke] at hk
      obtain ⟨x, hx, hxe⟩ := h.has k hk
      exact ⟨x, by simp [hx], hxe⟩
  · rw [size_put hT, hno, h.size]; simp

/-- The list with the order of one item turned. -/
def setL (L : List Ent) (it o : ByteArray) : List Ent := L.map fun e => if e.item = it then { e with order := o } else e

theorem setL_length (L : List Ent) (it o : ByteArray) : (setL L it o).length = L.length := by simp [setL]

theorem Rep.set {D : DataW Unit} {L : List Ent} (h : Rep D L) (hT : Tidy D) (hA : L.Pairwise (fun a b => a.item ≠ b.item)) (e : Ent) (he : e ∈ L) (o : ByteArray) : Rep (D.put (kOf e.item) (entD e.n o)) (setL L e.item o) := by
  have hyes : Maps.has D (kOf e.item) = true := (h.has_iff hT.isMap e.item).2 ⟨e, he, rfl⟩
  refine ⟨fun x hx z => ?_, fun k hk => ?_, ?_⟩
  · obtain ⟨y, hy, rfl⟩ := List.mem_map.1 hx
    by_cases hye : y.item = e.item
    · obtain rfl := apart_eq hA hy he hye
      simp only [if_true]
      exact atKey_put_same hT.isMap (kOf_isKey _) _ _
    · simp only [hye, if_false]
      rw [atKey_put_other (fun hk => hye (kOf_inj hk))]
      exact h.at_ y hy z
  · by_cases hke : k = kOf e.item
    · refine ⟨{ e with order := o }, List.mem_map.2 ⟨e, he, by simp⟩, hke⟩
    · rw [has_put_other hke] at hk
      obtain ⟨x, hx, hxe⟩ := h.has k hk
      refine ⟨if x.item = e.item then { x with order := o } else x, List.mem_map.2 ⟨x, hx, rfl⟩, ?_⟩
      split <;> exact hxe
  · rw [size_put hT, hyes, setL_length, h.size]; simp

def delL (L : List Ent) (it : ByteArray) : List Ent := L.filter fun e => decide (e.item ≠ it)

theorem delL_length {L : List Ent} (hA : L.Pairwise (fun a b => a.item ≠ b.item)) {e : Ent} (he : e ∈ L) : (delL L e.item).length + 1 = L.length := by
  induction L with
  | nil => cases he
  | cons x r ih =>
    obtain ⟨h1, h2⟩ := List.pairwise_cons.1 hA
    rcases List.mem_cons.1 he with rfl | he
    · have : delL (e :: r) e.item = r := by
        simp only [delL, List.filter_cons]
        rw [if_neg (by simp)]
        exact List.filter_eq_self.2 (fun y hy => by simpa using (h1 y hy).symm)
      rw [this]; simp
    · have hne : x.item ≠ e.item := h1 e he
      have := ih h2 he
      simp only [delL, List.filter_cons, ne_eq, hne, not_false_eq_true, decide_true, if_true, List.length_cons] at this ⊢
      omega

theorem Rep.del {D : DataW Unit} {L : List Ent} (h : Rep D L) (hT : Tidy D) (hA : L.Pairwise (fun a b => a.item ≠ b.item)) (e : Ent) (he : e ∈ L) : Rep (D.del (kOf e.item)) (delL L e.item) := by
  have hyes : Maps.has D (kOf e.item) = true := (h.has_iff hT.isMap e.item).2 ⟨e, he, rfl⟩
  refine ⟨fun x hx z => ?_, fun k hk => ?_, ?_⟩
  · obtain ⟨hx1, hx2⟩ := List.mem_filter.1 hx
    rw [atKey_del_other (fun hk => (of_decide_eq_true hx2) (kOf_inj hk))]
    exact h.at_ x hx1 z
  · by_cases hke : k = kOf e.item
    · rw [hke, has_del_same] at hk; cases hk
    · rw [has_del_other hke] at hk
      obtain ⟨x, hx, hxe⟩ := h.has k hk
      exact ⟨x, List.mem_filter.2 ⟨hx, by simpa using fun e1 => hke (by rw [hxe, e1])⟩, hxe⟩
  · have := size_del (k := kOf e.item) hT
    rw [hyes, if_pos rfl, h.size] at this
    have := delL_length hA he
    omega

/-! ### the list's own laws -/
theorem Good.add {L : List Ent} {c : Int} (h : Good L c) {it : ByteArray} (hk : it.size ≤ maxLen) (hn : ∀ x ∈ L, x.item ≠ it) : Good (L ++ [⟨it, c + 1, es⟩]) (c + 1) where
  rising := List.pairwise_append.2 ⟨h.rising, List.pairwise_singleton _ _, fun a ha b hb => by
    obtain rfl := List.mem_singleton.1 hb
    have := h.top a ha
    show a.n < c + 1
    omega⟩
  apart := List.pairwise_append.2 ⟨h.apart, List.pairwise_singleton _ _, fun a ha b hb => by
    obtain rfl := List.mem_singleton.1 hb
    exact hn a ha⟩
  top := fun e he => by
    rcases List.mem_append.1 he with he | he
    · have := h.top e he; omega
    · obtain rfl := List.mem_singleton.1 he
      exact Int.le_refl _
  key := fun e he => by
    rcases List.mem_append.1 he with he | he
    · exact h.key e he
    · obtain rfl := List.mem_singleton.1 he
      exact hk

theorem Good.map {L : List Ent} {c : Int} (h : Good L c) (f : Ent → Ent) (h1 : ∀ e, (f e).item = e.item) (h2 : ∀ e, (f e).n = e.n) : Good (L.map f) c where
  rising := List.pairwise_map.2 (h.rising.imp (fun {a b} hab => by rw [h2, h2]; exact hab))
  apart := List.pairwise_map.2 (h.apart.imp (fun {a b} hab => by rw [h1, h1]; exact hab))
  top := fun e he => by
    obtain ⟨x, hx, rfl⟩ := List.mem_map.1 he
    rw [h2]; exact h.top x hx
  key := fun e he => by
    obtain ⟨x, hx, rfl⟩ := List.mem_map.1 he
    rw [h1]; exact h.key x hx

theorem Good.set {L : List Ent} {c : Int} (h : Good L c) (it o : ByteArray) : Good (setL L it o) c := h.map _ (fun e => by split <;> rfl) (fun e => by split <;> rfl)
theorem Good.filter {L : List Ent} {c : Int} (h : Good L c) (p : Ent → Bool) : Good (L.filter p) c where
  rising := h.rising.filter p
  apart := h.apart.filter p
  top := fun e he => h.top e (List.mem_filter.1 he).1
  key := fun e he => h.key e (List.mem_filter.1 he).1

theorem Stk.lt {w : World} {m : Nat} {L : List Ent} {c : Int} (h : Stk w m L c) : m + 1 < w.heap.size := (Array.getElem?_eq_some_iff.1 h.row).1

/-- The stock stays what it is while other blocks are written and new ones are made. -/
theorem Stk.kept {w w' : World} {m : Nat} {L : List Ent} {c : Int} (h : Stk w m L c) (h1 : w'.heap[m]? = w.heap[m]?) (h2 : w'.heap[m + 1]? = w.heap[m + 1]?) : Stk w' m L c := by
  obtain ⟨hr, ⟨D, ⟨e, clock, hb, rest⟩, hR⟩, hg⟩ := h
  exact ⟨h2.trans hr, ⟨D, ⟨e, clock, h1.trans hb, rest⟩, hR⟩, hg⟩
theorem Stk.below {w w' : World} {m : Nat} {L : List Ent} {c : Int} (h : Stk w m L c) (hb : Below w.heap.size w w') : Stk w' m L c :=
  h.kept (hb.block _ (by have := h.lt; omega)) (hb.block _ h.lt)

#print axioms Rep.set
#print axioms Rep.del
#print axioms Stk.below
end Go.Proofs.Ytcaennbagdipkaa
