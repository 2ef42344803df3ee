/- report.Text: strconv.Itoa's contract, the text of rows. -/
import Derived.Test.YtnhflmihjegaiaaDoorStockA
import Derived.Lib.ItoaLen
import Derived.Lib.SmallJoins
import Derived.Lib.AppendIntMem
namespace Go.Proofs.YtnhflmihjegaiaaDoor
open Go.RowKit Go.Shelf Go.Proofs.YtnhflmihjegaiaaDoorW.PrintWords P
set_option linter.unusedSimpArgs false
set_option linter.unusedVariables false

/-- The library's table of the powers of ten, as it is laid. -/
def Tab (w : World) : Prop := Lib.TabIs Tryd.prog w "internal/strconv.uint64pow10" .u64 Lib.pow10Tab
theorem tabNamed : ∃ g, Tryd.prog.globalNamed "internal/strconv.uint64pow10" = some g := by
  have h : (Tryd.prog.globalNamed "internal/strconv.uint64pow10").isSome = true := by kernel_rfl
  exact Option.isSome_iff_exists.1 h
theorem Tab.below {B : Nat} {w w' : World} (h : Tab w) (hb : Below B w w') (hB : w.heap.size ≤ B) : Tab w' := by
  obtain ⟨g, hg⟩ := tabNamed
  exact Joins.tab_stays hg h hb hB
def fits (n : Int) : Prop := -9223372036854775808 ≤ n ∧ n ≤ 9223372036854775807
def dec (n : Int) : ByteArray := ⟨(Lib.itoa n).toArray⟩
theorem dec_size {n : Int} (h : fits n) : (dec n).size ≤ 21 := by
  have := Lib.itoa_length_le n h.1 h.2
  simpa [dec, ByteArray.size] using this
theorem Itoa_any (n : Int) (h : fits n) (w : World) (ht : Tab w) : Calls Tryd.prog 33 #[.int .i64 n] w fun e w' => e = .returned (.string (dec n)) ∧ Below w.heap.size w w' := by
  refine (Tryd.strconv_Itoa n h.1 h.2 w ht).mono ?_
  rintro e w' ⟨rfl, k, os, rfl⟩
  exact ⟨rfl, Lib.below_grow _ _ (Nat.le_refl _) _ _⟩

def nameOf (c : List S60) (r : S84) : ByteArray := if 0 ≤ r.f0 ∧ r.f0 < (c.length : Int) then (c.getD r.f0.toNat z60).f0 else ⟨#[45]⟩
def addInts (t : ByteArray) : List Int → ByteArray
  | [] => t
  | n :: r => addInts (t ++ ((⟨#[32]⟩ : ByteArray) ++ dec n)) r
def addRow (c : List S60) (t : ByteArray) (r : S84) : ByteArray := addInts (t ++ nameOf c r) [r.f1, r.f2, r.f3, r.f4] ++ (⟨#[10]⟩ : ByteArray)
def textK (c : List S60) (rows : List S84) (k : Nat) : ByteArray := (rows.take k).foldl (addRow c) ⟨#[]⟩
theorem textK_succ (c : List S60) (rows : List S84) (k : Nat) (h : k < rows.length) : textK c rows (k + 1) = addRow c (textK c rows k) rows[k] := by
  unfold textK
  rw [List.take_add_one, List.getElem?_eq_getElem h]
  simp only [Option.toList_some, List.foldl_append, List.foldl_cons, List.foldl_nil]
def RowFits (r : S84) : Prop := fits r.f1 ∧ fits r.f2 ∧ fits r.f3 ∧ fits r.f4
theorem nameOf_size {c : List S60} (hc : ∀ x ∈ c, x.f0.size ≤ 1000) (r : S84) : (nameOf c r).size ≤ 1000 := by
  unfold nameOf
  split
  · rename_i h
    have hl : r.f0.toNat < c.length := by omega
    rw [List.getD_eq_getElem?_getD, List.getElem?_eq_getElem hl]
    exact hc _ (List.getElem_mem hl)
  · exact (by decide : (⟨#[45]⟩ : ByteArray).size ≤ 1000)
theorem addRow_size {c : List S60} (hc : ∀ x ∈ c, x.f0.size ≤ 1000) (t : ByteArray) {r : S84} (hr : RowFits r) : (addRow c t r).size ≤ t.size + 1200 := by
  unfold addRow addInts addInts addInts addInts addInts
  have h0 := nameOf_size hc r
  have h1 := dec_size hr.1
  have h2 := dec_size hr.2.1
  have h3 := dec_size hr.2.2.1
  have h4 := dec_size hr.2.2.2
  have e1 : (⟨#[32]⟩ : ByteArray).size = 1 := rfl
  have e2 : (⟨#[10]⟩ : ByteArray).size = 1 := rfl
  simp only [ByteArray.size_append, e1, e2]
  omega
theorem textK_size {c : List S60} (hc : ∀ x ∈ c, x.f0.size ≤ 1000) (rows : List S84) (hr : ∀ r ∈ rows, RowFits r) : ∀ k, (textK c rows k).size ≤ k * 1200
  | 0 => Nat.zero_le _
  | k + 1 => by
    have ih := textK_size hc rows hr k
    rcases Nat.lt_or_ge k rows.length with h | h
    · rw [textK_succ c rows k h]
      have := addRow_size hc (textK c rows k) (hr _ (List.getElem_mem h))
      omega
    · have e : textK c rows (k + 1) = textK c rows k := by unfold textK; rw [List.take_of_length_le (by omega), List.take_of_length_le (by omega)]
      rw [e]
      exact Nat.le_trans ih (by omega)
end Go.Proofs.YtnhflmihjegaiaaDoor
