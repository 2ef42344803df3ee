/- ReportSums: the lines of a text without product names. -/
import Derived.Test.YtnhflmihjegaiaaDoorTextB
namespace Go.Proofs.YtnhflmihjegaiaaDoor
open Go.RowKit P
set_option linter.unusedSimpArgs false
set_option linter.unusedVariables false

def nl (b : ByteArray) (k : Nat) : Int := (((b.data.toList.take k).count 10 : Nat) : Int)
theorem nl_bnd (b : ByteArray) (k : Nat) : 0 ≤ nl b k ∧ nl b k ≤ k := by
  unfold nl
  have h1 : (b.data.toList.take k).count 10 ≤ (b.data.toList.take k).length := List.count_le_length
  have h2 : (b.data.toList.take k).length ≤ k := by rw [List.length_take]; exact Nat.min_le_left _ _
  omega
theorem nl_succ (b : ByteArray) (k : Nat) (h : k < b.size) : nl b (k + 1) = nl b k + (if (b[k].toNat : Int) = 10 then 1 else 0) := by
  unfold nl
  have hk : k < b.data.toList.length := by rw [Array.length_toList]; exact h
  have he : b.data.toList[k] = b[k] := by rw [Array.getElem_toList]; rfl
  rw [List.take_add_one, List.getElem?_eq_getElem hk, he]
  simp only [Option.toList_some, List.count_append]
  by_cases h2 : b[k] = 10
  · rw [h2]
    simp
  · have h3 : ¬ ((b[k].toNat : Int) = 10) := by
      intro e
      apply h2
      have : b[k].toNat = 10 := by omega
      exact UInt8.toNat_inj.1 (by rw [this]; rfl)
    rw [if_neg h3]
    have h4 : List.count 10 [b[k]] = 0 := by
      rw [List.count_eq_zero]
      simpa using fun e => h2 e.symm
    rw [h4]
    simp
def c10 (b : ByteArray) : Nat := b.data.toList.count 10
theorem c10_append (a b : ByteArray) : c10 (a ++ b) = c10 a + c10 b := by
  unfold c10
  rw [Joins.data_append, List.count_append]
theorem dec_no10 (u : Nat) : (10 : UInt8) ∉ Lib.decDigits u := by
  induction u using Nat.strongRecOn with
  | _ u ih =>
    rw [Lib.decDigits]
    have hd : ∀ r, r < 10 → (10 : UInt8) ≠ UInt8.ofNat (48 + r) := by decide
    split
    · rename_i h
      rw [List.mem_singleton]
      exact hd u h
    · rename_i h
      rw [List.mem_append, List.mem_singleton]
      rintro (h1 | h1)
      · exact ih (u / 10) (by omega) h1
      · exact hd (u % 10) (by omega) h1
theorem c10_dec (n : Int) : c10 (dec n) = 0 := by
  unfold c10 dec
  rw [List.count_eq_zero]
  show (10 : UInt8) ∉ (Lib.itoa n).toArray.toList
  rw [List.toList_toArray]
  unfold Lib.itoa
  split
  · rw [List.mem_cons]
    rintro (h | h)
    · exact absurd h (by decide)
    · exact dec_no10 _ h
  · exact dec_no10 _
theorem c10_addInts (t : ByteArray) : ∀ ns, c10 (addInts t ns) = c10 t
  | [] => rfl
  | n :: r => by
    unfold addInts
    rw [c10_addInts _ r, c10_append, c10_append, c10_dec]
    rfl
theorem nl_text (rows : List S84) : ∀ k, k ≤ rows.length → c10 (textK [] rows k) = k
  | 0, _ => rfl
  | k + 1, h => by
    rw [textK_succ [] rows k (by omega)]
    unfold addRow
    rw [c10_append, c10_addInts, c10_append, nl_text rows k (by omega)]
    have h1 : nameOf [] rows[k] = (⟨#[45]⟩ : ByteArray) := by
      unfold nameOf
      rw [if_neg (by rintro ⟨h1, h2⟩; have : (([] : List S60).length : Int) = 0 := rfl; omega)]
    rw [h1]
    rfl
theorem nl_all (rows : List S84) : nl (textK [] rows rows.length) (textK [] rows rows.length).size = (rows.length : Int) := by
  have h := nl_text rows rows.length (Nat.le_refl _)
  unfold c10 at h
  unfold nl
  rw [List.take_of_length_le (by rw [Array.length_toList]; exact Nat.le_refl _), h]
end Go.Proofs.YtnhflmihjegaiaaDoor
