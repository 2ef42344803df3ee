/- What the map of report.Stock holds: the place of each key in the list of the tallies. -/
import Derived.Test.YtnhflmihjegaiaaDoorMapT
namespace Go.Proofs.YtnhflmihjegaiaaDoor
open Go.RowKit Go.Maps Go.Proofs.YtnhflmihjegaiaaDoorW.PrintWords P
set_option linter.unusedSimpArgs false
set_option linter.unusedVariables false

/-- The product, the length and the grade are 64-bit. -/
def WfK (x : S42) : Prop := (Lit.int .i64 x.f0).wf = true ∧ (Lit.int .i64 x.f1).wf = true ∧ (Lit.int .i64 x.f2).wf = true
def keyS (x : S42) : Lit := keyL x.f0 x.f1 x.f2
def sameK (x y : S42) : Bool := x.f0 == y.f0 && x.f1 == y.f1 && x.f2 == y.f2
theorem keyS_iff {x y : S42} (hx : WfK x) (hy : WfK y) : keyS x = keyS y ↔ sameK x y = true := by
  constructor
  · intro h
    obtain ⟨h1, h2, h3⟩ := keyL_inj hx.1 hx.2.1 hx.2.2 hy.1 hy.2.1 hy.2.2 h
    simp [sameK, h1, h2, h3]
  · intro h
    simp only [sameK, Bool.and_eq_true, beq_iff_eq] at h
    unfold keyS
    rw [h.1.1, h.1.2, h.2]
theorem keyS_isKey (x : S42) : WideAt.IsKeyLit (keyS x) := trivial

/-- The datum of the map: each key's place. -/
structure MapR (D : DataW Unit) (ks : List Lit) : Prop where
  at_ : ∀ i k, ks[i]? = some k → ∀ z, D.atKey k z = .lit (.int .i64 ((i : Nat) : Int))
  has : ∀ k, Maps.has D k = true → k ∈ ks

theorem MapR.nil : MapR (.map []) [] := ⟨fun i k h => by simp at h, fun k h => by simp [Maps.has] at h⟩

theorem MapR.yes {D : DataW Unit} {ks : List Lit} (h : MapR D ks) {i : Nat} {k : Lit} (hi : ks[i]? = some k) : Maps.has D k = true := has_true_of_atKey (h.at_ i k hi)
theorem MapR.no {D : DataW Unit} {ks : List Lit} (h : MapR D ks) {k : Lit} (hn : k ∉ ks) : Maps.has D k = false := by
  cases hh : Maps.has D k with
  | false => rfl
  | true => exact absurd (h.has k hh) hn
theorem MapR.add {D : DataW Unit} {ks : List Lit} (h : MapR D ks) (hT : Tidy D) {k : Lit} (hk : WideAt.IsKeyLit k) (hn : k ∉ ks) : MapR (D.put k (.lit (.int .i64 ((ks.length : Nat) : Int)))) (ks ++ [k]) := by
  refine ⟨fun i k' hi z => ?_, fun k' hk' => ?_⟩
  · rcases Nat.lt_or_ge i ks.length with hlt | hge
    · rw [List.getElem?_append_left hlt] at hi
      have hm : k' ∈ ks := List.mem_of_getElem? hi
      rw [atKey_put_other (fun e => hn (by rw [e] at hm; exact hm))]
      exact h.at_ i k' hi z
    · rw [List.getElem?_append_right hge] at hi
      have hi0 : i - ks.length = 0 := by
        rcases Nat.eq_zero_or_pos (i - ks.length) with h0 | h0
        · exact h0
        · rw [List.getElem?_eq_none (by simp; omega)] at hi; cases hi
      rw [hi0] at hi
      have : k = k' := by simpa using hi
      subst this
      rw [show i = ks.length by omega]
      exact atKey_put_same hT.isMap hk _ _
  · by_cases hke : k' = k
    · simp [hke]
    · rw [has_put_other hke] at hk'
      exact List.mem_append_left _ (h.has k' hk')

/-! ### the tallies -/
def bump (x : S42) (v : Int) : S42 := { x with f3 := wrap64 (x.f3 + 1), f4 := wrap64 (x.f4 + v) }
/-- One board more: 'x' is its row with a count of 0, v its volume. -/
def tallyP (xs : List S42) (x : S42) (v : Int) : List S42 :=
  match xs.findIdx? (sameK x) with
  | some i => xs.set i (bump (xs.getD i x) v)
  | none => xs ++ [bump x v]
theorem keys_bump (x : S42) (v : Int) : keyS (bump x v) = keyS x := rfl
theorem keys_set (xs : List S42) (i : Nat) (x : S42) (v : Int) : (xs.set i (bump (xs.getD i x) v)).map keyS = xs.map keyS := by
  apply List.ext_getElem?
  intro j
  rw [List.getElem?_map, List.getElem?_map, List.getElem?_set]
  by_cases h : i = j
  · subst h
    rw [if_pos rfl]
    by_cases hl : i < xs.length
    · rw [if_pos hl, List.getElem?_eq_getElem hl]
      simp [keys_bump, List.getD_eq_getElem?_getD, List.getElem?_eq_getElem hl]
    · rw [if_neg hl, List.getElem?_eq_none (by omega)]
  · rw [if_neg h]

#print axioms MapR.add
#print axioms keys_set
end Go.Proofs.YtnhflmihjegaiaaDoor
