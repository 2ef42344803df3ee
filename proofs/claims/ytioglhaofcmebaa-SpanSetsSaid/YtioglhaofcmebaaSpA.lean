/- The library's functions at spans: Clone, IndexFunc, DeleteFunc. -/
import Derived.Test.YtioglhaofcmebaaPx0
import Derived.Test.YtioglhaofcmebaaPx1
import Derived.Test.YtioglhaofcmebaaMath
import Derived.Test.YtioglhaofcmebaaShelf
import Derived.Lib.Hide
import Derived.Lib.SliceRun
namespace Go.Proofs.Ytioglhaofcmebaa
open Go.RowKit Go.Proofs.YtioglhaofcmebaaW.PrintWords P
set_option linter.unusedSimpArgs false
set_option linter.unusedVariables false

/-- Spans in a row. -/
abbrev SpR (w : World) (base : Nat) (v : Value) (xs : List S23) : Prop := Kd.R k23 23 w base (fun _ => True) v xs
abbrev SpC (w : World) (A : Option Addr) (xs : List S23) : Prop := Kd.C k23 w A xs.length xs

theorem rd23 (l : List S23) (k : Nat) (hk : k < l.length) : rd_T23 l (k : Int) = l[k] := by
  simp [rd_T23, List.getD_eq_getElem?_getD, List.getElem?_eq_getElem hk]

set_option maxRecDepth 100000 in
theorem Clone_any (w : World) (A : Option Addr) (c : Nat) (l : List S23) (hC : SpC w A l) (hc : l.length ≤ c) (hl : l.length ≤ 1000000) :
    Calls Try.prog 37 #[.slice A l.length c] w fun e w' => ∃ v, e = .returned v ∧ SpR w' w.heap.size v l ∧ Below w.heap.size w w' := by
  have q22 : ∀ (w : World) (a : Option Addr) (n c n' c' : Nat), (binOp .eql 28 (.slice a n c) (.slice none n' c')).run Try.prog w = .ok (.bool a.isNone) w := fun w a n c n' c' => Lib.run_eql_slice_nil w _ _ a n c n' c' Try.underlying28
  cases A with
  | none =>
    have h0 : l = [] := by
      cases l with
      | nil => rfl
      | cons x r => obtain ⟨ad, h, _⟩ := hC.2.2 (by simp); cases h
    subst h0
    clear hC
    go_enter Try.func37, Try.ntmps37
    go_wp2
    go_ret
    exact ⟨_, rfl, Kd.R_nil _ _ _ _ _, Below.refl _ _⟩
  | some ad =>
    have HC := Lib.hid hC
    clear hC
    go_enter Try.func37, Try.ntmps37
    go_wp2_with (first
      | ((with_reducible refine gate_dst (N := 5) rfl ?_); refine Kd.R_lit k23 (w0 := w) w.heap.size 23 ?hg (N := 5) ?hd (xs := ([] : List S23)) (inner := []) (ok := fun _ => True) (okp := fun _ => True) ?hr ?hp (fun _ hk => hk) trivial (Below.refl _ _) (Nat.le_refl _) (by simp) ?_; (case hd => rfl); (case hg => rfl); (case hr => first | (go_simp; done) | (go_simp; rfl)); (case hp => exact (Reps.none _ _)); intro v9 wm R9 hB9 hg_ hnew_; clear hg_ hnew_)
      | ((with_reducible refine gate_builtin (b := .append) (xs := #[.tmp 5, .tmp 6]) rfl ?_); at_builtin; refine Kd.R_append_rows k23 (w0 := w) w.heap.size rfl (.tmp 5) (.tmp 6) 28 23 (.agg #[(.int .i64 0), (.int .i64 0)]) 16 rfl Try.underlying28 info23 rfl (by decide) (by omega) v9 [] l _ _ _ (fun _ => True) (fun _ => False) rfl rfl R9 (Kd.C_below HC.out hB9) (fun _ _ h => h) (fun _ h => h.elim) (fun _ _ => trivial) hB9 hB9.size (by simp; omega) ?_; intro v10 wn R10 hB10 hg_ hat_; clear hg_ hat_))
    go_ret
    exact ⟨_, rfl, by simpa using R10, hB10⟩

/-- The place of the first one, or -1. -/
def idxS (p : S23 → Bool) (l : List S23) : Int := match l.findIdx? p with
  | some i => (i : Int)
  | none => -1

theorem idxS_none {p : S23 → Bool} {l : List S23} (h : ∀ x ∈ l, p x = false) : idxS p l = -1 := by
  unfold idxS
  rw [List.findIdx?_eq_none_iff.2 h]
theorem idxS_some {p : S23 → Bool} {l : List S23} (k : Nat) (hk : k < l.length) (h1 : p l[k] = true) (h2 : ∀ x ∈ l.take k, p x = false) : idxS p l = (k : Int) := by
  unfold idxS
  rw [List.findIdx?_eq_some_iff_getElem.2 ⟨hk, h1, fun j hj => ?_⟩]
  have := h2 l[j] (by
    rw [List.mem_take_iff_getElem]
    exact ⟨j, by omega, rfl⟩)
  simp [this]

#print axioms Clone_any
#print axioms idxS_some
end Go.Proofs.Ytioglhaofcmebaa
