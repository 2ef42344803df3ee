/- A []Op argument opened; what a run of calls comes to. -/
import Derived.Test.YtcaennbagdipkaaDo
import Derived.Deep.Slices
import Derived.Deep.Fields
import Derived.ChangeSame
import Derived.Lib.SmallJoins
namespace Go.Proofs.Ytcaennbagdipkaa
open Go.RowKit Go.Maps Go.Proofs.YtcaennbagdipkaaW.PrintWords P
set_option linter.unusedSimpArgs false
set_option linter.unusedVariables false
section
open Go.ChangeShapes Go.WideShapes Go.Deep
section
variable {H : Type} {enc : TypeId × Value → H} {P : Program} {w : World} {base : Nat} {spare : Nat → Bool} {held : Bool}
theorem open_slice_fields {t e : TypeId} {fs : Array Field} {fuel : Nat} {cs : List Value} {x : DataW H × List MemPlace} (ht : P.underlying t = some (.slice e)) (he : P.underlying e = some (.struct fs))
    (hone : oneCellFields P fs = true) (hC : P.cellsOf e = fs.size) (h : DataW.trod enc P w base spare held fuel t cs = some x) :
    (cs = [.slice none 0 0] ∧ x = (.nil, [])) ∨
    ∃ (a : Addr) (len cap m : Nat) (D : Nat → DataW H) (Pl : Nat → List MemPlace), cs = [.slice (some a) len cap] ∧ base ≤ a.block ∧ len ≤ cap ∧ cap ≤ maxLen ∧ m = (if spare a.block then cap else len) ∧
      x = (.slice ((List.range len).map D) ((List.range (m - len)).map fun j => D (len + j)), MemPlace.row a (m * fs.size) ++ (List.range m).flatMap Pl) ∧
      ∀ i, i < m → ∃ (ys : List (DataW H × List MemPlace)) (n : Nat), D i = .agg (ys.map (·.1)) ∧ Pl i = ys.flatMap (·.2) ∧ ys.length = fs.size ∧
        ∀ (j : Nat) (f : Field), fs[j]? = some f → ∃ (v : Value) (y : DataW H × List MemPlace), w.cell? (a.add (i * fs.size + j)) = some v ∧ ys[j]? = some y ∧ DataW.trod enc P w base spare held n f.type [v] = some y := by
  rcases open_slice ht h with h0 | ⟨a, len, cap, m, n, D, Pl, hcs, hb, hl, hm, hmm, hx, hi⟩
  · exact .inl h0
  · refine .inr ⟨a, len, cap, m, D, Pl, hcs, hb, hl, hm, hmm, by rw [hC] at hx; exact hx, fun i him => ?_⟩
    obtain ⟨cs', hc, ht'⟩ := hi i him
    rw [hC] at hc
    obtain ⟨ys, n', hn', hy, hlen, hyl, hf⟩ := DataW.trod_struct he ht'
    obtain ⟨_, hcl, hat⟩ := World.cells?_some hc
    simp only [Prod.mk.injEq] at hy
    refine ⟨ys, n', hy.1, hy.2, hyl, fun j f hj => ?_⟩
    obtain ⟨ho, hk⟩ := hone_of hone j f hj
    have hjl : j < fs.size := (Array.getElem?_eq_some_iff.1 hj).1
    have hcell := hat j hjl
    have hv : cs'[j]? = some (cs'[j]'(by omega)) := List.getElem?_eq_getElem (by omega)
    have h1 := hf j f hj
    rw [ho, hk] at h1
    have hone' : (cs'.drop j).take 1 = [cs'[j]'(by omega)] := by
      rw [List.drop_eq_getElem_cons (by omega)]
      rfl
    rw [hone'] at h1
    have hys : ys[j]? = some (ys[j]'(by omega)) := List.getElem?_eq_getElem (by omega)
    refine ⟨_, _, ?_, hys, h1.trans hys⟩
    rw [← Go.Deep.add_add, hcell, hv]
end
end

section
open Go.ChangeShapes Go.WideShapes Go.ChangeAt Go.Joins
variable {H : Type} {enc : TypeId × Value → H} {w : World} {base : Nat} {spare : Nat → Bool} {held : Bool}
theorem ops_of {r : Reach} {b0 : Nat} {v : Value} {d : DataW H} {p : List MemPlace} (hv : Value.okWide Try.prog w r b0 22 v) (h : DataW.Trod enc Try.prog w base spare held 22 v d p) :
    ∃ (A : Option Addr) (c : Nat) (l : List S29), v = .slice A l.length c ∧ Kd.C k29 w A l.length l ∧ l.length ≤ c := by
  obtain ⟨a0, len0, cap0, rfl⟩ := okWide_slice Try.underlying22 hv
  obtain ⟨fuel, hf⟩ := h
  rcases open_slice_fields (H := H) Try.underlying22 Try.underlying29 (by kernel_rfl) (by kernel_rfl) hf with ⟨h1, h2⟩ | ⟨a, len, cap, m, D, Pl, h1, hb, hl, hm, hmm, hx, hi⟩
  · simp only [Value.cells, List.cons.injEq, and_true] at h1
    exact ⟨none, 0, [], h1, ⟨rfl, Nat.zero_le _, fun h => absurd h (Nat.lt_irrefl _)⟩, Nat.le_refl _⟩
  · simp only [Value.cells, List.cons.injEq, and_true] at h1
    have hlm : len ≤ m := by rw [hmm]; split <;> omega
    have hc : ∀ i, ∃ o : S29, i < len → w.cell? (a.add (i * 3)) = some (.int .u8 o.f0) ∧ w.cell? (a.add (i * 3 + 1)) = some (.string o.f1) ∧ w.cell? (a.add (i * 3 + 2)) = some (.string o.f2) := by
      intro i
      by_cases hil : i < len
      · obtain ⟨ys, n, _, _, _, hj⟩ := hi i (by omega)
        obtain ⟨v0, y0, c0, _, t0⟩ := hj 0 _ rfl
        obtain ⟨v1, y1, c1, _, t1⟩ := hj 1 _ rfl
        obtain ⟨v2, y2, c2, _, t2⟩ := hj 2 _ rfl
        obtain ⟨k, e0, _, _⟩ := DataW.trod_int Try.underlying5 t0
        obtain ⟨s1, e1, _, _⟩ := DataW.trod_string Try.underlying9 t1
        obtain ⟨s2, e2, _, _⟩ := DataW.trod_string Try.underlying9 t2
        simp only [List.cons.injEq, and_true] at e0 e1 e2
        subst e0 e1 e2
        exact ⟨⟨k, s1, s2⟩, fun _ => ⟨c0, c1, c2⟩⟩
      · exact ⟨z29, fun h => absurd h hil⟩
    obtain ⟨f, hf⟩ := Classical.axiomOfChoice hc
    refine ⟨some a, cap, (List.range len).map f, by rw [h1]; simp, ⟨by simp, by simp; unfold maxLen at hm; omega, fun _ => ⟨a, rfl, fun j o hj => ?_⟩⟩, by simpa using hl⟩
    rw [List.getElem?_map] at hj
    by_cases hjl : j < len
    · rw [List.getElem?_range hjl] at hj
      simp only [Option.map_some, Option.some.injEq] at hj
      subst hj
      obtain ⟨c0, c1, c2⟩ := hf j hjl
      refine ⟨_, rfl, k29_mk w (f j), fun i u hu => ?_⟩
      match i with
      | 0 => simp only [List.getElem?_cons_zero, Option.some.injEq] at hu; subst hu; exact c0
      | 1 => simp only [List.getElem?_cons_succ, List.getElem?_cons_zero, Option.some.injEq] at hu; subst hu; exact c1
      | 2 => simp only [List.getElem?_cons_succ, List.getElem?_cons_zero, Option.some.injEq] at hu; subst hu; exact c2
      | i + 3 => simp at hu
    · rw [List.getElem?_eq_none (by simpa using hjl)] at hj
      cases hj
end

/-! ### runs -/
/-- The state behind a run of calls. -/
def runS (ops : List S29) : List Ent × Int := ops.foldl (fun s o => ((doS s.1 s.2 o).L, (doS s.1 s.2 o).c)) ([], 0)

theorem rd29 (l : List S29) (k : Nat) (hk : k < l.length) : rd_T29 l (k : Int) = l[k] := by
  simp [rd_T29, List.getD_eq_getElem?_getD, List.getElem?_eq_getElem hk]

theorem runS_succ (l : List S29) (k : Nat) (hk : k < l.length) : runS (l.take (k + 1)) = ((doS (runS (l.take k)).1 (runS (l.take k)).2 l[k]).L, (doS (runS (l.take k)).1 (runS (l.take k)).2 l[k]).c) := by
  have : l.take (k + 1) = l.take k ++ [l[k]] := by rw [List.take_add_one, List.getElem?_eq_getElem hk]; rfl
  rw [this]
  simp only [runS, List.foldl_append, List.foldl_cons, List.foldl_nil]

/-- What holds of the state behind every run of n calls. -/
structure Fine (n : Nat) (s : List Ent × Int) : Prop where
  len : s.1.length ≤ n
  lo : 0 ≤ s.2
  hi : s.2 ≤ n
  name : ∀ e ∈ s.1, e.item ≠ es ∧ e.item.size ≤ 100

theorem relL_length (L : List Ent) (o : ByteArray) : (relL L o).length = L.length := by unfold relL; split <;> simp
theorem relL_items {L : List Ent} {o : ByteArray} {e : Ent} (h : e ∈ relL L o) : ∃ x ∈ L, x.item = e.item := by
  unfold relL at h
  split at h
  · exact ⟨e, h, rfl⟩
  · obtain ⟨x, hx, rfl⟩ := List.mem_map.1 h
    exact ⟨x, hx, by split <;> rfl⟩
theorem remL_length (L : List Ent) (o : ByteArray) : (remL L o).length ≤ L.length := by unfold remL; split <;> simp [List.length_filter_le]
theorem remL_mem {L : List Ent} {o : ByteArray} {e : Ent} (h : e ∈ remL L o) : e ∈ L := by
  unfold remL at h
  split at h
  · exact h
  · exact (List.mem_filter.1 h).1

theorem Fine.step {n : Nat} {s : List Ent × Int} (h : Fine n s) (o : S29) (ho : o.f1.size ≤ 100) : Fine (n + 1) ((doS s.1 s.2 o).L, (doS s.1 s.2 o).c) := by
  obtain ⟨h1, h2, h3, h4⟩ := h
  unfold doS
  by_cases k0 : o.f0 = 0
  · rw [if_pos k0]
    simp only [addS]
    by_cases q1 : o.f1 = es
    · rw [if_pos q1]; exact ⟨by simp; omega, by simpa using h2, by simp; omega, h4⟩
    · rw [if_neg q1]
      split
      · exact ⟨by simp; omega, by simpa using h2, by simp; omega, h4⟩
      · split
        · exact ⟨by simp; omega, by simpa using h2, by simp; omega, h4⟩
        · refine ⟨by simp; omega, by simp; omega, by simp; omega, fun e he => ?_⟩
          rcases List.mem_append.1 he with he | he
          · exact h4 e he
          · obtain rfl := List.mem_singleton.1 he
            exact ⟨q1, ho⟩
  · rw [if_neg k0]
    by_cases k1 : o.f0 = 1
    · rw [if_pos k1]
      simp only [resS]
      have keep : Fine (n + 1) (s.1, s.2) := ⟨by simp; omega, by simpa using h2, by simp; omega, h4⟩
      split
      · exact keep
      · split
        · exact keep
        · split
          · refine ⟨by simp [setL]; omega, by simpa using h2, by simp; omega, fun e he => ?_⟩
            obtain ⟨x, hx, rfl⟩ := List.mem_map.1 he
            have := h4 x hx
            split <;> simpa using this
          · exact keep
    · rw [if_neg k1]
      by_cases k2 : o.f0 = 2
      · rw [if_pos k2]
        refine ⟨by simp [relL_length]; omega, by simpa using h2, by simp; omega, fun e he => ?_⟩
        obtain ⟨x, hx, hxe⟩ := relL_items he
        rw [← hxe]; exact h4 x hx
      · rw [if_neg k2]
        exact ⟨by simp; have := remL_length s.1 o.f2; omega, by simpa using h2, by simp; omega, fun e he => h4 e (remL_mem he)⟩

theorem fine_run (l : List S29) (hl : ∀ o ∈ l, o.f1.size ≤ 100) : ∀ k, k ≤ l.length → Fine k (runS (l.take k)) := by
  intro k
  induction k with
  | zero => intro _; exact ⟨by simp [runS], by simp [runS], by simp [runS], by simp [runS]⟩
  | succ k ih =>
    intro hk
    rw [runS_succ l k hk]
    exact (ih (by omega)).step _ (hl _ (List.getElem_mem hk))

/-- The guard of the laws. -/
def smallB (l : List S29) : Bool := decide (l.length ≤ 200) && l.all opOk

theorem smallB_ops {l : List S29} (h : smallB l = true) : l.length ≤ 200 ∧ ∀ o ∈ l, o.f1.size ≤ 100 ∧ o.f2.size ≤ 100 := by
  simp only [smallB, Bool.and_eq_true, decide_eq_true_eq, List.all_eq_true, opOk] at h
  exact h

theorem small_any {w : World} {A : Option Addr} {c : Nat} {l : List S29} (hC : Kd.C k29 w A l.length l) (hc : l.length ≤ c) :
    Calls Try.prog 9 #[.slice A l.length c] w fun e w' => e = .returned (.bool (smallB l)) ∧ Below w.heap.size w w' := by
  by_cases hm : l.length ≤ 4611686018427387904
  · exact (sawmilllaw47_small.calls 202 A c l _ w hC hc (small_eq 202 l (by omega) hm)).mono fun e w' ⟨he, hd⟩ => ⟨he, hd.below⟩
  · have : smallB l = false := by simp [smallB]; omega
    rw [this]
    exact (sawmilllaw47_small.calls 202 A c l false w hC hc (by unfold sawmilllaw47_small.f; rw [if_pos (by omega)])).mono fun e w' ⟨he, hd⟩ => ⟨he, hd.below⟩

#print axioms ops_of
#print axioms fine_run
#print axioms small_any
end Go.Proofs.Ytcaennbagdipkaa
