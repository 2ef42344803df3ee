/- slices.SortFunc at spans, with the program's own comparison. -/
import Derived.Test.YtioglhaofcmebaaSpD
import Derived.Shelf.SlSortCmp.WholeK
import Derived.Shelf.SlSortCmp.NoneTotal
namespace Go.Proofs.Ytioglhaofcmebaa
open Go.RowKit Go.Sort Go.Shelf Go.Lib Go.Proofs.YtioglhaofcmebaaW.PrintWords P
set_option linter.unusedSimpArgs false
set_option linter.unusedVariables false

def cfS (x y : S23) : Int := Lib.compareInt x.f0 y.f0
theorem ltS (x y : S23) : ltOf cfS x y = decide (x.f0 < y.f0) := by
  unfold ltOf cfS Lib.compareInt
  by_cases h1 : x.f0 < y.f0
  · simp [h1]
  · by_cases h2 : y.f0 < x.f0 <;> simp [h1, h2]
theorem swoS : SWO (ltOf cfS) where
  irrefl x := by rw [ltS]; simp
  trans x y z h1 h2 := by rw [ltS] at *; simp at *; omega
  ntrans x y z h1 h2 := by rw [ltS] at *; simp at *; omega

set_option maxHeartbeats 1000000 in
theorem closure39 (x y : S23) (W : World) : Calls Try.prog 39 #[.agg #[.int .i64 x.f0, .int .i64 x.f1], .agg #[.int .i64 y.f0, .int .i64 y.f1]] W fun e w' => e = .returned (.int .i64 (cfS x y)) ∧ ∃ q os', w' = grow (W.drewN q) os' := by
  have hcon := fun W' => Try.cmp_Compare_int x.f0 y.f0 W'
  unfold cfS
  generalize Lib.compareInt x.f0 y.f0 = r at hcon ⊢
  go_enter Try.func39, Try.ntmps39
  go_wp2_with (go_at_call 40; refine (hcon _).mono ?_; rintro e w' ⟨rfl, rfl⟩)
  go_ret
  exact ⟨rfl, 0, _, by rw [alloc_eq_grow, alloc_eq_grow, grow_grow]; rfl⟩

theorem cmpLays39 (blk off size : Nat) (w : World) : CmpLays Try.prog 39 #[] encS 2 cfS blk off size w :=
  fun _ _ _ _ x y => closure39 x y _

/-! ### the flat row -/
theorem flat_get : ∀ (l : List S23) (t : Nat), t < l.length * 2 → (flat l)[t]! = (encS (l[t / 2]!))[t % 2]!
  | [], t, h => by simp at h
  | x :: r, 0, h => by simp [flat, encS]
  | x :: r, 1, h => by simp [flat, encS]
  | x :: r, t + 2, h => by
    have := flat_get r t (by simp at h; omega)
    simp only [flat, List.getElem!_cons_succ]
    rw [this, show (t + 2) / 2 = t / 2 + 1 by omega, show (t + 2) % 2 = t % 2 by omega]
    simp

theorem flatK_eq (l : List S23) : (flatK encS 2 l.toArray) = (flat l).toArray := by
  refine ext_get! (by simp [flat_length]) fun t ht => ?_
  have ht' : t < l.length * 2 := by simpa using ht
  rw [get_flatK _ _ _ t (by simpa using ht')]
  have e1 : l.toArray[t / 2]! = l[t / 2]! := by simp
  have e2 : (flat l).toArray[t]! = (flat l)[t]! := by simp
  rw [e1, e2, flat_get l t ht']

theorem holdsF {w : World} {g : Nat} {cur : Array Value} {e : TypeId} {ss : List Value} (hb : w.heap[g]? = some (.cells cur e (0, 0))) (ht : cur.toList.take ss.length = ss) : Holds id w g 0 ss.toArray := by
  intro j hj
  have hj' : j < ss.length := by simpa using hj
  refine ⟨?_, by simp [World.frozen?, hb]⟩
  have h1 : (cur.toList.take ss.length)[j]? = ss[j]? := by rw [ht]
  rw [List.getElem?_take_of_lt hj'] at h1
  simp only [World.cell?, hb, Nat.zero_add]
  simp only [Option.isSome_none, Bool.false_eq_true, if_false]
  rw [← Array.getElem?_toList, h1]
  simp [hj']

theorem heapF {w : World} {g n : Nat} {os : Array Obj} {cur : Array Value} {e : TypeId} {fr : Nat × Nat} (d : Array Value) (hb : w.heap[g]? = some (.cells cur e fr)) :
    (grow (putRow id (Sort.ahead w n) g 0 d) os).heap[g]? = some (.cells (putCells id 0 d cur) e fr) := by
  have hg : g < w.heap.size := (Array.getElem?_eq_some_iff.1 hb).1
  rw [heap_grow_old _ _ (by simpa using hg)]
  simp [putRow, mapBlock, Sort.ahead, Array.getElem?_modify, hb, onCells]

theorem belowF {w : World} {g n base : Nat} {os : Array Obj} (d : Array Value) (hbase : base ≤ g) (hg : g < w.heap.size) : RowKit.Below base w (grow (putRow id (Sort.ahead w n) g 0 d) os) := by
  refine ⟨rfl, rfl, rfl, by simp, fun k hk => ?_⟩
  by_cases hlt : k < w.heap.size
  · rw [heap_grow_old _ _ (by simpa using hlt)]
    have : g ≠ k := by omega
    simp [putRow, mapBlock, Sort.ahead, Array.getElem?_modify, this]
  · omega

theorem takeF (cur : Array Value) (ts : List Value) (h : ts.length ≤ cur.size) : (putCells id 0 ts.toArray cur).toList.take ts.length = ts := by
  apply List.ext_getElem?
  intro j
  by_cases hj : j < ts.length
  · rw [List.getElem?_take_of_lt hj, Array.getElem?_toList]
    simp [putCells, hj, show j < cur.size by omega]
  · rw [List.getElem?_take_eq_none (by omega), List.getElem?_eq_none (by omega)]

theorem sorted_pair {d d' : Array S23} (h : SortedIn (ltOf cfS) 0 d.size d') (hs : d'.size = d.size) : d'.toList.Pairwise (fun a b => a.f0 ≤ b.f0) := by
  rw [List.pairwise_iff_getElem]
  intro i j hi hj hij
  have hi' : i < d'.size := by simpa using hi
  have hj' : j < d'.size := by simpa using hj
  have := h i j (Nat.zero_le _) hij (by omega)
  rw [ltS, getElem!_pos d' i hi', getElem!_pos d' j hj'] at this
  simp only [Array.getElem_toList]
  have := of_decide_eq_false this
  omega

set_option maxHeartbeats 1000000 in
theorem Sort_any (w : World) (base : Nat) (v : Value) (l : List S23) (hR : SpR w base v l) (hl : l.length ≤ 1000000) :
    Calls Try.prog 38 #[v, .func (.func 39) #[] #[]] w fun e w' => e = .returned (.tuple #[]) ∧ ∃ d : List S23, d.Perm l ∧ d.Pairwise (fun a b => a.f0 ≤ b.f0) ∧ SpR w' base v d ∧ RowKit.Below base w w' := by
  have eg : ∀ args w, (callFunc 39 args).run Try.prog w = .ok (.enter 39 args) w := enters_of Try.func39 (by kernel_rfl) rfl
  rcases SpR_shape hR with ⟨rfl, rfl⟩ | ⟨g, cap, rfl⟩
  · exact (AnyF.slices_SortFunc_none Try.sortSp none 0 (.func (.func 39) #[] #[]) w).mono fun e w' ⟨he, hw⟩ => ⟨he, [], List.Perm.refl _, List.Pairwise.nil, by rw [hw]; exact hR, by rw [hw]; exact RowKit.Below.refl _ _⟩
  · obtain ⟨_, hbg, hnc, hcm, cur, hh, hcs, ht⟩ := SpR_block hR
    have hglt : g < w.heap.size := (Array.getElem?_eq_some_iff.1 hh).1
    have hH : HoldsK encS 2 w g 0 l.toArray := by
      unfold HoldsK
      rw [flatK_eq]
      exact holdsF hh (by rw [flat_length]; exact ht)
    have hcon := AnyQ.slices_SortFunc Try.sortSp 2 Try.isAgg23 Try.sizeOf23 encS (fun _ => rfl) (fun x v hv => by simp [encS] at hv; rcases hv with rfl | rfl <;> rfl) cfS swoS 39 #[] g 0 cap l.toArray w eg (cmpLays39 g 0 l.toArray.size w) hH hglt (by simp; omega)
    change Calls Try.prog 38 #[.slice (some ⟨g, 0, none⟩) l.length cap, .func (.func 39) #[] #[]] w _ at hcon
    refine hcon.mono ?_
    rintro e w' ⟨he, d', n, os, hp, hs, hw⟩
    have hsz : d'.size = l.length := by simpa using hp.1
    have hperm : d'.toList.Perm l := by
      have := hp.2.2
      have e1 : d'.extract 0 l.toArray.size = d' := by rw [List.size_toArray, ← hsz]; simp
      have e2 : l.toArray.extract 0 l.toArray.size = l.toArray := by simp
      rw [e1, e2] at this
      simpa using this
    have hd : d'.toList.toArray = d' := by simp
    refine ⟨he, d'.toList, hperm, sorted_pair (d := l.toArray) (by simpa using hs) (by simpa using hsz), ?_, ?_⟩
    · have hll : d'.toList.length = l.length := hperm.length_eq
      have hw' : w' = grow (putRow id (Sort.ahead w n) g 0 (flat d'.toList).toArray) os := by
        rw [hw, ← flatK_eq, hd]; rfl
      have := SpR_of_block (w := w') (xs := d'.toList) (cap := cap) hbg (by rw [hw']; exact heapF _ hh) (by rw [hll]; exact hnc) hcm (by simp [putCells, hcs]) (by
        rw [← flat_length]
        exact takeF cur (flat d'.toList) (by rw [flat_length, hll]; omega))
      rw [hll] at this
      exact this
    · rw [hw]
      exact belowF _ hbg hglt

#print axioms Sort_any
end Go.Proofs.Ytioglhaofcmebaa
