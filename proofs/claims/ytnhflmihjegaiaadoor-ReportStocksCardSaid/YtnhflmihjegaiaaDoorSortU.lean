/- slices.SortFunc at report's tallies: a sorted permutation of the row. -/
import Derived.Test.YtnhflmihjegaiaaDoorSortT
import Derived.Shelf.SlSortCmp.WholeK
import Derived.Shelf.SlSortCmp.NoneTotal
import Derived.Sort.Statements
namespace Go.Proofs.YtnhflmihjegaiaaDoor
open Go.RowKit Go.Sort Go.Shelf Go.Lib Go.Proofs.YtnhflmihjegaiaaDoorW.PrintWords P
set_option linter.unusedSimpArgs false
set_option linter.unusedVariables false

/-- A row of tallies that the call made. -/
def TR (w : World) (base : Nat) (v : Value) (xs : List S42) : Prop := Kd.R k42 129 w base (fun _ => True) v xs
def flat : List S42 → List Value
  | [] => []
  | x :: r => .int .i64 x.f0 :: .int .i64 x.f1 :: .int .i64 x.f2 :: .int .i64 x.f3 :: .int .i64 x.f4 :: flat r

theorem flat_length : ∀ xs : List S42, (flat xs).length = xs.length * 5
  | [] => rfl
  | x :: r => by simp only [flat, List.length_cons, flat_length r]; omega

theorem flat_seg : ∀ (xs : List S42) (j : Nat) (p : S42), xs[j]? = some p → ((flat xs).drop (j * 5)).take 5 = [.int .i64 p.f0, .int .i64 p.f1, .int .i64 p.f2, .int .i64 p.f3, .int .i64 p.f4]
  | [], j, p, h => by simp at h
  | x :: r, 0, p, h => by simp at h; subst h; simp [flat]
  | x :: r, j + 1, p, h => by
    have := flat_seg r j p (by simpa using h)
    rw [show (j + 1) * 5 = j * 5 + 5 by omega]
    simpa [flat] using this

theorem flat_of_reps {R : S42 → List Value → Prop} (hR : ∀ p c, R p c → c = [.int .i64 p.f0, .int .i64 p.f1, .int .i64 p.f2, .int .i64 p.f3, .int .i64 p.f4]) : ∀ (xs : List S42) (cs : List Value), Reps R 5 xs cs → cs = flat xs
  | [], cs, h => by
    have := h.1
    simp at this
    rw [this]; rfl
  | x :: r, cs, h => by
    have h1 := hR _ _ (h.2 0 x rfl)
    have hl := h.1
    simp only [List.length_cons] at hl
    simp only [Nat.zero_mul, List.drop_zero] at h1
    have h2 : Reps R 5 r (cs.drop 5) := ⟨by rw [List.length_drop, hl]; omega, fun j p hj => by
      have := h.2 (j + 1) p (by simpa using hj)
      rw [show (j + 1) * 5 = 5 + j * 5 by omega, ← List.drop_drop] at this
      exact this⟩
    have h3 := flat_of_reps hR r _ h2
    have : cs = cs.take 5 ++ cs.drop 5 := (List.take_append_drop 5 cs).symm
    rw [this, h1, h3]
    rfl

theorem TR_own {w : World} {base : Nat} {v : Value} {xs : List S42} (h : TR w base v xs) : w.ownsRow base 129 5 v xs.length (flat xs) := by
  obtain ⟨_, inner, ho, hr⟩ := h
  have := flat_of_reps (fun p c h => k42_openM h) xs inner hr
  rw [← this]
  exact ho
theorem own_TR {w : World} {base : Nat} {v : Value} {xs : List S42} (h : w.ownsRow base 129 5 v xs.length (flat xs)) : TR w base v xs :=
  ⟨fun _ _ => trivial, flat xs, h, flat_length xs, fun j p hj => by
    have h2 := flat_seg xs j p hj
    have h3 : ((flat xs).drop (j * k42.sz)).take k42.sz = [.int .i64 p.f0, .int .i64 p.f1, .int .i64 p.f2, .int .i64 p.f3, .int .i64 p.f4] := h2
    rw [h3]
    exact k42_mkM _ _ _ p⟩

/-- What a row of spans is, when it is not nil. -/
theorem TR_block {w : World} {base g n cap : Nat} {xs : List S42} (h : TR w base (.slice (some ⟨g, 0, none⟩) n cap) xs) :
    n = xs.length ∧ base ≤ g ∧ n ≤ cap ∧ cap ≤ maxLen ∧ ∃ cur, w.heap[g]? = some (.cells cur 129 (0, 0)) ∧ cur.size = cap * 5 ∧ cur.toList.take (n * 5) = flat xs := by
  obtain ⟨_, h2⟩ := TR_own h
  rcases h2 with ⟨h3, _⟩ | ⟨g', cap', cur, hv, hb, hh, hnc, hcm, hcs, ht⟩
  · cases h3
  · injection hv with ha hn hc
    injection ha with ha
    injection ha with hg
    subst hg hc
    exact ⟨hn, hb, by omega, hcm, cur, hh, hcs, by rw [hn]; exact ht⟩
theorem TR_of_block {w : World} {base g cap : Nat} {xs : List S42} {cur : Array Value} (hb : base ≤ g) (hh : w.heap[g]? = some (.cells cur 129 (0, 0))) (h1 : xs.length ≤ cap) (h2 : cap ≤ maxLen) (h3 : cur.size = cap * 5) (ht : cur.toList.take (xs.length * 5) = flat xs) :
    TR w base (.slice (some ⟨g, 0, none⟩) xs.length cap) xs := own_TR ⟨flat_length xs, .inr ⟨g, cap, cur, rfl, hb, hh, h1, h2, h3, ht⟩⟩

theorem TR_shape {w : World} {base : Nat} {v : Value} {xs : List S42} (h : TR w base v xs) : (v = .slice none 0 0 ∧ xs = []) ∨ ∃ g cap, v = .slice (some ⟨g, 0, none⟩) xs.length cap := by
  obtain ⟨_, h2⟩ := TR_own h
  rcases h2 with ⟨h3, h4⟩ | ⟨g, cap, cur, hv, _⟩
  · exact .inl ⟨h3, List.length_eq_zero_iff.1 h4⟩
  · exact .inr ⟨g, cap, hv⟩

theorem flat_get : ∀ (l : List S42) (t : Nat), t < l.length * 5 → (flat l)[t]! = (encT (l[t / 5]!))[t % 5]!
  | [], t, h => by simp at h
  | x :: r, 0, h => by simp [flat, encT]
  | x :: r, 1, h => by simp [flat, encT]
  | x :: r, 2, h => by simp [flat, encT]
  | x :: r, 3, h => by simp [flat, encT]
  | x :: r, 4, h => by simp [flat, encT]
  | x :: r, t + 5, h => by
    have := flat_get r t (by simp at h; omega)
    simp only [flat, List.getElem!_cons_succ]
    rw [this, show (t + 5) / 5 = t / 5 + 1 by omega, show (t + 5) % 5 = t % 5 by omega]
    simp

theorem flatK_eq (l : List S42) : (flatK encT 5 l.toArray) = (flat l).toArray := by
  refine ext_get! (by simp [flat_length]) fun t ht => ?_
  have ht' : t < l.length * 5 := by simpa using ht
  rw [get_flatK _ _ _ t (by simpa using ht')]
  have e1 : l.toArray[t / 5]! = l[t / 5]! := by simp
  have e2 : (flat l).toArray[t]! = (flat l)[t]! := by simp
  rw [e1, e2, flat_get l t ht']

theorem holdsF {w : World} {g : Nat} {cur : Array Value} {e : TypeId} {ss : List Value} (hb : w.heap[g]? = some (.cells cur e (0, 0))) (ht : cur.toList.take ss.length = ss) : Holds id w g 0 ss.toArray := by
  intro j hj
  have hj' : j < ss.length := by simpa using hj
  refine ⟨?_, by simp [World.frozen?, hb]⟩
  have h1 : (cur.toList.take ss.length)[j]? = ss[j]? := by rw [ht]
  rw [List.getElem?_take_of_lt hj'] at h1
  simp only [World.cell?, hb, Nat.zero_add]
  simp only [Option.isSome_none, Bool.false_eq_true, if_false]
  rw [← Array.getElem?_toList, h1]
  simp [hj']

theorem heapF {w : World} {g n : Nat} {os : Array Obj} {cur : Array Value} {e : TypeId} {fr : Nat × Nat} (d : Array Value) (hb : w.heap[g]? = some (.cells cur e fr)) :
    (grow (putRow id (Sort.ahead w n) g 0 d) os).heap[g]? = some (.cells (putCells id 0 d cur) e fr) := by
  have hg : g < w.heap.size := (Array.getElem?_eq_some_iff.1 hb).1
  rw [heap_grow_old _ _ (by simpa using hg)]
  simp [putRow, mapBlock, Sort.ahead, Array.getElem?_modify, hb, onCells]

theorem belowF {w : World} {g n base : Nat} {os : Array Obj} (d : Array Value) (hbase : base ≤ g) (hg : g < w.heap.size) : RowKit.Below base w (grow (putRow id (Sort.ahead w n) g 0 d) os) := by
  refine ⟨rfl, rfl, rfl, by simp, fun k hk => ?_⟩
  by_cases hlt : k < w.heap.size
  · rw [heap_grow_old _ _ (by simpa using hlt)]
    have : g ≠ k := by omega
    simp [putRow, mapBlock, Sort.ahead, Array.getElem?_modify, this]
  · omega

theorem takeF (cur : Array Value) (ts : List Value) (h : ts.length ≤ cur.size) : (putCells id 0 ts.toArray cur).toList.take ts.length = ts := by
  apply List.ext_getElem?
  intro j
  by_cases hj : j < ts.length
  · rw [List.getElem?_take_of_lt hj, Array.getElem?_toList]
    simp [putCells, hj, show j < cur.size by omega]
  · rw [List.getElem?_take_eq_none (by omega), List.getElem?_eq_none (by omega)]

theorem sorted_pair {d d' : Array S42} (h : SortedIn (ltOf cfT) 0 d.size d') (hs : d'.size = d.size) : d'.toList.Pairwise (fun a b => ¬ ltT b a) := by
  rw [List.pairwise_iff_getElem]
  intro i j hi hj hij
  have hi' : i < d'.size := by simpa using hi
  have hj' : j < d'.size := by simpa using hj
  have := h i j (Nat.zero_le _) hij (by omega)
  rw [getElem!_pos d' i hi', getElem!_pos d' j hj'] at this
  simp only [Array.getElem_toList]
  intro hc
  rw [(ltT_iff _ _).2 hc] at this
  cases this

set_option maxHeartbeats 1000000 in
theorem Sort_any (w : World) (base : Nat) (v : Value) (l : List S42) (hR : TR w base v l) (hl : l.length ≤ 1000000) :
    Calls Tryd.prog 29 #[v, .func (.func 30) #[] #[]] w fun e w' => e = .returned (.tuple #[]) ∧ ∃ d : List S42, d.Perm l ∧ d.Pairwise (fun a b => ¬ ltT b a) ∧ TR w' base v d ∧ RowKit.Below base w w' := by
  have eg : ∀ args w, (callFunc 30 args).run Tryd.prog w = .ok (.enter 30 args) w := enters_of Tryd.func30 (by kernel_rfl) rfl
  rcases TR_shape hR with ⟨rfl, rfl⟩ | ⟨g, cap, rfl⟩
  · exact (AnyF.slices_SortFunc_none Tryd.sortT none 0 (.func (.func 30) #[] #[]) w).mono fun e w' ⟨he, hw⟩ => ⟨he, [], List.Perm.refl _, List.Pairwise.nil, by rw [hw]; exact hR, by rw [hw]; exact RowKit.Below.refl _ _⟩
  · obtain ⟨_, hbg, hnc, hcm, cur, hh, hcs, ht⟩ := TR_block hR
    have hglt : g < w.heap.size := (Array.getElem?_eq_some_iff.1 hh).1
    have hH : HoldsK encT 5 w g 0 l.toArray := by
      unfold HoldsK
      rw [flatK_eq]
      exact holdsF hh (by rw [flat_length]; exact ht)
    have hcon := AnyQ.slices_SortFunc Tryd.sortT 5 Tryd.isAgg129 Tryd.sizeOf129 encT (fun _ => rfl) (fun x v hv => by simp [encT] at hv; rcases hv with rfl | rfl | rfl | rfl | rfl <;> rfl) cfT swoT 30 #[] g 0 cap l.toArray w eg (cmpLays30 g 0 l.toArray.size w) hH hglt (by simp; omega)
    change Calls Tryd.prog 29 #[.slice (some ⟨g, 0, none⟩) l.length cap, .func (.func 30) #[] #[]] w _ at hcon
    refine hcon.mono ?_
    rintro e w' ⟨he, d', n, os, hp, hs, hw⟩
    have hsz : d'.size = l.length := by simpa using hp.1
    have hperm : d'.toList.Perm l := by
      have := hp.2.2
      have e1 : d'.extract 0 l.toArray.size = d' := by rw [List.size_toArray, ← hsz]; simp
      have e2 : l.toArray.extract 0 l.toArray.size = l.toArray := by simp
      rw [e1, e2] at this
      simpa using this
    have hd : d'.toList.toArray = d' := by simp
    refine ⟨he, d'.toList, hperm, sorted_pair (d := l.toArray) (by simpa using hs) (by simpa using hsz), ?_, ?_⟩
    · have hll : d'.toList.length = l.length := hperm.length_eq
      have hw' : w' = grow (putRow id (Sort.ahead w n) g 0 (flat d'.toList).toArray) os := by
        rw [hw, ← flatK_eq, hd]; rfl
      have := TR_of_block (w := w') (xs := d'.toList) (cap := cap) hbg (by rw [hw']; exact heapF _ hh) (by rw [hll]; exact hnc) hcm (by simp [putCells, hcs]) (by
        rw [← flat_length]
        exact takeF cur (flat d'.toList) (by rw [flat_length, hll]; omega))
      rw [hll] at this
      exact this
    · rw [hw]
      exact belowF _ hbg hglt


#print axioms Sort_any
end Go.Proofs.YtnhflmihjegaiaaDoor
