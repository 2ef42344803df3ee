/- The stock's list: what it collects from the map, in whatever order, and what the library's sort makes of it: the items of an order, as they were added. -/
import Derived.Test.YtcaennbagdipkaaMeth
import Derived.Test.YtcaennbagdipkaaShelf
import Derived.Sort.OwnSorted
import Derived.Deep.QuietTactic
namespace Go.Proofs.Ytcaennbagdipkaa
open Go.RowKit Go.Maps Go.Proofs.YtcaennbagdipkaaW.PrintWords
open Go.Sort Go.Proofs
set_option linter.unusedSimpArgs false
set_option linter.unusedVariables false

/-! ### a slice of the call's own, sorted by the library: whatever its elements -/
section
variable {α : Type} [Inhabited α] {enc : α → Value}

theorem holdsE {w : World} {g : Nat} {cur : Array Value} {e : TypeId} {ss : List α} (hb : w.heap[g]? = some (.cells cur e (0, 0))) (ht : cur.toList.take ss.length = ss.map enc) : Holds enc w g 0 ss.toArray := by
  intro j hj
  have hj' : j < ss.length := by simpa using hj
  refine ⟨?_, by simp [World.frozen?, hb]⟩
  have h1 : (cur.toList.take ss.length)[j]? = (ss.map enc)[j]? := by rw [ht]
  rw [List.getElem?_take_of_lt hj'] at h1
  simp only [World.cell?, hb, Nat.zero_add]
  simp only [Option.isSome_none, Bool.false_eq_true, if_false]
  rw [← Array.getElem?_toList, h1]
  simp [hj']

theorem heapE {w : World} {g n : Nat} {os : Array Obj} {cur : Array Value} {e : TypeId} {fr : Nat × Nat} (d : Array α) (hb : w.heap[g]? = some (.cells cur e fr)) :
    (grow (putRow enc (Sort.ahead w n) g 0 d) os).heap[g]? = some (.cells (putCells enc 0 d cur) e fr) := by
  have hg : g < w.heap.size := (Array.getElem?_eq_some_iff.1 hb).1
  rw [heap_grow_old _ _ (by simpa using hg)]
  simp [putRow, mapBlock, Sort.ahead, Array.getElem?_modify, hb, onCells]

theorem grownE {w : World} {g off n : Nat} {os : Array Obj} (d : Array α) : w.grownBy (grow (putRow enc (Sort.ahead w n) g off d) os) (some g) := by
  refine ⟨rfl, rfl, rfl, by simp, fun k hk hne => ?_⟩
  rw [heap_grow_old _ _ (by simpa using hk)]
  have : g ≠ k := fun e => hne (by rw [e])
  simp [putRow, mapBlock, Sort.ahead, Array.getElem?_modify, this]

theorem takeE (cur : Array Value) (ts : List α) (h : ts.length ≤ cur.size) : (putCells enc 0 ts.toArray cur).toList.take ts.length = ts.map enc := by
  apply List.ext_getElem?
  intro j
  by_cases hj : j < ts.length
  · rw [List.getElem?_take_of_lt hj, Array.getElem?_toList]
    simp [putCells, hj, show j < cur.size by omega]
  · rw [List.getElem?_take_eq_none (by omega), List.getElem?_eq_none (by simp; omega)]

theorem ownE {w : World} {base g cap n : Nat} {e : TypeId} {os : Array Obj} {cur : Array Value} {ss ts : List α} (hl : ts.length = ss.length) (hbase : base ≤ g) (hb : w.heap[g]? = some (.cells cur e (0, 0)))
    (h1 : ss.length ≤ cap) (h2 : cap ≤ maxLen) (h3 : cur.size = cap * 1) :
    (grow (putRow enc (Sort.ahead w n) g 0 ts.toArray) os).ownsRow base e 1 (.slice (some ⟨g, 0, none⟩) ss.length cap) ss.length (ts.map enc) :=
  ⟨by simp [hl], .inr ⟨g, cap, _, rfl, hbase, heapE _ hb, h1, h2, by simp [putCells, h3], by rw [Nat.mul_one, ← hl]; exact takeE cur ts (by omega)⟩⟩
end

/-! ### the entries of L, and what has been collected of them -/
abbrev In (L : List Ent) := { e : Ent // e ∈ L }

def encI (L : List Ent) (x : In L) : Value := .string x.1.item
def cfI (L : List Ent) (x y : In L) : Int := Lib.compareInt x.1.n y.1.n

theorem ltI (L : List Ent) (x y : In L) : ltOf (cfI L) x y = decide (x.1.n < y.1.n) := by
  unfold ltOf cfI Lib.compareInt
  by_cases h1 : x.1.n < y.1.n
  · simp [h1]
  · by_cases h2 : y.1.n < x.1.n <;> simp [h1, h2]

theorem swoI (L : List Ent) : SWO (ltOf (cfI L)) where
  irrefl x := by rw [ltI]; simp
  trans x y z h1 h2 := by rw [ltI] at *; simp at *; omega
  ntrans x y z h1 h2 := by rw [ltI] at *; simp at *; omega

theorem rising_inj {L : List Ent} (h : L.Pairwise (fun a b => a.n < b.n)) {a b : Ent} (ha : a ∈ L) (hb : b ∈ L) (he : a.n = b.n) : a = b := by
  induction L with
  | nil => cases ha
  | cons x r ih =>
    obtain ⟨h1, h2⟩ := List.pairwise_cons.1 h
    rcases List.mem_cons.1 ha with ea | ha <;> rcases List.mem_cons.1 hb with eb | hb
    · rw [ea, eb]
    · rw [ea] at he; have := h1 b hb; omega
    · rw [eb] at he; have := h1 a ha; omega
    · exact ih h2 ha hb

theorem totI {L : List Ent} (h : L.Pairwise (fun a b => a.n < b.n)) (x y : In L) (h1 : ltOf (cfI L) x y = false) (h2 : ltOf (cfI L) y x = false) : x = y := by
  rw [ltI] at h1 h2
  simp at h1 h2
  exact Subtype.ext (rising_inj h x.2 y.2 (by omega))

/-- xs: those entries of the order that have come. -/
structure Coll (L : List Ent) (o : ByteArray) (left : Lit → Bool) (xs : List (In L)) : Prop where
  once : xs.Nodup
  iff : ∀ x : In L, x ∈ xs ↔ (x.1.order = o ∧ left (kOf x.1.item) = false)

theorem Coll.start {D : DataW Unit} {L : List Ent} (h : Rep D L) (o : ByteArray) : Coll L o (Maps.has D) [] where
  once := List.nodup_nil
  iff x := by
    have := has_true_of_atKey (fun z => h.at_ x.1 x.2 z)
    simp [this]

theorem sameKey_kOf (s t : ByteArray) : (kOf s).sameKey (kOf t) = decide (s = t) := by
  by_cases h : s = t
  · subst h
    rw [WideAt.sameKey_self (kOf_isKey s)]; simp
  · rw [sameKey_ne (fun e => h (kOf_inj e))]; simp [h]

theorem Coll.hit {L : List Ent} {o : ByteArray} {left : Lit → Bool} {xs : List (In L)} (h : Coll L o left xs) (hA : L.Pairwise (fun a b => a.item ≠ b.item)) (x : In L) (hl : left (kOf x.1.item) = true) (ho : x.1.order = o) :
    Coll L o (fun z => left z && !z.sameKey (kOf x.1.item)) (xs ++ [x]) where
  once := by
    refine List.nodup_append.2 ⟨h.once, by simp, fun a ha b hb => ?_⟩
    obtain rfl := List.mem_singleton.1 hb
    rintro rfl
    have := ((h.iff a).1 ha).2
    rw [hl] at this
    cases this
  iff y := by
    rw [List.mem_append, List.mem_singleton, h.iff, sameKey_kOf]
    by_cases hy : y.1.item = x.1.item
    · have : y = x := Subtype.ext (apart_eq hA y.2 x.2 hy)
      subst this
      simp [ho]
    · have : y ≠ x := fun e => hy (by rw [e])
      simp [hy, this]

theorem Coll.miss {L : List Ent} {o : ByteArray} {left : Lit → Bool} {xs : List (In L)} (h : Coll L o left xs) (hA : L.Pairwise (fun a b => a.item ≠ b.item)) (x : In L) (ho : x.1.order ≠ o) :
    Coll L o (fun z => left z && !z.sameKey (kOf x.1.item)) xs where
  once := h.once
  iff y := by
    rw [h.iff, sameKey_kOf]
    by_cases hy : y.1.item = x.1.item
    · have : y = x := Subtype.ext (apart_eq hA y.2 x.2 hy)
      subst this
      simp [ho]
    · simp [hy]

/-- The items of an order, as they were added. -/
def held (L : List Ent) (o : ByteArray) : List ByteArray := (L.filter fun e => decide (e.order = o)).map Ent.item

def heldI (L : List Ent) (o : ByteArray) : List (In L) := L.attach.filter fun e => decide (e.1.order = o)

theorem heldI_items (L : List Ent) (o : ByteArray) : (heldI L o).map (fun x => x.1.item) = held L o := by
  have h1 : (heldI L o).map Subtype.val = L.filter fun e => decide (e.order = o) := by
    unfold heldI
    have := List.filter_map (f := Subtype.val) (p := fun e : Ent => decide (e.order = o)) (l := L.attach)
    rw [List.attach_map_subtype_val] at this
    exact this.symm
  unfold held
  rw [← h1, List.map_map]
  rfl

theorem attach_rising {L : List Ent} (h : L.Pairwise (fun a b => a.n < b.n)) : L.attach.Pairwise (fun a b : In L => a.1.n < b.1.n) := by
  have : (L.attach.map Subtype.val).Pairwise (fun a b : Ent => a.n < b.n) := by rw [List.attach_map_subtype_val]; exact h
  exact (@List.pairwise_map (In L) Ent Subtype.val (fun a b : Ent => a.n < b.n) L.attach).1 this

/-- WHAT THE SORT MAKES OF THEM, once all have come. -/
theorem Coll.sorted {L : List Ent} {o : ByteArray} {left : Lit → Bool} {xs : List (In L)} (h : Coll L o left xs) (hR : L.Pairwise (fun a b => a.n < b.n)) (hl : ∀ k, left k = false) :
    (xs.mergeSort fun x y => !(ltOf (cfI L)) y x) = heldI L o := by
  have hr := (attach_rising hR).filter (fun e => decide (e.1.order = o))
  have hnd : (heldI L o).Nodup := hr.imp (fun {a b} hab e => by rw [e] at hab; exact absurd hab (Int.lt_irrefl _))
  have hperm : xs.Perm (heldI L o) := by
    refine (List.perm_ext_iff_of_nodup h.once hnd).2 (fun x => ?_)
    rw [h.iff, heldI, List.mem_filter]
    simp [hl]
  refine List.Perm.eq_of_pairwise (le := fun x y => (!(ltOf (cfI L)) y x) = true) (fun a b _ _ h1 h2 => ?_) (List.pairwise_mergeSort ?_ ?_ xs) (hr.imp (fun {a b} hab => ?_)) ((List.mergeSort_perm _ _).trans hperm)
  · simp only [Bool.not_eq_true'] at h1 h2
    exact totI hR a b h2 h1
  · intro a b c h1 h2
    simp only [ltI] at *
    simp at *
    omega
  · intro a b
    simp only [ltI]
    simp
    omega
  · rw [ltI]
    simp
    omega

/-! ### the closure -/
section
variable {w : World} {m : Nat} {L : List Ent} {c : Int} {o : ByteArray}

set_option maxHeartbeats 1000000 in
/-- 'cmp.Compare(s.items[a].n, s.items[b].n)' at two items of the stock. -/
theorem closure (B : Nat) (x y : In L) (hS : Stk w m L c) (hB : w.cell? ⟨B, 0, none⟩ = some (ptr m)) :
    Calls Try.prog 33 #[.string x.1.item, .string y.1.item, .pointer (some ⟨B, 0, none⟩)] w fun e w' => e = .returned (.int .i64 (cfI L x y)) ∧ ∃ q, w' = w.drewN q := by
  have hl1 := fun q => (hS.drewN q).look false (hS.good.key _ x.2) x.2 rfl
  have hl2 := fun q => (hS.drewN q).look false (hS.good.key _ y.2) y.2 rfl
  simp only [Bool.false_eq_true, if_false] at hl1 hl2
  have c0 := hS.cell0
  have hcon := fun W => Try.cmp_Compare_int x.1.n y.1.n W
  unfold cfI
  generalize Lib.compareInt x.1.n y.1.n = r at hcon ⊢
  generalize x.1.item = xi at *
  generalize y.1.item = yi at *
  generalize x.1.n = xn at *
  generalize y.1.n = yn at *
  generalize x.1.order = xo at *
  generalize y.1.order = yo at *
  clear hS
  have hf : ∀ (n : Int) (o : ByteArray) (W : World), (Instr.field 64 (.agg #[.int .i64 n, .string o]) 0).run Try.prog W = .ok (.int .i64 n) W := fun n o W => by kernel_rfl
  go_enter Try.func33, Try.ntmps33
  go_wp2
  go_quiet ((go_at_call 34; exact Calls.quiet_of_same (hcon _)))
  go_wp2
  go_ret
  exact ⟨rfl, _, rfl⟩

theorem sortWorld_stk {α : Type} [Inhabited α] (enc : α → Value) (g off n : Nat) (d : Array α) (os : Array Obj) (hS : Stk w m L c) (h1 : g ≠ m) (h2 : g ≠ m + 1) : Stk (sortWorld enc w g off n d os) m L c :=
  hS.kept ((grownE d).block _ (by have := hS.lt; omega) (fun e => h1 (by injection e with e; exact e.symm))) ((grownE d).block _ hS.lt (fun e => h2 (by injection e with e; exact e.symm)))

theorem cmpLays (B g : Nat) (size : Nat) [Inhabited (In L)] (hS : Stk w m L c) (hB : w.cell? ⟨B, 0, none⟩ = some (ptr m)) (hBl : B < w.heap.size) (h1 : g ≠ m) (h2 : g ≠ m + 1) (h3 : g ≠ B) :
    CmpLays1 Try.prog 33 #[.pointer (some ⟨B, 0, none⟩)] (encI L) (cfI L) g 0 size w := fun n os dk hs x y =>
  (closure B x y (sortWorld_stk (encI L) g 0 n dk os hS h1 h2) ((World.cell?_of_block (w := w) ((grownE dk).block B hBl (fun e => h3 (by injection e with e; exact e.symm)))).trans hB)).mono fun _ _ ⟨he, q, hq⟩ => ⟨he, q, #[], by rw [hq, grow_empty]⟩

theorem invK (key : Value) (kl : Lit) (h : keyOf Try.prog 9 key = some kl) : ∃ s : ByteArray, key = .string s := by
  cases key <;> simp [keyOf, Try.underlying9, mapKey] at h
  exact ⟨_, rfl⟩
theorem invK' {s : ByteArray} {kl : Lit} (h : keyOf Try.prog 9 (.string s) = some kl) : kl = kOf s := by
  simp [keyOf, Try.underlying9, mapKey] at h
  exact h.2.symm
def mkV (z : Int × ByteArray) : Value := .agg #[.int .i64 z.1, .string z.2]
theorem invV (v : Value) (y : DataW Unit × List MemPlace) (h : Rv v = some y) : ∃ z : Int × ByteArray, v = mkV z := by
  obtain ⟨n, s, rfl, _⟩ := Rv_inv h
  exact ⟨(n, s), rfl⟩

theorem info9 : (Try.prog.info? 9).map (fun i => (i.zero, i.size, i.bytes)) = some (some (.string ⟨#[]⟩), 1, 16) := by kernel_rfl

theorem held_of_sorted {xs : List (In L)} (h : (xs.mergeSort fun x y => !(ltOf (cfI L)) y x) = heldI L o) : (held L o).length = xs.length ∧ ((heldI L o).map (encI L)) = encs Value.string (held L o) ∧ (heldI L o).length = xs.length := by
  have h1 : (heldI L o).length = xs.length := by rw [← h, List.length_mergeSort]
  refine ⟨?_, ?_, h1⟩
  · rw [← heldI_items, List.length_map, h1]
  · rw [← heldI_items]
    unfold encs
    rw [List.map_map]
    rfl

/-- The entry that has come. -/
theorem come {D : DataW Unit} (hR : Rep D L) {x s : ByteArray} {n : Int} {kl : Lit} {y : DataW Unit × List MemPlace} (hkey : keyOf Try.prog 9 (.string x) = some kl) (hv : Rv (.agg #[.int .i64 n, .string s]) = some y) (hat : ∀ zd, D.atKey kl zd = y.1) :
    ∃ e : In L, kl = kOf e.1.item ∧ x = e.1.item ∧ s = e.1.order := by
  obtain ⟨e, he, hke⟩ := hR.has kl (has_true_of_atKey hat)
  have h1 := invK' hkey
  have h2 := hat .nil
  rw [hke, hR.at_ e he] at h2
  rw [Rv_mk] at hv
  injection hv with hv
  rw [← hv] at h2
  obtain ⟨_, rfl⟩ := entD_inj h2
  exact ⟨⟨e, he⟩, hke, kOf_inj (h1.symm.trans hke), rfl⟩

set_option maxRecDepth 100000 in
set_option maxHeartbeats 4000000 in
theorem list_any (w : World) (m : Nat) (L : List Ent) (c : Int) (o : ByteArray) (hS : Stk w m L c) (hL : L.length ≤ 1000) :
    Calls Try.prog 31 #[ptr m, .string o] w fun e w' => ∃ v, e = .returned v ∧ Kd.R Kd.string 9 w' w.heap.size (fun _ => True) v (held L o) ∧ Below w.heap.size w w' := by
  obtain ⟨i0, hi, hz0, hz1, hz2⟩ := info_parts info9
  obtain ⟨D, hown0, hR⟩ := hS.map
  have hB0 : ((w.alloc (.cells #[ptr m] 25)).cell? ⟨w.heap.size, 0, none⟩) = some (ptr m) := by simp
  have hS1 := hS.alloc (.cells #[ptr m] 25)
  have hown := hown0.alloc (.cells #[ptr m] 25)
  have c0 := hS1.cell0
  have hml := hS.lt
  have eg := enters_of Try.func33 (by kernel_rfl) rfl
  have HR := Lib.hid hR
  have HS := Lib.hid hS
  clear hS hown0 hS1 hR
  go_enter Try.func31, Try.ntmps31
  go_wp2_with (first | (at_range; refine wpList_range_own _ rfl _ 53 rfl 9 64 law Try.underlying53 Rv m L.length D rfl hown ?_; intro w0 hrg0 hg0 hs0) | go_in)
  go_frame
  have e1 : (w.alloc (.cells #[ptr m] 25)).heap.size = w.heap.size + 1 := by simp
  simp only [e1] at hrg0 hs0 ⊢
  have hB1 : w0.cell? ⟨w.heap.size, 0, none⟩ = some (ptr m) := hg0.cell hB0 (by simp)
  have hnx0 : Below w.heap.size w w0 := ((Below.refl _ _).alloc (Nat.le_refl _) _).grown hg0 (by simp) (fun k hk => by cases hk)
  clear hB0 hg0 hs0 e1 hown c0
  go_loopw [5] (fun v wr => ∃ (left : Lit → Bool) (cnt : Nat) (xs : List (In L)), wr.ranges Try.prog 9 Rv m (w.heap.size + 1) L.length D left cnt ∧ wr.ownsRow (w.heap.size + 2) 9 1 v xs.length (xs.map (encI L)) ∧ Hid (Coll L o left xs) ∧ xs.length + cnt ≤ L.length ∧ wr.cell? ⟨w.heap.size, 0, none⟩ = some (ptr m) ∧ Below w.heap.size w wr) (fun _ wr => wr.rangeLeft m (w.heap.size + 1))
  case atStart => exact ⟨_, _, [], hrg0, World.ownsRow_nil _ _ _ _, Coll.start HR.out o, by rw [HR.out.size]; simp, hB1, hnx0⟩
  case round =>
    obtain ⟨left, cnt, xs, hrg, hrow, HC, hcs, hB, hnx⟩ := hrel
    go_wp2_with (first
      | (at_next; refine wpList_next_ranges _ rfl _ rfl 9 law Rv Value.string mkV invK invV m (w.heap.size + 1) L.length _ _ _ rfl hrg ?_ ?_)
      | go_in)
    · intro hc0 hl0
      have hsrt := Lib.hid (HC.out.sorted HS.out.good.rising hl0)
      have hSr : Stk wr m L c := HS.out.below hnx
      have HSr := Lib.hid hSr
      clear hSr hl0 HC hc0
      by_cases hx : xs = []
      · subst hx
        have hsh : ∃ A cap, u5 = .slice A 0 cap ∧ wr.ownsRow (w.heap.size + 2) 9 1 (.slice A 0 cap) 0 [] := by
          have h := hrow
          rcases hrow.2 with ⟨hn, _⟩ | ⟨g, cap, cur, hn, _⟩
          · exact ⟨none, 0, hn, by rw [hn] at h; simpa using h⟩
          · exact ⟨_, cap, hn, by rw [hn] at h; simpa using h⟩
        obtain ⟨A, cap, hv, hown⟩ := hsh
        rw [hv]
        have HV := Lib.hid hv
        clear hv hrow
        have hcon := fun fv W => Try.slices_SortFunc_none (α := Nat) A cap fv W
        go_wp2_with (go_at_call 32; refine (hcon _ _).mono ?_; rintro e w' ⟨rfl, rfl⟩)
        go_ret
        have hh := held_of_sorted hsrt.out
        have h0 : held L o = [] := List.eq_nil_of_length_eq_zero (by simpa using hh.1)
        rw [h0]
        exact ⟨_, rfl, Kd.R_of_own (by simpa [encs] using (own_weaken hown (by omega : w.heap.size ≤ w.heap.size + 2))) (fun _ _ => trivial), hnx⟩
      · obtain ⟨g, cap, cur, hv, hbase, hb, h1, h2, h3, h4⟩ : ∃ g cap cur, u5 = .slice (some ⟨g, 0, none⟩) xs.length cap ∧ w.heap.size + 2 ≤ g ∧ wr.heap[g]? = some (.cells cur 9 (0, 0)) ∧ xs.length ≤ cap ∧ cap ≤ maxLen ∧ cur.size = cap * 1 ∧ cur.toList.take (xs.length * 1) = xs.map (encI L) := by
          rcases hrow.2 with ⟨hn, h0⟩ | h
          · exact absurd (List.eq_nil_of_length_eq_zero h0) hx
          · exact h
        haveI : Inhabited (In L) := ⟨xs.head hx⟩
        have hgl : g < wr.heap.size := (Array.getElem?_eq_some_iff.1 hb).1
        have hcon := Try.slices_SortFunc_total (encI L) (fun _ => rfl) (cfI L) (swoI L) 33 #[.pointer (some ⟨w.heap.size, 0, none⟩)] g 0 cap xs.toArray wr eg (cmpLays w.heap.size g _ HSr.out hB (by have := hnx.size; have := hrg.lt; omega) (by omega) (by omega) (by omega)) (holdsE hb (by simpa using h4)) hgl (by simp; omega) (totI HS.out.good.rising)
        rw [List.size_toArray, hsrt.out] at hcon
        rw [hv]
        have HV := Lib.hid hv
        clear hv hrow hB hgl h4
        go_wp2_with (go_at_call 32; refine hcon.mono ?_; rintro e w' ⟨rfl, nn, os, rfl⟩)
        go_ret
        have hh := held_of_sorted hsrt.out
        refine ⟨_, rfl, Kd.R_of_own ?_ (fun _ _ => trivial), hnx.grown (grownE _) hnx.size (fun j hj => by cases hj; omega)⟩
        have := ownE (enc := encI L) (n := nn) (os := os) hh.2.2 hbase hb h1 h2 h3
        rw [hh.2.1] at this
        rw [hh.1]
        exact own_weaken this (by omega)
    · intro x n s kl yd yp w2 cnt2 hkey hlk hv hat hrg2 hlt hg2 hs2 hen
      simp only [mkV] at hen hv ⊢
      obtain ⟨e, hkl, hxe, hse⟩ := come HR.out hkey hv hat
      have HE := Lib.hid (show kl = kOf e.1.item ∧ x = e.1.item ∧ s = e.1.order from ⟨hkl, hxe, hse⟩)
      have HLK := Lib.hid hlk
      have hg2s := hg2.size
      have hnxs := hnx.size
      have hrl := hrg.lt
      have hrow2 := hrow.kept hg2 (Or.inr (fun e1 => by have := (hrow.lt _ e1).1; omega))
      have hrow3 := (hrow2.alloc (.cells #[.int .i64 n, .string s] 64)).alloc (.cells #[.string x] 9)
      have hB2 : w2.cell? ⟨w.heap.size, 0, none⟩ = some (ptr m) := hg2.cell hB (by simp)
      have hnx2 : Below w.heap.size w w2 := hnx.grown hg2 hnxs (fun j hj => by cases hj; omega)
      have HB2 := Lib.hid hB2
      clear hkl hxe hse hkey hv hat hlk hs2 hB2 hB
      by_cases ho : s = o
      · have ht : (s.toList == o.toList) = true := by rw [str_eq]; exact decide_eq_true ho
        have HO := Lib.hid ho
        clear ho
        go_wp2_with (first
          | (at_builtin; refine wpList_append_own _ rfl _ _ 31 rfl (w.heap.size + 2) 9 i0 (.string ⟨#[]⟩) 1 16 Try.underlying31 hi hz0 hz1 hz2 rfl (by decide) _ _ _ rfl hrow3 ⟨w2.heap.size + 1, 0, none⟩ 1 1 [.string x] rfl rfl ?c1 ?c2 ?c3 ?c4 ?c5 ?_)
          | go_in)
        case c1 =>
          have := cell_one_new (w2.alloc (.cells #[.int .i64 n, .string s] 64)) (.string x) 9
          simpa using this
        case c2 => intro u hu; simp at hu; subst hu; rfl
        case c3 => unfold maxLen; omega
        case c4 => omega
        case c5 => simp; omega
        intro v' w3 hown' hg3 _
        have hg3s : w2.heap.size + 2 ≤ w3.heap.size := by have := hg3.size; simpa using this
        have hlow : ∀ k, u5.ownBlock = some k → w.heap.size + 2 ≤ k := fun k hk => (hrow2.lt k hk).1
        have R1 := Lib.hid (((hrg2.alloc (.cells #[.int .i64 n, .string s] 64)).alloc (.cells #[.string x] 9)).kept hg3 (fun e1 => by have := hlow _ e1.symm; omega) (fun e1 => by have := hlow _ e1.symm; omega))
        have R2 := Lib.hid hown'
        have R3 := Lib.hid (((hnx2.alloc (by omega) (.cells #[.int .i64 n, .string s] 64)).alloc (by simp; omega) (.cells #[.string x] 9)).grown hg3 (by simp; omega) (fun j hj => by have := hlow j hj; omega))
        have R4 := Lib.hid (hg3.cell (((World.cell?_alloc_lt _ _ _ (by show w.heap.size < (w2.alloc _).heap.size; simp; omega)).trans (World.cell?_alloc_lt _ _ _ (by show w.heap.size < w2.heap.size; omega))).trans HB2.out) (fun e1 => by have := hlow _ e1.symm; simp at this; omega))
        clear hown' hg3 hrow3 hrow2 hlow
        go_wp2
        go_roundw
        case rel =>
          obtain ⟨hkl, hxe, hse⟩ := HE.out
          refine ⟨_, cnt2, xs ++ [e], R1.out, ?_, ?_, by simp; omega, R4.out, R3.out⟩
          · have := R2.out
            rw [hxe] at this
            simpa [encI] using this
          · rw [hkl]; exact HC.out.hit HS.out.good.apart e (by have := HLK.out; rwa [hkl] at this) (by rw [← hse]; exact HO.out)
        case measure => rw [R1.out.left_eq, hrg.left_eq]; exact hlt
      · have ht : (s.toList == o.toList) = false := by rw [str_eq]; exact decide_eq_false ho
        have HO := Lib.hid ho
        clear ho
        go_wp2
        go_roundw
        case rel => 
          obtain ⟨hkl, hxe, hse⟩ := HE.out
          refine ⟨_, cnt2, xs, hrg2.alloc _, hrow2.alloc _, ?_, by omega, ?_, hnx2.alloc (by omega) _⟩
          · rw [hkl]; exact HC.out.miss HS.out.good.apart e (by rw [← hse]; exact HO.out)
          · exact (World.cell?_alloc_lt _ _ _ (by show w.heap.size < w2.heap.size; omega)).trans HB2.out
        case measure => rw [(hrg2.alloc _).left_eq, hrg.left_eq]; exact hlt
end
end Go.Proofs.Ytcaennbagdipkaa
