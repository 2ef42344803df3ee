/- The stock's methods New, Of, Add, Reserve: what a call of each does to the stock's reading. -/
import Derived.Test.YtcaennbagdipkaaStk
import Derived.Test.YtcaennbagdipkaaChecked
import Derived.WalkKit
import Derived.WalkSpells
import Derived.KernelRfl
import Derived.Lib.Hide
import Derived.BigQuiet
namespace Go.Proofs.Ytcaennbagdipkaa
open Go.RowKit Go.Maps Go.Proofs.YtcaennbagdipkaaW.PrintWords
set_option linter.unusedSimpArgs false
set_option linter.unusedVariables false

abbrev ptr (m : Nat) : Value := .pointer (some ⟨m + 1, 0, none⟩)

theorem SNew (w : World) : Calls Try.prog 11 #[] w fun e w' => e = .returned (ptr w.heap.size) ∧ (w.alloc (.map #[] 0)).alloc (.cells #[.map (some w.heap.size), .int .i64 0] 55) = w' := by
  have hmm := @run_makeMap Try.prog
  go_enter Try.func11, Try.ntmps11
  go_wp2
  go_ret
  exact ⟨rfl, rfl⟩

theorem Stk.made (w : World) : Stk ((w.alloc (.map #[] 0)).alloc (.cells #[.map (some w.heap.size), .int .i64 0] 55)) w.heap.size [] 0 where
  row := by
    have := heap_alloc_new (w.alloc (.map #[] 0)) (.cells #[.map (some w.heap.size), .int .i64 0] 55)
    rwa [show (w.alloc (.map #[] 0)).heap.size = w.heap.size + 1 by simp] at this
  map := ⟨.map [], (World.ownsMap_made w Try.prog 9 Rv).alloc _, ⟨(fun e h => by cases h), (fun k h => by simp [Maps.has] at h), rfl⟩⟩
  good := Good.nil

section
variable {w : World} {m : Nat} {L : List Ent} {c : Int}

theorem Stk.cell0 (h : Stk w m L c) : w.cell? ⟨m + 1, 0, none⟩ = some (.map (some m)) := (cell_of_row w (m + 1) 0 _ _ _ h.row).trans rfl
theorem Stk.cell1 (h : Stk w m L c) : w.cell? ⟨m + 1, 1, none⟩ = some (.int .i64 c) := (cell_of_row w (m + 1) 1 _ _ _ h.row).trans rfl
theorem Stk.free1 (h : Stk w m L c) : w.frozen? ⟨m + 1, 1, none⟩ = false := by simp [World.frozen?, h.row]
theorem Stk.alloc (h : Stk w m L c) (o : Obj) : Stk (w.alloc o) m L c := h.below ((Below.refl _ _).alloc (Nat.le_refl _) o)
theorem Stk.drew (h : Stk w m L c) : Stk w.drew m L c := h.kept rfl rfl
theorem Stk.drewN (h : Stk w m L c) (n : Nat) : Stk (w.drewN n) m L c := h.kept rfl rfl

theorem Stk.look (h : Stk w m L c) (k : Bool) {it : ByteArray} (hk : it.size ≤ maxLen) {e : Ent} (he : e ∈ L) (hi : e.item = it) :
    (Instr.lookup 53 (.map (some m)) (.string it) k).run Try.prog w = .ok (if k then .tuple #[.agg #[.int .i64 e.n, .string e.order], .bool true] else .agg #[.int .i64 e.n, .string e.order]) w := by
  obtain ⟨D, ⟨es0, clock, hb, F, hs, rfl⟩, hR⟩ := h.map
  rcases Maps.fit_look k law Try.underlying53 (zero64 w) hb F (hkey hk) with ⟨_, _, hat⟩ | ⟨e0, y, _, _, hrun, hRv, hat, _⟩
  · have h1 := hat .nil
    rw [← hi, hR.at_ e he] at h1
    simp [entD] at h1
  · have h1 := hat .nil
    rw [← hi, hR.at_ e he] at h1
    obtain ⟨n, s, hv, rfl⟩ := Rv_inv hRv
    obtain ⟨rfl, rfl⟩ := entD_inj h1
    rw [hrun, hv]

theorem Stk.look_no (h : Stk w m L c) (k : Bool) {it : ByteArray} (hk : it.size ≤ maxLen) (hn : ∀ e ∈ L, e.item ≠ it) :
    (Instr.lookup 53 (.map (some m)) (.string it) k).run Try.prog w = .ok (if k then .tuple #[.agg #[.int .i64 0, .string es], .bool false] else .agg #[.int .i64 0, .string es]) w := by
  obtain ⟨D, ⟨es0, clock, hb, F, hs, rfl⟩, hR⟩ := h.map
  rcases Maps.fit_look k law Try.underlying53 (zero64 w) hb F (hkey hk) with ⟨hrun, _, _⟩ | ⟨e0, y, _, _, hrun, hRv, hat, _⟩
  · exact hrun
  · have := has_true_of_atKey hat
    obtain ⟨e, he, hke⟩ := hR.has _ this
    exact absurd (kOf_inj hke).symm (hn e he)

theorem Stk.len (h : Stk w m L c) (ty : TypeId) : (Builtin.len_ #[53] ty #[.map (some m)]).run Try.prog w = .ok (.int .i64 (L.length : Nat)) w := by
  obtain ⟨D, hown, hR⟩ := h.map
  have := hown.len Try.underlying53 ty
  rw [hR.size] at this
  exact this

/-- A store that leaves the struct alone: what the map then reads as. -/
theorem Stk.store (h : Stk w m L c) {it : ByteArray} (hk : it.size ≤ maxLen) (n : Int) (o : ByteArray) (hL : L.length < maxLen) :
    ∃ w', (Instr.mapUpdate 53 (.map (some m)) (.string it) (.agg #[.int .i64 n, .string o])).run Try.prog w = .ok () w' ∧ Turn m w w' ∧ w'.heap.size = w.heap.size ∧ w'.heap[m + 1]? = w.heap[m + 1]? ∧
      ∀ (L' : List Ent) (c' : Int), (∀ D, IsMap D → Tidy D → Rep D L → Rep (D.put (kOf it) (entD n o)) L') → Good L' c → Stk w' m L' c := by
  obtain ⟨D, hown, hR⟩ := h.map
  have hT := hown.tidy law
  obtain ⟨w', hrun, hown', hturn⟩ := hown.store law Try.underlying53 hL (hkey hk) (Rv_mk n o)
  have hgr := hturn.grown
  have hrow : w'.heap[m + 1]? = w.heap[m + 1]? := hgr.block _ h.lt (by simp)
  refine ⟨w', hrun, ⟨hgr.os, hgr.tape, hgr.output, hgr.size, fun k hk h1 _ => hgr.block k hk (by simpa using h1)⟩, ?_, hrow, fun L' _ hL' hG => ⟨hrow.trans h.row, ⟨_, ?_, hL' D hT.isMap hT hR⟩, hG⟩⟩
  · obtain ⟨_, _, _, _, _, rfl⟩ := hturn
    simp [ChangeMaps.setBlock]
  · have := owns_tight hown'
    rwa [(hL' D hT.isMap hT hR).size] at this

theorem Good.mono {c' : Int} (h : Good L c) (hc : c ≤ c') : Good L c' := ⟨h.rising, h.apart, fun e he => Int.le_trans (h.top e he) hc, h.key⟩

/-- The count raised. -/
theorem Stk.bump (h : Stk w m L c) {c' : Int} (hc : c ≤ c') : Stk (w.setCell ⟨m + 1, 1, none⟩ (.int .i64 c')) m L c' where
  row := by
    simp only [World.setCell, Array.getElem?_modify, h.row]
    simp
  map := by
    obtain ⟨D, hown, hR⟩ := h.map
    exact ⟨D, hown.setCell (by simp) _, hR⟩
  good := h.good.mono hc

theorem Turn.setCell {a w : World} (h : Turn m a w) (i : Nat) (u : Value) : Turn m a (w.setCell ⟨m + 1, i, none⟩ u) :=
  h.trans ⟨rfl, rfl, rfl, by simp [World.setCell], fun k _ _ h2 => Below.heap_setCell w _ u k h2⟩

theorem Turn.drew {a w : World} (h : Turn m a w) : Turn m a w.drew := ⟨h.os, h.tape, h.output, h.size, h.block⟩

/-- A deletion. -/
theorem Stk.drop (h : Stk w m L c) {e : Ent} (he : e ∈ L) (ty : TypeId) :
    ∃ w', (Builtin.delete_ #[53, 9] ty #[.map (some m), .string e.item]).run Try.prog w = .ok (.tuple #[]) w' ∧ Turn m w w' ∧ w'.heap.size = w.heap.size ∧ Stk w' m (delL L e.item) c := by
  obtain ⟨D, hown, hR⟩ := h.map
  have hT := hown.tidy law
  obtain ⟨w', hrun, hown', hturn⟩ := hown.drop law Try.underlying53 (hkey (h.good.key e he)) ty
  have hgr := hturn.grown
  have hrow : w'.heap[m + 1]? = w.heap[m + 1]? := hgr.block _ h.lt (by simp)
  have hR' := hR.del hT h.good.apart e he
  refine ⟨w', hrun, ⟨hgr.os, hgr.tape, hgr.output, hgr.size, fun k hk h1 _ => hgr.block k hk (by simpa using h1)⟩, ?_, hrow.trans h.row, ⟨_, ?_, hR'⟩, h.good.filter _⟩
  · obtain ⟨_, _, _, _, _, rfl⟩ := hturn
    simp [ChangeMaps.setBlock]
  · have := owns_tight hown'
    rwa [hR'.size] at this
end

/-! ### Of -/
theorem SOf_yes (w : World) (m : Nat) (L : List Ent) (c : Int) (it : ByteArray) (hS : Stk w m L c) (hk : it.size ≤ maxLen) (e : Ent) (he : e ∈ L) (hi : e.item = it) :
    Calls Try.prog 14 #[ptr m, .string it] w fun x w' => x = .returned (.tuple #[.string e.order, .bool true]) ∧ Below w.heap.size w w' := by
  have hl := hS.look true hk he hi
  simp only [if_true] at hl
  have c0 := hS.cell0
  clear hS
  go_enter Try.func14, Try.ntmps14
  go_wp2
  go_ret2
  exact ⟨rfl, (Below.refl _ _).alloc (Nat.le_refl _) _⟩

theorem SOf_no (w : World) (m : Nat) (L : List Ent) (c : Int) (it : ByteArray) (hS : Stk w m L c) (hk : it.size ≤ maxLen) (hn : ∀ e ∈ L, e.item ≠ it) :
    Calls Try.prog 14 #[ptr m, .string it] w fun x w' => x = .returned (.tuple #[.string es, .bool false]) ∧ Below w.heap.size w w' := by
  have hl := hS.look_no true hk hn
  simp only [if_true] at hl
  have c0 := hS.cell0
  clear hS hn
  go_enter Try.func14, Try.ntmps14
  go_wp2
  go_ret2
  exact ⟨rfl, (Below.refl _ _).alloc (Nat.le_refl _) _⟩

theorem SOf_nil (w : World) (it : ByteArray) :
    Calls Try.prog 14 #[.pointer none, .string it] w fun x w' => x = .returned (.tuple #[.string es, .bool false]) ∧ w = w' := by
  go_enter Try.func14, Try.ntmps14
  go_wp2
  go_ret2
  exact ⟨rfl, rfl⟩

/-! ### Add -/
theorem SAdd_nil (w : World) (it : ByteArray) :
    Calls Try.prog 21 #[.pointer none, .string it] w fun x w' => x = .returned (.int .i64 1) ∧ w = w' := by
  go_enter Try.func21, Try.ntmps21
  go_wp2
  go_ret
  exact ⟨rfl, rfl⟩

theorem SAdd_name (w : World) (m : Nat) : Calls Try.prog 21 #[ptr m, .string es] w fun x w' => x = .returned (.int .i64 6) ∧ w = w' := by
  go_enter Try.func21, Try.ntmps21
  go_wp2
  go_ret
  exact ⟨rfl, rfl⟩

theorem nonempty_of {it : ByteArray} (h : it ≠ es) : it.toList.isEmpty = false := by
  have := str_empty it
  rw [this]
  exact decide_eq_false (fun e => h (by rw [e]; rfl))

theorem SAdd_exists (w : World) (m : Nat) (L : List Ent) (c : Int) (it : ByteArray) (hS : Stk w m L c) (hk : it.size ≤ maxLen) (hne : it ≠ es) (e : Ent) (he : e ∈ L) (hi : e.item = it) :
    Calls Try.prog 21 #[ptr m, .string it] w fun x w' => x = .returned (.int .i64 7) ∧ Below w.heap.size w w' := by
  have hl := hS.look true hk he hi
  simp only [if_true] at hl
  have c0 := hS.cell0
  have hn := nonempty_of hne
  clear hS hne
  go_enter Try.func21, Try.ntmps21
  go_wp2
  go_ret
  exact ⟨rfl, (Below.refl _ _).alloc (Nat.le_refl _) _⟩

theorem SAdd_full (w : World) (m : Nat) (L : List Ent) (c : Int) (it : ByteArray) (hS : Stk w m L c) (hk : it.size ≤ maxLen) (hne : it ≠ es) (hno : ∀ e ∈ L, e.item ≠ it) (hL : 512 ≤ L.length) :
    Calls Try.prog 21 #[ptr m, .string it] w fun x w' => x = .returned (.int .i64 12) ∧ Below w.heap.size w w' := by
  have hl := hS.look_no true hk hno
  simp only [if_true] at hl
  have c0 := hS.cell0
  have hn := nonempty_of hne
  have hlen : ∀ (o : Obj) (ty : TypeId), (Builtin.len_ #[53] ty #[.map (some m)]).run Try.prog (w.alloc o) = .ok (.int .i64 (L.length : Nat)) (w.alloc o) := fun o ty => (hS.alloc o).len ty
  have c0' : ∀ o : Obj, (w.alloc o).cell? ⟨m + 1, 0, none⟩ = some (.map (some m)) := fun o => (hS.alloc o).cell0
  have hL' : (512 : Int) ≤ (L.length : Int) := by omega
  clear hS hne hno hL hk
  go_enter Try.func21, Try.ntmps21
  go_wp2
  go_ret
  exact ⟨rfl, (Below.refl _ _).alloc (Nat.le_refl _) _⟩

set_option maxRecDepth 100000 in
set_option maxHeartbeats 1000000 in
theorem SAdd_new (w : World) (m : Nat) (L : List Ent) (c : Int) (it : ByteArray) (hS : Stk w m L c) (hk : it.size ≤ maxLen) (hne : it ≠ es) (hno : ∀ e ∈ L, e.item ≠ it) (hL : L.length < 512) (hc0 : 0 ≤ c) (hc : c ≤ 4611686018427387904) :
    Calls Try.prog 21 #[ptr m, .string it] w fun x w' => x = .returned (.int .i64 0) ∧ Stk w' m (L ++ [⟨it, c + 1, es⟩]) (c + 1) ∧ Turn m w w' := by
  have hl := hS.look_no true hk hno
  simp only [if_true] at hl
  have c0 := hS.cell0
  have hn := nonempty_of hne
  have hlen : ∀ (o : Obj) (ty : TypeId), (Builtin.len_ #[53] ty #[.map (some m)]).run Try.prog (w.alloc o) = .ok (.int .i64 (L.length : Nat)) (w.alloc o) := fun o ty => (hS.alloc o).len ty
  have c0' : ∀ o : Obj, (w.alloc o).cell? ⟨m + 1, 0, none⟩ = some (.map (some m)) := fun o => (hS.alloc o).cell0
  have c1' : ∀ o : Obj, (w.alloc o).cell? ⟨m + 1, 1, none⟩ = some (.int .i64 c) := fun o => (hS.alloc o).cell1
  have f1' : ∀ o : Obj, (w.alloc o).frozen? ⟨m + 1, 1, none⟩ = false := fun o => (hS.alloc o).free1
  have hL' : (L.length : Int) < 512 := by omega
  have hS1 := (hS.alloc (.cells #[.int .i64 0, .string es] 64)).bump (c' := c + 1) (by omega)
  have d0 := hS1.cell0
  have d1 := hS1.cell1
  obtain ⟨w2, hrun, hturn, _, _, hmk⟩ := hS1.drew.store hk (c + 1) es (by unfold maxLen; omega)
  have hS2 := Lib.hid (hmk (L ++ [⟨it, c + 1, es⟩]) (c + 1) (fun D _ hT hR => hR.add hT ⟨it, c + 1, es⟩ hno) (hS.good.add hk hno))
  have HT := Lib.hid ((((((Turn.refl m w).of_below ((Below.refl _ _).alloc (Nat.le_refl _) (.cells #[.int .i64 0, .string es] 64))).setCell 1 (.int .i64 (c + 1))).drew).trans hturn))
  clear hS hno hk hL hne hS1 hmk hturn
  go_enter Try.func21, Try.ntmps21
  go_wp2
  go_region
  all_goals go_wp2
  all_goals go_ret
  all_goals exact ⟨rfl, hS2.out, HT.out⟩

/-! ### Reserve -/
theorem SRes_nil (w : World) (it o : ByteArray) : Calls Try.prog 22 #[.pointer none, .string it, .string o] w fun x w' => x = .returned (.int .i64 1) ∧ w = w' := by
  go_enter Try.func22, Try.ntmps22
  go_wp2
  go_ret
  exact ⟨rfl, rfl⟩

theorem SRes_name (w : World) (m : Nat) (it : ByteArray) : Calls Try.prog 22 #[ptr m, .string it, .string es] w fun x w' => x = .returned (.int .i64 6) ∧ w = w' := by
  go_enter Try.func22, Try.ntmps22
  go_wp2
  go_ret
  exact ⟨rfl, rfl⟩

theorem SRes_none (w : World) (m : Nat) (L : List Ent) (c : Int) (it o : ByteArray) (hS : Stk w m L c) (hk : it.size ≤ maxLen) (hne : o ≠ es) (hno : ∀ e ∈ L, e.item ≠ it) :
    Calls Try.prog 22 #[ptr m, .string it, .string o] w fun x w' => x = .returned (.int .i64 8) ∧ Below w.heap.size w w' := by
  have hl := hS.look_no true hk hno
  simp only [if_true] at hl
  have c0 := hS.cell0
  have hn := nonempty_of hne
  clear hS hne hno hk
  go_enter Try.func22, Try.ntmps22
  go_wp2
  go_ret
  exact ⟨rfl, (Below.refl _ _).alloc (Nat.le_refl _) _⟩

theorem SRes_state (w : World) (m : Nat) (L : List Ent) (c : Int) (it o : ByteArray) (hS : Stk w m L c) (hk : it.size ≤ maxLen) (hne : o ≠ es) (e : Ent) (he : e ∈ L) (hi : e.item = it) (ho : e.order ≠ es) :
    Calls Try.prog 22 #[ptr m, .string it, .string o] w fun x w' => x = .returned (.int .i64 14) ∧ Below w.heap.size w w' := by
  have hl := hS.look true hk he hi
  simp only [if_true] at hl
  have c0 := hS.cell0
  have hn := nonempty_of hne
  have hn2 := nonempty_of ho
  clear hS hne hk he hi ho
  go_enter Try.func22, Try.ntmps22
  go_wp2
  go_ret
  exact ⟨rfl, (Below.refl _ _).alloc (Nat.le_refl _) _⟩

set_option maxRecDepth 100000 in
set_option maxHeartbeats 1000000 in
theorem SRes_ok (w : World) (m : Nat) (L : List Ent) (c : Int) (it o : ByteArray) (hS : Stk w m L c) (hk : it.size ≤ maxLen) (hne : o ≠ es) (n : Int) (he : (⟨it, n, es⟩ : Ent) ∈ L) (hL : L.length < maxLen) :
    Calls Try.prog 22 #[ptr m, .string it, .string o] w fun x w' => x = .returned (.int .i64 0) ∧ Stk w' m (setL L it o) c ∧ Turn m w w' := by
  have hl := hS.look true hk he rfl
  simp only [if_true] at hl
  have c0 := hS.cell0
  have hn := nonempty_of hne
  have hS1 := hS.alloc (.cells #[.int .i64 n, .string o] 64)
  have d0 := hS1.cell0
  obtain ⟨w2, hrun, hturn, _, _, hmk⟩ := hS1.drew.store hk n o hL
  have hS2 := Lib.hid (hmk (setL L it o) c (fun D _ hT hR => hR.set hT hS.good.apart ⟨it, n, es⟩ he o) (hS.good.set it o))
  have HT := Lib.hid (((((Turn.refl m w).of_below ((Below.refl _ _).alloc (Nat.le_refl _) (.cells #[.int .i64 n, .string o] 64))).drew).trans hturn))
  clear hS hne hk hS1 he hL hmk hturn
  go_enter Try.func22, Try.ntmps22
  go_wp2
  go_region
  all_goals go_wp2
  all_goals go_ret
  all_goals exact ⟨rfl, hS2.out, HT.out⟩

#print axioms SOf_yes
#print axioms Stk.drop
end Go.Proofs.Ytcaennbagdipkaa
