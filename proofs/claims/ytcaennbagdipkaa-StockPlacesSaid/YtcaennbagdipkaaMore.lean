/- The stock's methods Free, Held, Release, Remove: what a call of each does to the stock's reading. -/
import Derived.Test.YtcaennbagdipkaaList
namespace Go.Proofs.Ytcaennbagdipkaa
open Go.RowKit Go.Maps Go.Proofs.YtcaennbagdipkaaW.PrintWords
set_option linter.unusedSimpArgs false
set_option linter.unusedVariables false

def heldO (L : List Ent) (o : ByteArray) : List ByteArray := if o = es then [] else held L o

theorem Free_any (w : World) (m : Nat) (L : List Ent) (c : Int) (hS : Stk w m L c) (hL : L.length ≤ 1000) :
    Calls Try.prog 17 #[ptr m] w fun e w' => ∃ v, e = .returned v ∧ Kd.R Kd.string 9 w' w.heap.size (fun _ => True) v (held L es) ∧ Below w.heap.size w w' := by
  have hcon := list_any w m L c es hS hL
  clear hS
  go_enter Try.func17, Try.ntmps17
  go_wp2_with (go_at_call 31; refine hcon.mono ?_; rintro e w' ⟨v, rfl, hR, hB⟩)
  go_ret
  exact ⟨v, rfl, hR, hB⟩

theorem Free_nil (w : World) : Calls Try.prog 17 #[.pointer none] w fun e w' => e = .returned (.slice none 0 0) ∧ w = w' := by
  go_enter Try.func17, Try.ntmps17
  go_wp2
  go_ret
  exact ⟨rfl, rfl⟩

theorem Held_nil (w : World) (o : ByteArray) : Calls Try.prog 19 #[.pointer none, .string o] w fun e w' => e = .returned (.slice none 0 0) ∧ w = w' := by
  go_enter Try.func19, Try.ntmps19
  go_wp2
  go_ret
  exact ⟨rfl, rfl⟩

theorem Held_any (w : World) (m : Nat) (L : List Ent) (c : Int) (o : ByteArray) (hS : Stk w m L c) (hL : L.length ≤ 1000) :
    Calls Try.prog 19 #[ptr m, .string o] w fun e w' => ∃ v, e = .returned v ∧ Kd.R Kd.string 9 w' w.heap.size (fun _ => True) v (heldO L o) ∧ Below w.heap.size w w' := by
  by_cases ho : o = es
  · subst ho
    go_enter Try.func19, Try.ntmps19
    go_wp2
    go_ret
    exact ⟨_, rfl, by rw [heldO, if_pos rfl]; exact Kd.R_nil _ _ _ _ _, Below.refl _ _⟩
  · have hcon := list_any w m L c o hS hL
    have hn := nonempty_of ho
    have H1 := Lib.hid ho
    clear hS ho
    go_enter Try.func19, Try.ntmps19
    go_wp2_with (go_at_call 31; refine hcon.mono ?_; rintro e w' ⟨v, rfl, hR, hB⟩)
    go_ret
    exact ⟨v, rfl, by rw [heldO, if_neg H1.out]; exact hR, hB⟩

theorem heldO_eq (L : List Ent) (o : ByteArray) (x : ByteArray) (hx : x ∈ heldO L o) : o ≠ es ∧ ∃ e ∈ L, e.item = x ∧ e.order = o := by
  unfold heldO at hx
  split at hx
  · cases hx
  · rename_i h
    obtain ⟨e, he, rfl⟩ := List.mem_map.1 hx
    obtain ⟨h1, h2⟩ := List.mem_filter.1 he
    exact ⟨h, e, h1, rfl, of_decide_eq_true h2⟩

/-! ### Remove, Release: item by item -/
def inB (x : ByteArray) (ss : List ByteArray) : Bool := ss.any fun y => decide (y = x)
theorem inB_iff (x : ByteArray) (ss : List ByteArray) : inB x ss = true ↔ x ∈ ss := by simp [inB]
theorem inB_snoc (x y : ByteArray) (ss : List ByteArray) : inB x (ss ++ [y]) = (inB x ss || decide (y = x)) := by simp [inB]
theorem inB_false {x : ByteArray} {ss : List ByteArray} (h : x ∉ ss) : inB x ss = false := by
  cases hh : inB x ss
  · rfl
  · exact absurd ((inB_iff x ss).1 hh) h

def remTo (L : List Ent) (ss : List ByteArray) : List Ent := L.filter fun e => !inB e.item ss
def relTo (L : List Ent) (ss : List ByteArray) : List Ent := L.map fun e => if inB e.item ss = true then { e with order := es } else e

theorem remTo_nil (L : List Ent) : remTo L [] = L := List.filter_eq_self.2 (fun e _ => by simp [inB])
theorem relTo_nil (L : List Ent) : relTo L [] = L := by
  unfold relTo
  have : (fun e : Ent => if inB e.item [] = true then { e with order := es } else e) = id := by funext e; simp [inB]
  rw [this, List.map_id]

theorem remTo_snoc (L : List Ent) (ss : List ByteArray) (x : ByteArray) : delL (remTo L ss) x = remTo L (ss ++ [x]) := by
  unfold delL remTo
  rw [List.filter_filter]
  refine List.filter_congr (fun e _ => ?_)
  rw [inB_snoc]
  by_cases h1 : x = e.item
  · simp [h1]
  · have h2 : e.item ≠ x := fun e => h1 e.symm
    simp [h1, h2]

theorem relTo_snoc (L : List Ent) (ss : List ByteArray) (x : ByteArray) : setL (relTo L ss) x es = relTo L (ss ++ [x]) := by
  unfold setL relTo
  rw [List.map_map]
  refine List.map_congr_left (fun e _ => ?_)
  simp only [Function.comp_apply]
  rw [inB_snoc]
  by_cases h1 : x = e.item
  · cases h2 : inB e.item ss <;> simp [h1, h2]
  · have h3 : e.item ≠ x := fun e => h1 e.symm
    cases h2 : inB e.item ss <;> simp [h1, h2, h3]

theorem relTo_length (L : List Ent) (ss : List ByteArray) : (relTo L ss).length = L.length := by simp [relTo]

theorem relTo_mem {L : List Ent} {ss : List ByteArray} {e : Ent} (he : e ∈ L) (hn : e.item ∉ ss) : e ∈ relTo L ss :=
  List.mem_map.2 ⟨e, he, by rw [inB_false hn]; simp⟩
theorem remTo_mem {L : List Ent} {ss : List ByteArray} {e : Ent} (he : e ∈ L) (hn : e.item ∉ ss) : e ∈ remTo L ss :=
  List.mem_filter.2 ⟨he, by rw [inB_false hn]; rfl⟩

theorem held_nodup {L : List Ent} (h : L.Pairwise (fun a b => a.item ≠ b.item)) (o : ByteArray) : (heldO L o).Nodup := by
  unfold heldO
  split
  · exact List.nodup_nil
  · unfold held
    exact List.pairwise_map.2 (h.filter _)

/-- The items taken one by one are those of the order. -/
def remL (L : List Ent) (o : ByteArray) : List Ent := if o = es then L else L.filter fun e => decide (e.order ≠ o)
def relL (L : List Ent) (o : ByteArray) : List Ent := if o = es then L else L.map fun e => if e.order = o then { e with order := es } else e

theorem mem_heldO {L : List Ent} (hA : L.Pairwise (fun a b => a.item ≠ b.item)) {o : ByteArray} (ho : o ≠ es) {e : Ent} (he : e ∈ L) : e.item ∈ heldO L o ↔ e.order = o := by
  constructor
  · intro h
    obtain ⟨_, e', he', hi, ho'⟩ := heldO_eq L o _ h
    rw [← apart_eq hA he' he hi]
    exact ho'
  · intro h
    unfold heldO
    rw [if_neg ho]
    exact List.mem_map.2 ⟨e, List.mem_filter.2 ⟨he, by simpa using h⟩, rfl⟩

theorem remTo_all {L : List Ent} (hA : L.Pairwise (fun a b => a.item ≠ b.item)) (o : ByteArray) : remTo L (heldO L o) = remL L o := by
  unfold remL
  split
  · rename_i h
    rw [heldO, if_pos h, remTo_nil]
  · rename_i h
    unfold remTo
    refine List.filter_congr (fun e he => ?_)
    have := mem_heldO hA h he
    by_cases h1 : e.order = o
    · rw [(inB_iff _ _).2 (this.2 h1)]; simp [h1]
    · rw [inB_false (fun h => h1 (this.1 h))]; simp [h1]

theorem relTo_all {L : List Ent} (hA : L.Pairwise (fun a b => a.item ≠ b.item)) (o : ByteArray) : relTo L (heldO L o) = relL L o := by
  unfold relL
  split
  · rename_i h
    rw [heldO, if_pos h, relTo_nil]
  · rename_i h
    unfold relTo
    refine List.map_congr_left (fun e he => ?_)
    have := mem_heldO hA h he
    by_cases h1 : e.order = o
    · rw [(inB_iff _ _).2 (this.2 h1)]; simp [h1]
    · rw [inB_false (fun h => h1 (this.1 h))]; simp [h1]

theorem Good.relTo {L : List Ent} {c : Int} (h : Good L c) (ss : List ByteArray) : Good (relTo L ss) c := h.map _ (fun e => by split <;> rfl) (fun e => by split <;> rfl)

theorem Remove_nil (w : World) (o : ByteArray) : Calls Try.prog 23 #[.pointer none, .string o] w fun e w' => e = .returned (.slice none 0 0) ∧ w = w' := by
  have hcon := fun W => Held_nil W o
  go_enter Try.func23, Try.ntmps23
  go_wp2_with (go_at_call 19; refine (hcon _).mono ?_; rintro e w' ⟨rfl, rfl⟩)
  refine wp_loop_rounds 1 ?_
  rw [rounds_succ]
  go_wp2
  go_ret
  exact ⟨rfl, rfl⟩

theorem Release_nil (w : World) (o : ByteArray) : Calls Try.prog 25 #[.pointer none, .string o] w fun e w' => e = .returned (.int .i64 0) ∧ w = w' := by
  have hcon := fun W => Held_nil W o
  go_enter Try.func25, Try.ntmps25
  go_wp2_with (go_at_call 19; refine (hcon _).mono ?_; rintro e w' ⟨rfl, rfl⟩)
  refine wp_loop_rounds 1 ?_
  rw [rounds_succ]
  go_wp2
  go_ret
  exact ⟨rfl, rfl⟩

/-- A slice of strings of the call's own: the cell of its k-th. -/
theorem strs_at {w : World} {base : Nat} {ok : Nat → Prop} {A : Option Addr} {c : Nat} {xs : List ByteArray} (h : Kd.R Kd.string 9 w base ok (.slice A xs.length c) xs) (k : Nat) (hk : k < xs.length) :
    ∃ g, A = some ⟨g, 0, none⟩ ∧ base ≤ g ∧ g < w.heap.size ∧ ok g ∧ w.cell? ⟨g, k, none⟩ = some (.string xs[k]) := by
  have ho := Kd.own_of_R h
  rcases ho.2 with ⟨hn, h0⟩ | ⟨g, cap, cur, hv, hb, hh, _⟩
  · omega
  · injection hv with hv1 hv2 hv3
    subst hv1
    refine ⟨g, rfl, hb, (Array.getElem?_eq_some_iff.1 hh).1, h.1 g rfl, ?_⟩
    have := ho.cells (g := g) rfl k (.string xs[k]) (by simp [encs, hk])
    rwa [show (⟨g, 0, none⟩ : Addr).add k = ⟨g, k, none⟩ by unfold Addr.add; split <;> simp_all] at this

/-- What was made above the stock stays while the stock turns. -/
theorem R_turn {α : Type} {d : Kd α} {e base m : Nat} {ok : Nat → Prop} {w w' : World} {v : Value} {xs : List α} (h : d.R e w base ok v xs) (hb : m + 1 < base) (hT : Turn m w w') : d.R e w' base ok v xs :=
  Kd.R_mono (Kd.R_step (Kd.R_bound h) (fun k hk hlt => hT.block k hlt (by have := hk.2.1; omega) (by have := hk.2.1; omega))) (fun _ hk => hk.1)

theorem take_snoc_str (xs : List ByteArray) (k : Nat) (hk : k < xs.length) : xs.take (k + 1) = xs.take k ++ [xs[k]] := by
  rw [List.take_succ_eq_append_getElem hk]

theorem notin_take {xs : List ByteArray} (h : xs.Nodup) (k : Nat) (hk : k < xs.length) : xs[k] ∉ xs.take k := by
  intro hm
  obtain ⟨j, hj, hje⟩ := List.getElem_of_mem hm
  have hj' : j < k := by simp at hj; omega
  rw [List.getElem_take] at hje
  have := (List.pairwise_iff_getElem.1 h) j k (by omega) hk hj'
  exact this hje

theorem remTo_len (L : List Ent) (ss : List ByteArray) : (remTo L ss).length ≤ L.length := List.length_filter_le _ _

set_option maxRecDepth 100000 in
set_option maxHeartbeats 4000000 in
theorem Remove_any (w : World) (m : Nat) (L : List Ent) (c : Int) (o : ByteArray) (hS : Stk w m L c) (hL : L.length ≤ 1000) :
    Calls Try.prog 23 #[ptr m, .string o] w fun e w' => ∃ v, e = .returned v ∧ Kd.R Kd.string 9 w' w.heap.size (fun _ => True) v (heldO L o) ∧ Stk w' m (remL L o) c ∧ Turn m w w' := by
  have hcon := Held_any w m L c o hS hL
  have hml := hS.lt
  have hA := Lib.hid hS.good.apart
  have hlen : (heldO L o).length ≤ 1000 := by
    unfold heldO held
    split
    · simp
    · rw [List.length_map]; exact Nat.le_trans (List.length_filter_le _ _) hL
  have hnd := Lib.hid (held_nodup hS.good.apart o)
  have hmem := Lib.hid (heldO_eq L o)
  have hall := Lib.hid (remTo_all hS.good.apart o)
  have HS := Lib.hid hS
  clear hS
  generalize heldO L o = xs at *
  go_enter Try.func23, Try.ntmps23
  go_wp2_with (go_at_call 19; refine hcon.mono ?_; rintro e w1 ⟨v, rfl, hR, hB⟩; obtain ⟨A, cap, rfl⟩ := Kd.R_slice hR; have HR := Lib.hid hR; have hB1 := hB; clear hR hB)
  have hS1 := Lib.hid (HS.out.below hB1)
  have hw1 := hB1.size
  go_loopw [13] (fun i wr => ∃ k : Nat, k ≤ xs.length ∧ i = .int .i64 k ∧ Hid (Stk wr m (remTo L (xs.take k)) c) ∧ Turn m w1 wr) (fun i _ => xs.length - (intOf i).toNat)
  case atStart => exact ⟨0, Nat.zero_le _, rfl, by rw [List.take_zero, remTo_nil]; exact hS1.out, Turn.refl _ _⟩
  case round =>
    obtain ⟨k, hk, rfl, hSr, hT⟩ := hrel
    by_cases hlt : k < xs.length
    · obtain ⟨g, hA1, hg1, hg2, _, hc⟩ := strs_at HR.out k hlt
      subst hA1
      have hcr : wr.cell? ⟨g, k, none⟩ = some (.string xs[k]) := (hT.cell (p := ⟨g, k, none⟩) hg2 (by show g ≠ m; omega) (by show g ≠ m + 1; omega)).trans hc
      have c0 := hSr.out.cell0
      obtain ⟨_, e, he, hei, heo⟩ := hmem.out xs[k] (List.getElem_mem hlt)
      have hnt := notin_take hnd.out k hlt
      have hin := remTo_mem he (by rw [hei]; exact hnt)
      obtain ⟨w2, hrun, hT2, hsz2, hS2⟩ := hSr.out.drop hin 0
      rw [hei, remTo_snoc, ← take_snoc_str xs k hlt] at hS2
      rw [hei] at hrun
      have HS2 := Lib.hid hS2
      have HT2 := Lib.hid (hT.trans hT2)
      clear hS2 hT2 hin hnt he hei heo hc hT hsz2
      generalize xs[k] = x at *
      go_wp2
      go_roundw
      case rel => exact ⟨k + 1, by omega, by go_num, HS2.out, HT2.out⟩
      case measure => simp [intOf]; omega
    · have hke : k = xs.length := by omega
      have HK := Lib.hid hke
      clear hke
      have hge : (xs.length : Int) ≤ (k : Int) := by omega
      go_wp2
      go_ret
      refine ⟨_, rfl, R_turn HR.out (by omega) hT, ?_, ((Turn.refl m w).of_below hB1).trans hT⟩
      have := hSr.out
      rw [HK.out, List.take_length, hall.out] at this
      exact this

theorem Rep.relTo {L0 : List Ent} (n : Int) (x : ByteArray) (hA : L0.Pairwise (fun a b => a.item ≠ b.item)) (e : Ent) (he : e ∈ L0) (hx : e.item = x) (hn : e.n = n) : ∀ D, IsMap D → Tidy D → Rep D L0 → Rep (D.put (kOf x) (entD n es)) (setL L0 x es) := fun D _ hT hR => by
  subst hx hn
  exact hR.set hT hA e he es

set_option maxRecDepth 100000 in
set_option maxHeartbeats 4000000 in
theorem Release_any (w : World) (m : Nat) (L : List Ent) (c : Int) (o : ByteArray) (hS : Stk w m L c) (hL : L.length ≤ 1000) :
    Calls Try.prog 25 #[ptr m, .string o] w fun e w' => e = .returned (.int .i64 ((heldO L o).length : Nat)) ∧ Stk w' m (relL L o) c ∧ Turn m w w' := by
  have hcon := Held_any w m L c o hS hL
  have hml := hS.lt
  have hlen : (heldO L o).length ≤ 1000 := by
    unfold heldO held
    split
    · simp
    · rw [List.length_map]; exact Nat.le_trans (List.length_filter_le _ _) hL
  have hnd := Lib.hid (held_nodup hS.good.apart o)
  have hmem := Lib.hid (heldO_eq L o)
  have hall := Lib.hid (relTo_all hS.good.apart o)
  have hLm : ∀ ss, (relTo L ss).length < maxLen := fun ss => by rw [relTo_length]; unfold maxLen; omega
  have HLm := Lib.hid hLm
  have HS := Lib.hid hS
  have hf : ∀ (n : Int) (o : ByteArray) (W : World), (Instr.field 64 (.agg #[.int .i64 n, .string o]) 0).run Try.prog W = .ok (.int .i64 n) W := fun n o W => by kernel_rfl
  clear hS hLm
  generalize heldO L o = xs at *
  go_enter Try.func25, Try.ntmps25
  go_wp2_with (go_at_call 19; refine hcon.mono ?_; rintro e w1 ⟨v, rfl, hR, hB⟩; obtain ⟨A, cap, rfl⟩ := Kd.R_slice hR; have HR := Lib.hid hR; have hB1 := hB; clear hR hB)
  have hS1 := Lib.hid (HS.out.below hB1)
  have hw1 := hB1.size
  go_loopw [13] (fun i wr => ∃ k : Nat, k ≤ xs.length ∧ i = .int .i64 k ∧ Hid (Stk wr m (relTo L (xs.take k)) c) ∧ Turn m w1 wr) (fun i _ => xs.length - (intOf i).toNat)
  case atStart => exact ⟨0, Nat.zero_le _, rfl, by rw [List.take_zero, relTo_nil]; exact hS1.out, Turn.refl _ _⟩
  case round =>
    obtain ⟨k, hk, rfl, hSr, hT⟩ := hrel
    by_cases hlt : k < xs.length
    · obtain ⟨g, hA1, hg1, hg2, _, hc⟩ := strs_at HR.out k hlt
      subst hA1
      have hcr : wr.cell? ⟨g, k, none⟩ = some (.string xs[k]) := (hT.cell (p := ⟨g, k, none⟩) hg2 (by show g ≠ m; omega) (by show g ≠ m + 1; omega)).trans hc
      have c0 := hSr.out.cell0
      obtain ⟨_, e, he, hei, heo⟩ := hmem.out xs[k] (List.getElem_mem hlt)
      have hnt := notin_take hnd.out k hlt
      have hin := relTo_mem he (by rw [hei]; exact hnt)
      have hks : xs[k].size ≤ maxLen := by rw [← hei]; exact HS.out.good.key e he
      have hl := hSr.out.drew.look false hks hin hei
      simp only [Bool.false_eq_true, if_false] at hl
      obtain ⟨w2, hrun, hT2, _, _, hmk⟩ := hSr.out.drew.store hks e.n es (HLm.out _)
      have hS2 := hmk (setL (relTo L (xs.take k)) xs[k] es) c (Rep.relTo e.n xs[k] hSr.out.good.apart e hin hei rfl) (hSr.out.good.set _ _)
      rw [relTo_snoc, ← take_snoc_str xs k hlt] at hS2
      have HS2 := Lib.hid hS2
      have HT2 := Lib.hid (hT.drew.trans hT2)
      clear hS2 hT2 hin hnt he hei heo hc hT hmk hks
      generalize xs[k] = x at *
      generalize e.n = n at *
      generalize e.order = eo at *
      go_wp2
      go_region
      all_goals go_wp2
      all_goals go_roundw
      case rel => exact ⟨k + 1, by omega, by go_num, HS2.out, HT2.out⟩
      case measure => simp [intOf]; omega
    · have hke : k = xs.length := by omega
      have HK := Lib.hid hke
      clear hke
      have hge : (xs.length : Int) ≤ (k : Int) := by omega
      go_wp2
      go_ret
      refine ⟨rfl, ?_, ((Turn.refl m w).of_below hB1).trans hT⟩
      have := hSr.out
      rw [HK.out, List.take_length, hall.out] at this
      exact this

#print axioms relTo_all
#print axioms strs_at
end Go.Proofs.Ytcaennbagdipkaa
