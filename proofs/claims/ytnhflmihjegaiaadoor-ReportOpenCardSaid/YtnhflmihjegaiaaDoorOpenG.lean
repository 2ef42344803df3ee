/- report.Open at any number of orders, whatever the memory. -/
import Derived.Test.YtnhflmihjegaiaaDoorOpenB
import Derived.Test.YtnhflmihjegaiaaDoorSymS
import Derived.Lib.AppendIntMem
namespace Go.Proofs.YtnhflmihjegaiaaDoor
open Go.RowKit Go.Sort Go.Shelf Go.Lib Go.Proofs.YtnhflmihjegaiaaDoorW.PrintWords P
set_option linter.unusedSimpArgs false
set_option linter.unusedVariables false

def dueO (l : List S116) (i : Nat) : Int := (rd_T116 l (i : Int)).f0.f10
def befO (l : List S116) (i j : Nat) : Prop := dueO l i < dueO l j ∨ (dueO l i = dueO l j ∧ i < j)
/-- What Open returns. -/
def OpenS (l : List S116) (xs : List Nat) : Prop := (∀ i, i ∈ xs ↔ i ∈ opK l l.length) ∧ xs.Pairwise (befO l)
theorem OpenS.len {l : List S116} {xs : List Nat} (h : OpenS l xs) : xs.length ≤ l.length := by
  have hd : xs.Nodup := h.2.imp fun {a b} hab e => by subst e; unfold befO at hab; omega
  have hsub : xs ⊆ List.range l.length := fun i hi => List.mem_range.2 (opK_lt l l.length i ((h.1 i).1 hi))
  have := hd.length_le_of_subset hsub
  simpa using this
theorem opK_sorted (l : List S116) (k : Nat) : (opK l k).Pairwise (· < ·) := by
  unfold opK
  exact List.Pairwise.filter _ List.pairwise_lt_range
theorem opF_sorted (l : List S116) {p q : Nat} (hpq : p < q) (hq : q < (opF l).length) : ((opF l)[p]'(by omega)).val < (opF l)[q].val := by
  have h := opK_sorted l l.length
  rw [← opF_val, List.pairwise_map] at h
  exact List.pairwise_iff_getElem.1 h p q (by omega) hq hpq
theorem compareInt_lt (x y : Int) : Lib.compareInt x y < 0 ↔ x < y := by
  unfold Lib.compareInt
  split
  · constructor <;> intro <;> omega
  · split <;> constructor <;> intro <;> omega
theorem OpenS.of (l : List S116) (hpos : 0 < l.length) (d' : Array (Fin l.length)) (n : Nat) (hn : (opF l).toArray.size = n)
    (hM : letI := inhF hpos; Sym.Mix (opF l).toArray d' n ∧ Sym.Srt (fun i : Fin l.length => (rd_T116 l ((i.val : Nat) : Int)).f0.f10) (fun i : Fin l.length => i.val) d' 0 n) : OpenS l (d'.toList.map (·.val)) := by
  letI := inhF hpos
  obtain ⟨X, S⟩ := hM
  have hsz := X.size
  have hl : (opF l).length = n := by simpa using hn
  have hdl : d'.toList.length = n := by rw [Array.length_toList, hsz, hn]
  refine ⟨fun i => ⟨fun hi => ?_, fun hi => ?_⟩, ?_⟩
  · obtain ⟨x, hx, rfl⟩ := List.mem_map.1 hi
    obtain ⟨j, hj, rfl⟩ := List.mem_iff_getElem.1 hx
    obtain ⟨k, k1, e⟩ := X.into j (by omega)
    rw [getElem!_pos d' j (by rw [hsz, hn]; omega), getElem!_pos (opF l).toArray k (by rw [hn]; exact k1)] at e
    rw [← opF_val]
    refine List.mem_map.2 ⟨(opF l)[k]'(by omega), List.getElem_mem _, ?_⟩
    have e2 : d'.toList[j] = d'[j]'(by rw [hsz, hn]; omega) := Array.getElem_toList _
    rw [e2, e]
    simp
  · rw [← opF_val] at hi
    obtain ⟨x, hx, rfl⟩ := List.mem_map.1 hi
    obtain ⟨j, hj, rfl⟩ := List.mem_iff_getElem.1 hx
    obtain ⟨k, k1, e⟩ := X.onto j (by omega)
    rw [getElem!_pos d' k (by rw [hsz, hn]; omega), getElem!_pos (opF l).toArray j (by rw [hn]; omega)] at e
    refine List.mem_map.2 ⟨d'[k]'(by rw [hsz, hn]; omega), ?_, ?_⟩
    · have e2 : d'.toList[k]'(by omega) = d'[k]'(by rw [hsz, hn]; omega) := Array.getElem_toList _
      rw [← e2]
      exact List.getElem_mem _
    · rw [e]; simp
  · rw [List.pairwise_map, List.pairwise_iff_getElem]
    intro i j hi hj hij
    have := S i j (Nat.zero_le _) hij (by omega)
    rw [getElem!_pos d' i (by rw [hsz, hn]; omega), getElem!_pos d' j (by rw [hsz, hn]; omega)] at this
    rw [Array.getElem_toList, Array.getElem_toList]
    exact this
theorem OpenS.nil {l : List S116} (h : opK l l.length = []) : OpenS l [] := ⟨fun i => by rw [h], List.Pairwise.nil⟩

set_option maxRecDepth 100000 in
set_option maxHeartbeats 2000000 in
theorem stable25g (l : List S116) (w : World) (base : Nat) (v : Value) (sb : Nat) (A : Option Addr) (c : Nat) (hC : Kd.C k116 w A l.length l) (hs : w.cell? ⟨sb, 5, none⟩ = some (.slice A l.length c)) (hR : Kd.R (Kd.int .i64) 3 w base (fun _ => True) v (ints (opK l l.length)))
    (h1 : ∀ k, v.ownBlock = some k → sb ≠ k) (h2 : 0 < l.length → ∀ k ad, v.ownBlock = some k → A = some ad → ad.block ≠ k) (hl : l.length < 1000000) :
    Calls Tryd.prog 25 #[v, .func (.func 26) #[] #[.pointer (some ⟨sb, 0, none⟩)]] w fun e w' => e = .returned (.tuple #[]) ∧ ∃ xs : List Nat, OpenS l xs ∧ Kd.R (Kd.int .i64) 3 w' base (fun _ => True) v (ints xs) ∧ Below base w w' := by
  have eg : ∀ args w, (callFunc 26 args).run Tryd.prog w = .ok (.enter 26 args) w := enters_of Tryd.func26 (by kernel_rfl) rfl
  have hO := Kd.own_of_R hR
  by_cases h0 : opK l l.length = []
  · rw [h0] at hR
    obtain ⟨A', c', rfl⟩ := Kd.R_slice hR
    exact (stable25w (fun w' => w' = w) A' 0 c' (.func (.func 26) #[] #[.pointer (some ⟨sb, 0, none⟩)]) w (by omega) (Tryd.insertionSortCmpFunc_none (α := Nat) A' c' (.func (.func 26) #[] #[.pointer (some ⟨sb, 0, none⟩)]) w)).mono fun e w' ⟨he, hw⟩ => ⟨he, [], OpenS.nil h0, by rw [hw]; exact hR, by rw [hw]; exact Below.refl _ _⟩
  · have hv : v ≠ .slice none 0 0 := by
      intro hv
      subst hv
      rcases hO.2 with ⟨_, h3⟩ | ⟨g, cap, cur, h3, _⟩
      · have : (ints (opK l l.length)).length = 0 := by simpa using h3
        rw [ints_length] at this
        exact h0 (List.length_eq_zero_iff.1 this)
      · cases h3
    obtain ⟨g, cap, rfl, hbg, hg, hnc, hcm, hln, hH⟩ := holds_of_ownsRow (enc := Value.int .i64) (zs := ints (opK l l.length)) hO hv
    have hpos : 0 < l.length := by
      rcases Nat.eq_zero_or_pos l.length with h | h
      · exact absurd (by rw [h]; rfl) h0
      · exact h
    letI := inhF hpos
    have hA : A ≠ none := by
      intro h
      obtain ⟨ad, e, _⟩ := at_T116 hC 0 (Int.le_refl _) (by omega)
      rw [h] at e; cases e
    obtain ⟨ad, rfl⟩ : ∃ ad, A = some ad := by cases A with | none => exact absurd rfl hA | some ad => exact ⟨ad, rfl⟩
    have hcmp := cmpReads26 l hpos w sb ad c g (opF l).toArray.size hC hs (h1 g rfl) (h2 hpos g ad rfl rfl)
    have hlen : (opF l).toArray.size = (opK l l.length).length := by simp [opF]
    have hHF : Holds encF w g 0 (opF l).toArray := by
      intro j hj
      have hj' : j < (opK l l.length).length := by rw [← hlen]; exact hj
      have := hH j (by simpa [ints] using hj')
      have e : encF ((opF l).toArray[j]!) = Value.int .i64 ((ints (opK l l.length)).toArray[j]!) := by
        have hj2 : j < (ints (opK l l.length)).toArray.size := by simpa [ints] using hj'
        rw [getElem!_pos _ j hj, getElem!_pos _ j hj2]
        simp [encF, opF, ints]
      rw [e]
      exact this
    have hk := opK_len l l.length
    have hcon := Sym.sortStable_s _ (some ⟨g, 0, none⟩) (opF l).toArray.size cap (.func (.func 26) #[] #[.pointer (some ⟨sb, 0, none⟩)]) w
      (Sym.stable_s encF (cfO l) (fun i : Fin l.length => (rd_T116 l ((i.val : Nat) : Int)).f0.f10) (fun i : Fin l.length => i.val) (fun x y => compareInt_lt _ _) 26 #[.pointer (some ⟨sb, 0, none⟩)] g 0 cap (opF l).toArray w eg hcmp.lays ⟨fun _ => rfl, hHF, hg⟩ (by omega)
        (fun p q h1 h2 => by
          rw [getElem!_pos _ p (by omega), getElem!_pos _ q h2]
          exact opF_sorted l h1 (by simpa using h2)) (SW.start hHF))
    have hil : (ints (opK l l.length)).length = (opF l).toArray.size := by rw [ints_length, hlen]
    have hO2 : w.ownsRow base 3 1 (.slice (some ⟨g, 0, none⟩) (ints (opK l l.length)).length cap) (ints (opK l l.length)).length ((opF l).map encF) := by
      have e : (opF l).map encF = encs (Value.int .i64) (ints (opK l l.length)) := by
        rw [← opF_val]
        simp [encs, ints, encF, Function.comp_def]
      rw [e]
      exact hO
    have hOf := fun d' => OpenS.of l hpos d' _ rfl
    rw [hil] at *
    generalize hmm : (opF l).toArray.size = m at *
    refine hcon.mono fun e w' ⟨he, S, hS, n, os, hw⟩ => ⟨he, S.toList.map (·.val), hOf S hS, ?_, ?_⟩
    · have hsz : S.size = m := hS.1.size.trans hmm
      have h3 := ownsRow_putRow (enc := encF) (q := n) (k := m) (ys := S.toList) hO2 (by simpa using hsz) (Nat.le_refl _)
      rw [List.take_of_length_le (by simp; omega), Array.toArray_toList] at h3
      have h4 := ownsRow_grow h3 0 os
      have hoe : S.toList.map encF = encs (Value.int .i64) (ints (S.toList.map (·.val))) := by
        simp [encs, encF, ints, Function.comp_def]
      rw [hoe] at h4
      have hol : (ints (S.toList.map (·.val))).length = m := by simpa [ints] using hsz
      rw [hw]
      rw [← hol] at h4 ⊢
      exact Kd.R_of_own h4 (fun _ _ => trivial)
    · rw [hw]
      exact (below_putRow (Below.refl _ _) hbg).trans (below_grow base _ (by rw [size_putRow]; show base ≤ w.heap.size; omega) 0 os)
#print axioms stable25g

set_option maxRecDepth 100000 in
set_option maxHeartbeats 4000000 in
theorem Open_all (w : World) (a0 a6 a7 : Int) (A1 A2 A3 A4 A5 A8 A9 : Option Addr) (n1 n2 n3 n4 n8 n9 c1 c2 c3 c4 c5 c8 c9 : Nat) (l : List S116) (hC : Kd.C k116 w A5 l.length l) (hc : l.length ≤ c5) (hl : l.length < 1000000) :
    Calls Tryd.prog 14 #[.agg #[.int .i64 a0, .slice A1 n1 c1, .slice A2 n2 c2, .slice A3 n3 c3, .slice A4 n4 c4, .slice A5 l.length c5, .int .i64 a6, .int .i64 a7, .slice A8 n8 c8, .slice A9 n9 c9]] w fun e w' =>
      ∃ v, e = .returned v ∧ ∃ xs : List Nat, OpenS l xs ∧ Kd.R (Kd.int .i64) 3 w' w.heap.size (fun _ => True) v (ints xs) ∧ Below w.heap.size w w' := by
  have hu32 := Tryd.underlying32
  have hu116 := Tryd.underlying116
  have hu114 := Tryd.underlying114
  have HCl := Lib.hid (show ∀ ad, A5 = some ad → 0 < l.length → ad.block < w.heap.size from fun ad e h => by subst e; exact Kd.C_lt hC h (by decide))
  have hB0 := (Below.refl w.heap.size w).alloc (Nat.le_refl _) (.cells #[.int .i64 a0, .slice A1 n1 c1, .slice A2 n2 c2, .slice A3 n3 c3, .slice A4 n4 c4, .slice A5 l.length c5, .int .i64 a6, .int .i64 a7, .slice A8 n8 c8, .slice A9 n9 c9] 32)
  have hs0 : (w.alloc (.cells #[.int .i64 a0, .slice A1 n1 c1, .slice A2 n2 c2, .slice A3 n3 c3, .slice A4 n4 c4, .slice A5 l.length c5, .int .i64 a6, .int .i64 a7, .slice A8 n8 c8, .slice A9 n9 c9] 32)).cell? ⟨w.heap.size, 5, none⟩ = some (.slice A5 l.length c5) := by simp [go_sem]
  have hz0 : (w.alloc (.cells #[.int .i64 a0, .slice A1 n1 c1, .slice A2 n2 c2, .slice A3 n3 c3, .slice A4 n4 c4, .slice A5 l.length c5, .int .i64 a6, .int .i64 a7, .slice A8 n8 c8, .slice A9 n9 c9] 32)).heap.size = w.heap.size + 1 := by simp [go_sem]
  have hC0 := Kd.C_below hC hB0
  go_enter Tryd.func14, Tryd.ntmps14
  go_wp2_with fail
  generalize (w.alloc (.cells #[.int .i64 a0, .slice A1 n1 c1, .slice A2 n2 c2, .slice A3 n3 c3, .slice A4 n4 c4, .slice A5 l.length c5, .int .i64 a6, .int .i64 a7, .slice A8 n8 c8, .slice A9 n9 c9] 32)) = w0 at *
  have HZ := Lib.hid hz0
  have HB0 := Lib.hid hB0
  have HS0 := Lib.hid hs0
  have HC0 := Lib.hid hC0
  clear hz0 hB0 hs0 hC0 hC
  go_loopw [3, 9] (fun v i wr => ∃ k : Nat, k ≤ l.length ∧ i = .int .i64 k ∧ Hid (Kd.R (Kd.int .i64) 3 wr w0.heap.size (fun _ => True) v (ints (opK l k))) ∧ Hid (Below w0.heap.size w0 wr)) (fun _ i _ => l.length - (intOf i).toNat)
  case atStart => exact ⟨0, Nat.zero_le _, rfl, Lib.hid (Kd.R_nil _ _ _ _ _), Lib.hid (Below.refl _ _)⟩
  case round =>
    obtain ⟨k, hk, rfl, R3, hB⟩ := hrel
    by_cases hlt : k < l.length
    · obtain ⟨ad, e0, g0, g1, g2, g3, g4, g5, g6, g7, g8, g9, g10, g11⟩ := at_T116 (Kd.C_below HC0.out hB.out) (k : Int) (by omega) (by omega)
      subst e0
      rw [Int.toNat_natCast] at g0 g1 g2 g3 g4 g5 g6 g7 g8 g9 g10 g11
      have hsc := Lib.hid (opK_succ l k)
      have hln := opK_len l k
      generalize opK l k = xs at *
      generalize rd_T116 l (k : Int) = s at *
      cases hsh : s.f1 with
      | false =>
        have g11 : wr.cell? ⟨(ad.add (k * 12)).block, (ad.add (k * 12)).off + 11, none⟩ = some (.bool false) := by rw [← hsh]; exact g11
        have hBa := (Below.refl wr.heap.size wr).alloc (Nat.le_refl _) (.cells #[.string s.f0.f0, .string s.f0.f1, .int .i64 s.f0.f2, .int .i64 s.f0.f3, .int .i64 s.f0.f4, .int .i64 s.f0.f5, .int .i64 s.f0.f6, .int .i64 s.f0.f7, .int .i64 s.f0.f8, .int .i64 s.f0.f9, .int .i64 s.f0.f10, .bool false] 116)
        have hza : (wr.alloc (.cells #[.string s.f0.f0, .string s.f0.f1, .int .i64 s.f0.f2, .int .i64 s.f0.f3, .int .i64 s.f0.f4, .int .i64 s.f0.f5, .int .i64 s.f0.f6, .int .i64 s.f0.f7, .int .i64 s.f0.f8, .int .i64 s.f0.f9, .int .i64 s.f0.f10, .bool false] 116)).heap.size = wr.heap.size + 1 := by simp [go_sem]
        have R3a := Kd.R_below R3.out hBa
        have hBw := hB.out.size
        have hBc := hB.out.trans (hBa.mono hBw)
        have hBz := hBc.size
        have hil := ints_length xs
        have hsc2 := Lib.hid (show opK l (k + 1) = xs ++ [k] by rw [hsc.out, hsh]; rfl)
        clear hBa
        go_wp2_with (first
          | ((with_reducible refine gate_builtin (b := .append) (xs := #[.tmp 17, .tmp 19]) rfl ?_); at_builtin; refine Kd.R_append (Kd.int .i64) (w0 := wr.alloc (.cells #[.string s.f0.f0, .string s.f0.f1, .int .i64 s.f0.f2, .int .i64 s.f0.f3, .int .i64 s.f0.f4, .int .i64 s.f0.f5, .int .i64 s.f0.f6, .int .i64 s.f0.f7, .int .i64 s.f0.f8, .int .i64 s.f0.f9, .int .i64 s.f0.f10, .bool false] 116)) w0.heap.size rfl (.tmp 17) (.tmp 19) 51 3 (.int .i64 0) 8 rfl Tryd.underlying51 info3 rfl (by decide) (by omega) _ (ints xs) (k : Int) [.int .i64 (k : Int)] (fun _ => True) (fun _ => False) ?_ ?_ ?_ ?_ ?_ R3a ?_ ?_ ?_ ?_; rfl; (first | rfl | (rw [hza]; rfl) | (simp [go_sem]; done)); rfl; (exact fun _ hk => hk.elim); (exact fun _ _ => trivial); (exact Below.refl _ _); omega; omega; intro v5 wc R5 hb5 hg5 hat5))
        have hBd := hBc.trans hb5
        clear hb5 hg5 hat5 R3a
        go_wp2
        go_roundw
        case rel => exact ⟨k + 1, by omega, by go_num, by rw [hsc2.out]; simpa [ints] using Lib.hid R5, Lib.hid hBd⟩
        case measure => simp [intOf]; omega
      | true =>
        have g11 : wr.cell? ⟨(ad.add (k * 12)).block, (ad.add (k * 12)).off + 11, none⟩ = some (.bool true) := by rw [← hsh]; exact g11
        have hBa := (Below.refl wr.heap.size wr).alloc (Nat.le_refl _) (.cells #[.string s.f0.f0, .string s.f0.f1, .int .i64 s.f0.f2, .int .i64 s.f0.f3, .int .i64 s.f0.f4, .int .i64 s.f0.f5, .int .i64 s.f0.f6, .int .i64 s.f0.f7, .int .i64 s.f0.f8, .int .i64 s.f0.f9, .int .i64 s.f0.f10, .bool true] 116)
        have hza : (wr.alloc (.cells #[.string s.f0.f0, .string s.f0.f1, .int .i64 s.f0.f2, .int .i64 s.f0.f3, .int .i64 s.f0.f4, .int .i64 s.f0.f5, .int .i64 s.f0.f6, .int .i64 s.f0.f7, .int .i64 s.f0.f8, .int .i64 s.f0.f9, .int .i64 s.f0.f10, .bool true] 116)).heap.size = wr.heap.size + 1 := by simp [go_sem]
        have R3a := Kd.R_below R3.out hBa
        have hBw := hB.out.size
        have hBc := hB.out.trans (hBa.mono hBw)
        have hBz := hBc.size
        have hil := ints_length xs
        have hsc2 := Lib.hid (show opK l (k + 1) = xs by rw [hsc.out, hsh]; simp)
        clear hBa
        go_wp2
        go_roundw
        case rel => exact ⟨k + 1, by omega, by go_num, by rw [hsc2.out]; exact Lib.hid R3a, Lib.hid hBc⟩
        case measure => simp [intOf]; omega
    · have hkl : k = l.length := by omega
      have R3 := R3.out
      rw [hkl] at R3
      have hge : (l.length : Int) ≤ (k : Int) := by omega
      have hz := HZ.out
      have hs1 := (hB.out.cell (World.block_lt_of_cell? _ _ HS0.out)).trans HS0.out
      have hst := fun (v : Value) (hR : Kd.R (Kd.int .i64) 3 wr w0.heap.size (fun _ => True) v (ints (opK l l.length))) => stable25g l wr w0.heap.size v w.heap.size A5 c5 (Kd.C_below HC0.out hB.out) hs1 hR
        (fun k h => by have := Kd.R_base hR k h; omega) (fun hp k ad h e => by have := Kd.R_base hR k h; have := HCl.out ad e hp; omega) hl
      have hst2 := hst _ R3
      clear hst hkl hs1
      go_wp2_with (go_at_call 25; refine hst2.mono ?_; rintro e w2 ⟨rfl, xs, HX, R4, B4⟩)
      go_ret
      have B5 := hB.out.trans B4
      exact ⟨_, rfl, xs, HX, Kd.R_lower R4 (by omega), HB0.out.trans (B5.mono (by omega))⟩

#print axioms Open_all
end Go.Proofs.YtnhflmihjegaiaaDoor
