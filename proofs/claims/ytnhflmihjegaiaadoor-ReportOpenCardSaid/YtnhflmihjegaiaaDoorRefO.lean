/- The reference's Open: the plain law. -/
import Derived.Test.YtnhflmihjegaiaaDoorOpenB
import Derived.Test.YtnhflmihjegaiaaDoorCopy
import Derived.Lib.Hide
namespace Go.Proofs.YtnhflmihjegaiaaDoor
set_option linter.unusedSimpArgs false
set_option linter.unusedVariables false

def befN (due : Nat → Int) (i j : Nat) : Prop := due i < due j ∨ (due i = due j ∧ i < j)
def plcO (due : Nat → Int) (xs : List Nat) (i : Nat) : Nat := xs.findIdx (fun j => decide (due i < due j))
def insO (due : Nat → Int) (xs : List Nat) (i : Nat) : List Nat := (xs.take (plcO due xs i) ++ [i]) ++ xs.drop (plcO due xs i)
def refO (due : Nat → Int) (sh : Nat → Bool) : Nat → List Nat
  | 0 => []
  | k + 1 => if sh k = true then refO due sh k else insO due (refO due sh k) k
theorem plcO_le (due : Nat → Int) (xs : List Nat) (i : Nat) : plcO due xs i ≤ xs.length := List.findIdx_le_length
theorem plcO_before {due : Nat → Int} {xs : List Nat} {i t : Nat} (h : t < plcO due xs i) : due (xs[t]'(Nat.lt_of_lt_of_le h (plcO_le _ _ _))) ≤ due i := by
  have := List.not_of_lt_findIdx h
  simpa using this
theorem plcO_at {due : Nat → Int} {xs : List Nat} {i : Nat} (h : plcO due xs i < xs.length) : due i < due xs[plcO due xs i] := by
  have h2 := List.findIdx_getElem (w := h)
  have h3 : decide (due i < due xs[plcO due xs i]) = true := h2
  simpa using h3
theorem plcO_of {due : Nat → Int} {xs : List Nat} {i k : Nat} (hk : k ≤ xs.length) (h1 : ∀ t, (ht : t < k) → due (xs[t]'(by omega)) ≤ due i) (h2 : (h : k < xs.length) → due i < due xs[k]) : plcO due xs i = k := by
  rcases Nat.lt_trichotomy (plcO due xs i) k with h | h | h
  · have h3 := plcO_at (due := due) (xs := xs) (i := i) (by omega)
    have := h1 _ h
    omega
  · exact h
  · have hl := plcO_le due xs i
    have h3 := plcO_before h
    have := h2 (by omega)
    omega
theorem insO_len (due : Nat → Int) (xs : List Nat) (i : Nat) : (insO due xs i).length = xs.length + 1 := by
  have := plcO_le due xs i
  unfold insO
  simp only [List.length_append, List.length_take, List.length_drop, List.length_singleton]
  omega
theorem refO_len (due : Nat → Int) (sh : Nat → Bool) : ∀ k, (refO due sh k).length ≤ k
  | 0 => Nat.le_refl _
  | k + 1 => by
    have := refO_len due sh k
    unfold refO
    split
    · omega
    · rw [insO_len]; omega
theorem insO_mem (due : Nat → Int) (xs : List Nat) (i j : Nat) : j ∈ insO due xs i ↔ j = i ∨ j ∈ xs := by
  unfold insO
  constructor
  · intro h
    rcases List.mem_append.1 h with h | h
    · rcases List.mem_append.1 h with h | h
      · exact .inr (List.mem_of_mem_take h)
      · exact .inl (List.mem_singleton.1 h)
    · exact .inr (List.mem_of_mem_drop h)
  · intro h
    rcases h with h | h
    · subst h; simp
    · have h2 : j ∈ xs.take (plcO due xs i) ++ xs.drop (plcO due xs i) := by rw [List.take_append_drop]; exact h
      rcases List.mem_append.1 h2 with h | h
      · exact List.mem_append_left _ (List.mem_append_left _ h)
      · exact List.mem_append_right _ h
theorem refO_good (due : Nat → Int) (sh : Nat → Bool) : ∀ k, (∀ i, i ∈ refO due sh k ↔ i < k ∧ sh i = false) ∧ (refO due sh k).Pairwise (befN due)
  | 0 => ⟨fun i => by simp [refO], List.Pairwise.nil⟩
  | k + 1 => by
    obtain ⟨h1, h2⟩ := refO_good due sh k
    unfold refO
    split
    · rename_i hs
      refine ⟨fun i => ?_, h2⟩
      rw [h1]
      constructor
      · intro ⟨a, b⟩; exact ⟨by omega, b⟩
      · intro ⟨a, b⟩
        refine ⟨?_, b⟩
        rcases Nat.lt_or_eq_of_le (Nat.le_of_lt_succ a) with h | h
        · exact h
        · subst h; rw [hs] at b; cases b
    · rename_i hs
      have hs2 : sh k = false := by cases h : sh k <;> simp_all
      refine ⟨fun i => ?_, ?_⟩
      · rw [insO_mem, h1]
        constructor
        · rintro (a | ⟨a, b⟩)
          · subst a; exact ⟨by omega, hs2⟩
          · exact ⟨by omega, b⟩
        · intro ⟨a, b⟩
          by_cases e : i = k
          · exact .inl e
          · exact .inr ⟨by omega, b⟩
      · have hle := plcO_le due (refO due sh k) k
        have ha : ∀ a ∈ (refO due sh k).take (plcO due (refO due sh k) k), befN due a k := fun a ha => by
          have hm := (h1 a).1 (List.mem_of_mem_take ha)
          obtain ⟨t, ht, rfl⟩ := List.mem_iff_getElem.1 ha
          rw [List.length_take] at ht
          rw [List.getElem_take] at hm ⊢
          have := plcO_before (due := due) (xs := refO due sh k) (i := k) (t := t) (by omega)
          unfold befN
          omega
        have hb : ∀ a ∈ (refO due sh k).drop (plcO due (refO due sh k) k), befN due k a := fun a ha => by
          obtain ⟨t, ht, rfl⟩ := List.mem_iff_getElem.1 ha
          rw [List.length_drop] at ht
          have h3 := plcO_at (due := due) (xs := refO due sh k) (i := k) (by omega)
          rw [List.getElem_drop]
          rcases Nat.eq_zero_or_pos t with h | h
          · subst h; exact .inl h3
          · have := List.pairwise_iff_getElem.1 h2 (plcO due (refO due sh k) k) (plcO due (refO due sh k) k + t) (by omega) (by omega) (by omega)
            unfold befN at this
            exact .inl (by omega)
        unfold insO
        rw [List.append_assoc, List.singleton_append, List.pairwise_append, List.pairwise_cons]
        refine ⟨h2.sublist (List.take_sublist _ _), ⟨hb, h2.sublist (List.drop_sublist _ _)⟩, fun a h b hb2 => ?_⟩
        rcases List.mem_cons.1 hb2 with e | e
        · rw [e]; exact ha a h
        · have x1 := ha a h
          have x2 := hb b e
          unfold befN at *
          omega
theorem befN_unique (due : Nat → Int) : ∀ (a b : List Nat), (∀ i, i ∈ a ↔ i ∈ b) → a.Pairwise (befN due) → b.Pairwise (befN due) → a = b
  | [], [], _, _, _ => rfl
  | [], y :: b, h, _, _ => absurd ((h y).2 List.mem_cons_self) (by simp)
  | x :: a, [], h, _, _ => absurd ((h x).1 List.mem_cons_self) (by simp)
  | x :: a, y :: b, h, ha, hb => by
    rw [List.pairwise_cons] at ha hb
    have hxy : x = y := by
      rcases List.mem_cons.1 ((h x).1 List.mem_cons_self) with e | e
      · exact e
      · rcases List.mem_cons.1 ((h y).2 List.mem_cons_self) with e2 | e2
        · exact e2.symm
        · have x1 := hb.1 x e
          have x2 := ha.1 y e2
          unfold befN at x1 x2
          omega
    subst hxy
    rw [befN_unique due a b (fun i => ?_) ha.2 hb.2]
    constructor
    · intro hi
      rcases List.mem_cons.1 ((h i).1 (List.mem_cons_of_mem _ hi)) with e | e
      · subst e
        have := ha.1 i hi
        unfold befN at this
        omega
      · exact e
    · intro hi
      rcases List.mem_cons.1 ((h i).2 (List.mem_cons_of_mem _ hi)) with e | e
      · subst e
        have := hb.1 i hi
        unfold befN at this
        omega
      · exact e
#print axioms refO_good
#print axioms befN_unique
end Go.Proofs.YtnhflmihjegaiaaDoor

namespace Go.Proofs.YtnhflmihjegaiaaDoor
open Go.RowKit Go.Shelf Go.Proofs.YtnhflmihjegaiaaDoorW.PrintWords P
set_option linter.unusedSimpArgs false
set_option linter.unusedVariables false

def dueR (l : List S117) (i : Nat) : Int := (rd_T117 l (i : Int)).f0.f10
def shR (l : List S117) (i : Nat) : Bool := (rd_T117 l (i : Int)).f1
structure OKI (w wr : World) (cells : Array Value) (v : Value) (xs : List Nat) : Prop where
  st : wr.heap[w.heap.size]? = some (.cells cells 38 (0, 0))
  rr : Kd.R (Kd.int .i64) 3 wr (w.heap.size + 1) (fun _ => True) v (ints xs)
  bl : Below w.heap.size w wr
theorem OKI.lt {w wr : World} {cells : Array Value} {v : Value} {xs : List Nat} (h : OKI w wr cells v xs) : w.heap.size + 1 ≤ wr.heap.size := by
  have := h.st
  rw [Array.getElem?_eq_some_iff] at this
  obtain ⟨h, _⟩ := this
  omega
theorem OKI.below {w wr w1 : World} {cells : Array Value} {v : Value} {xs : List Nat} (h : OKI w wr cells v xs) (B : Below wr.heap.size wr w1) : OKI w w1 cells v xs := ⟨blk_below h.st B, Kd.R_below h.rr B, h.bl.trans (B.mono h.bl.size)⟩
theorem OKI.next {w wr w1 : World} {cells : Array Value} {v : Value} {xs : List Nat} (h : OKI w wr cells v xs) (B : Below wr.heap.size wr w1) {b : Nat} {v' : Value} {xs' : List Nat} (hR : Kd.R (Kd.int .i64) 3 w1 b (fun _ => True) v' (ints xs')) (hb : wr.heap.size ≤ b) : OKI w w1 cells v' xs' :=
  ⟨blk_below h.st B, Kd.R_lower hR (by have := h.lt; omega), h.bl.trans (B.mono h.bl.size)⟩
theorem OKI.start (w : World) (cells : Array Value) : OKI w (w.alloc (.cells cells 38)) cells (.slice none 0 0) [] := ⟨blk_new _ _, Kd.R_nil _ _ _ _ _, (Below.refl w.heap.size w).alloc (Nat.le_refl _) _⟩
theorem ints_take (xs : List Nat) (k : Nat) : (ints xs).take k = ints (xs.take k) := by simp [ints, List.map_take]
theorem ints_drop (xs : List Nat) (k : Nat) : (ints xs).drop k = ints (xs.drop k) := by simp [ints, List.map_drop]
theorem rd_ints (xs : List Nat) (j : Nat) (h : j < xs.length) : rd (ints xs) (j : Int) = ((xs[j] : Nat) : Int) := by
  unfold rd ints
  rw [Int.toNat_natCast, List.getD_eq_getElem?_getD, List.getElem?_map, List.getElem?_eq_getElem h]
  rfl

set_option maxRecDepth 100000 in
set_option maxHeartbeats 8000000 in
theorem refOpen_any (w : World) (a0 a6 a7 : Int) (A1 A2 A3 A4 A5 A8 A9 : Option Addr) (n1 n2 n3 n4 n8 n9 c1 c2 c3 c4 c5 c8 c9 : Nat) (l : List S117) (hC : Kd.C k117 w A5 l.length l) (hc : l.length ≤ c5) (hl : l.length ≤ 100000) :
    Calls Tryd.prog 22 #[.agg #[.int .i64 a0, .slice A1 n1 c1, .slice A2 n2 c2, .slice A3 n3 c3, .slice A4 n4 c4, .slice A5 l.length c5, .int .i64 a6, .int .i64 a7, .slice A8 n8 c8, .slice A9 n9 c9]] w fun e w' => ∃ v : Value, e = .returned v ∧ Kd.R (Kd.int .i64) 3 w' w.heap.size (fun _ => True) v (ints (refO (dueR l) (shR l) l.length)) ∧ Below w.heap.size w w' := by
  have hu38 := Tryd.underlying38
  have hu117 := Tryd.underlying117
  have hu114 := Tryd.underlying114
  have HS := Lib.hid (OKI.start w #[.int .i64 a0, .slice A1 n1 c1, .slice A2 n2 c2, .slice A3 n3 c3, .slice A4 n4 c4, .slice A5 l.length c5, .int .i64 a6, .int .i64 a7, .slice A8 n8 c8, .slice A9 n9 c9])
  obtain ⟨i0, hi0, _, hsz0, _⟩ := info_parts info3
  have HGood := Lib.hid (fun k => refO_good (dueR l) (shR l) k)
  go_enter Tryd.func22, Tryd.ntmps22
  go_wp2_with fail
  generalize (w.alloc (.cells #[.int .i64 a0, .slice A1 n1 c1, .slice A2 n2 c2, .slice A3 n3 c3, .slice A4 n4 c4, .slice A5 l.length c5, .int .i64 a6, .int .i64 a7, .slice A8 n8 c8, .slice A9 n9 c9] 38)) = w0 at *
  have HC := Lib.hid hC
  clear hC
  go_loopw [3, 4] (fun v i wr => ∃ k : Nat, k ≤ l.length ∧ i = .int .i64 k ∧ Hid (OKI w wr #[.int .i64 a0, .slice A1 n1 c1, .slice A2 n2 c2, .slice A3 n3 c3, .slice A4 n4 c4, .slice A5 l.length c5, .int .i64 a6, .int .i64 a7, .slice A8 n8 c8, .slice A9 n9 c9] v (refO (dueR l) (shR l) k))) (fun _ i _ => l.length - (intOf i).toNat)
  case atStart => exact ⟨0, Nat.zero_le _, rfl, HS⟩
  case round =>
    clear HS
    obtain ⟨k, hk, rfl, S⟩ := hrel
    have z5 : wr.cell? ⟨w.heap.size, 5, none⟩ = some (.slice A5 l.length c5) := blk_cell S.out.st 5
    by_cases hlt : k < l.length
    · obtain ⟨ad, e0, _, _, _, _, _, _, _, _, _, _, hd, hsh⟩ := at_T117 (Kd.C_below HC.out S.out.bl) (k : Int) (by omega) (by omega)
      subst e0
      rw [Int.toNat_natCast] at hd hsh
      have hdk := Lib.hid (show (rd_T117 l (k : Int)).f0.f10 = dueR l k from rfl)
      have hsk := Lib.hid (show (rd_T117 l (k : Int)).f1 = shR l k from rfl)
      rw [hdk.out] at hd
      rw [hsk.out] at hsh
      clear hdk hsk
      have hln := refO_len (dueR l) (shR l) k
      have hmem := Lib.hid (fun i => (HGood.out k).1 i)
      have hsc := Lib.hid (show refO (dueR l) (shR l) (k + 1) = if shR l k = true then refO (dueR l) (shR l) k else insO (dueR l) (refO (dueR l) (shR l) k) k from by rw [refO])
      generalize refO (dueR l) (shR l) k = xs at *
      cases hs : shR l k with
      | true =>
        rw [hs] at hsh
        have HSC := Lib.hid (show refO (dueR l) (shR l) (k + 1) = xs by rw [hsc.out, hs]; rfl)
        clear hs
        go_wp2_with fail
        go_roundw
        case rel => exact ⟨k + 1, by omega, by go_num, by rw [HSC.out]; exact S⟩
        case measure => simp [intOf]; omega
      | false =>
        rw [hs] at hsh
        have HSC := Lib.hid (show refO (dueR l) (shR l) (k + 1) = insO (dueR l) xs k by rw [hsc.out, hs]; rfl)
        clear hs hsc
        obtain ⟨A, c, e1, hle, HC1⟩ := Kd.R_reads S.out.rr
        rw [ints_length] at e1 hle HC1
        subst e1
        have HCO := Lib.hid HC1
        clear HC1
        go_wp2_with fail
        go_loopw [5] (fun vj w1 => ∃ j : Nat, vj = .int .i64 j ∧ j ≤ xs.length ∧ Hid (∀ t, (ht : t < j) → (h : t < xs.length) → dueR l xs[t] ≤ dueR l k) ∧ Hid (Below wr.heap.size wr w1)) (fun vj _ => xs.length - (intOf vj).toNat)
        case atStart => exact ⟨0, rfl, Nat.zero_le _, Lib.hid (fun t ht => by omega), Lib.hid (Below.refl _ _)⟩
        case round =>
          obtain ⟨j, rfl, hj, HBF, BJ⟩ := hrel
          by_cases hjl : j < xs.length
          · have hxm := (hmem.out xs[j]).1 (List.getElem_mem hjl)
            have hel : xs[j] < l.length := by omega
            obtain ⟨ad3, e3, hx⟩ := Kd.at_int (Kd.C_below HCO.out BJ.out) (j : Int) (by omega) (by omega)
            subst e3
            rw [Int.toNat_natCast] at hx
            obtain ⟨ad2, e2, _, _, _, _, _, _, _, _, _, _, hd2, _⟩ := at_T117 (Kd.C_below HC.out (S.out.bl.trans (BJ.out.mono S.out.bl.size))) ((xs[j] : Nat) : Int) (by omega) (by omega)
            injection e2 with e2
            subst e2
            rw [Int.toNat_natCast] at hd2
            have hre := Lib.hid (rd_ints xs j hjl)
            rw [hre.out] at hx
            clear hre
            have hd1 := (BJ.out.cell (World.block_lt_of_cell? _ _ hd)).trans hd
            have z51 := (BJ.out.cell (World.block_lt_of_cell? _ _ z5)).trans z5
            have hde := Lib.hid (show (rd_T117 l ((xs[j] : Nat) : Int)).f0.f10 = dueR l xs[j] from rfl)
            rw [hde.out] at hd2
            clear hde
            have HXJ := Lib.hid (show ∀ h, xs[j]'h = xs[j] from fun h => rfl)
            obtain ⟨e, he⟩ : ∃ e, e = xs[j] := ⟨_, rfl⟩
            rw [← he] at hx hd2 hel
            have HE := Lib.hid he
            clear he hxm HXJ
            by_cases hle2 : dueR l e ≤ dueR l k
            · have HB2 := Lib.hid (show ∀ t, (ht : t < j + 1) → (h : t < xs.length) → dueR l xs[t] ≤ dueR l k from fun t ht h => by
                by_cases c : t = j
                · subst c; rw [← HE.out]; exact hle2
                · exact HBF.out t (by omega) h)
              have hq1 : (j : Int) < (xs.length : Int) := by omega
              have hq2 : decide ((j : Int) < (xs.length : Int)) = true := decide_eq_true hq1
              have hq3 : (0 : Int) ≤ (e : Int) := by omega
              have hq4 : (e : Int) < (l.length : Int) := by omega
              have hq5 : decide (dueR l e ≤ dueR l k) = true := decide_eq_true hle2
              clear HE HBF
              go_wp2_with fail
              go_quiet (fail)
              have Mq := Lib.hid (pw_below_drewN BJ.out nq)
              clear BJ
              generalize wr.drewN nq = wk at *
              go_wp2_with fail
              go_roundw
              case rel => exact ⟨j + 1, by go_num, by omega, HB2, Mq⟩
              case measure => simp [intOf]; omega
            · have HPL := Lib.hid (plcO_of (due := dueR l) (xs := xs) (i := k) (k := j) hj (fun t ht => HBF.out t ht (by omega)) (fun h => by rw [← HE.out]; omega))
              have hq1 : (j : Int) < (xs.length : Int) := by omega
              have hq2 : decide ((j : Int) < (xs.length : Int)) = true := decide_eq_true hq1
              have hq3 : (0 : Int) ≤ (e : Int) := by omega
              have hq4 : (e : Int) < (l.length : Int) := by omega
              have hq5 : decide (dueR l e ≤ dueR l k) = false := decide_eq_false hle2
              clear HE
              go_wp2_with fail
              go_quiet (fail)
              have Mq := Lib.hid (pw_below_drewN BJ.out nq)
              have hnew := Lib.hid (show insO (dueR l) xs k = (xs.take j ++ [k]) ++ xs.drop j by unfold insO; rw [HPL.out])
              clear HBF BJ HPL
              generalize wr.drewN nq = wk at *
              have hsk2 := Mq.out.size
              have HCk := Lib.hid (show Kd.C (Kd.int .i64) wk (some ad3) (ints xs).length (ints xs) by rw [ints_length]; exact Kd.C_below HCO.out Mq.out)
              have hcut1 := cut_to (P := Tryd.prog) 51 3 .i64 Tryd.underlying51 hi0 (some ad3) xs.length c ((j : Nat) : Int) (by omega) (by omega) hle
              have hcut2 := cut_from (P := Tryd.prog) 51 3 .i64 Tryd.underlying51 hi0 1 hsz0 (some ad3) xs.length c ((j : Nat) : Int) (by omega) (by omega)
              rw [Int.toNat_natCast] at hcut1 hcut2
              obtain ⟨A9', hA9⟩ : ∃ A9', A9' = (if c = j then (some ad3) else (some ad3 : Option Addr).map (·.add (j * 1))) := ⟨_, rfl⟩
              rw [← hA9] at hcut2
              have hA9H := Lib.hid hA9
              clear hA9
              go_wp2_with (first
                | ((with_reducible refine gate_dst (N := 46) rfl ?_); refine Kd.R_lit (Kd.int .i64) (w0 := wk) wk.heap.size 3 ?hg (N := 46) ?hd (xs := ([] : List Int)) (inner := []) (ok := fun _ => True) (okp := fun _ => True) ?hr ?hp (fun _ hk => hk) trivial (Below.refl _ _) (Nat.le_refl _) (by simp) ?_; (case hd => rfl); (case hg => rfl); (case hr => first | (go_simp; done) | (go_simp; rfl)); (case hp => exact (Reps.none _ _)); intro v9 w9 R9 B9 hg9_ hn9_; clear hg9_ hn9_; have HR9 := Lib.hid R9; have HB9 := Lib.hid B9; clear R9 B9)
                | ((with_reducible refine gate_builtin (b := .append) (xs := #[.tmp 46, .tmp 49]) rfl ?_); at_builtin; refine hold ?_))
              refine Lib.hid ?_
              have hC9 := Kd.C_take (m := j) (Kd.C_below HCk.out HB9.out) (by rw [ints_length]; omega)
              rw [ints_take] at hC9
              have hlt9 : (ints (xs.take j)).length = j := by rw [ints_length, List.length_take]; omega
              replace hC9 : Kd.C (Kd.int .i64) w9 (some ad3) (ints (xs.take j)).length (ints (xs.take j)) := hC9
              refine Kd.R_append_rows (Kd.int .i64) (Rr := (Kd.int .i64).K w9) (w0 := wk) wk.heap.size rfl (.tmp 46) (.tmp 49) 51 3 (.int .i64 0) 8 rfl Tryd.underlying51 info3 rfl (by decide) (by omega) v9 [] (ints (xs.take j)) (some ad3) (ints (xs.take j)).length c (fun _ => True) (fun _ => False) rfl (by rw [hlt9]; rfl) HR9.out hC9 (fun _ _ h => h) (fun _ hk => hk.elim) (fun _ _ => trivial) HB9.out HB9.out.size (by simp only [List.length_nil]; omega) ?_
              intro v10 w10 R10 B10 hg_ ha_
              clear hg_ ha_ hC9 HR9 HB9
              rw [List.nil_append] at R10
              have HR10 := Lib.hid R10
              have HB10 := Lib.hid B10
              clear R10 B10
              go_wp2_with ((with_reducible refine gate_builtin (b := .append) (xs := #[.tmp 51, .tmp 53]) rfl ?_); at_builtin; refine hold ?_)
              refine Lib.hid ?_
              refine Kd.R_append (Kd.int .i64) (w0 := wk) wk.heap.size rfl (.tmp 51) (.tmp 53) 51 3 (.int .i64 0) 8 rfl Tryd.underlying51 info3 rfl (by decide) (by omega) v10 (ints (xs.take j)) (k : Int) [.int .i64 (k : Int)] (fun _ => True) (fun _ => False) rfl rfl rfl (fun _ hk => hk.elim) (fun _ _ => trivial) HR10.out HB10.out HB10.out.size (by rw [hlt9]; omega) ?_
              intro v11 w11 R11 B11 hg_ ha_
              clear hg_ ha_ HR10 HB10
              have HR11 := Lib.hid R11
              have HB11 := Lib.hid B11
              clear R11 B11
              go_wp2_with ((with_reducible refine gate_builtin (b := .append) (xs := #[.tmp 55, .tmp 58]) rfl ?_); at_builtin; refine hold ?_)
              refine Lib.hid ?_
              have hC11 := Kd.C_drop (c := c) (m := j) (Kd.C_below HCk.out HB11.out) (by rw [ints_length]; omega) (by rw [ints_length]; exact hle)
              rw [ints_drop] at hC11
              have hlt11 : (ints (xs.drop j)).length = xs.length - j := by rw [ints_length, List.length_drop]
              replace hC11 : Kd.C (Kd.int .i64) w11 (if c = j then (some ad3) else (some ad3 : Option Addr).map (·.add (j * 1))) (ints (xs.drop j)).length (ints (xs.drop j)) := hC11
              rw [← hA9H.out] at hC11
              refine Kd.R_append_rows (Kd.int .i64) (Rr := (Kd.int .i64).K w11) (w0 := wk) wk.heap.size rfl (.tmp 55) (.tmp 58) 51 3 (.int .i64 0) 8 rfl Tryd.underlying51 info3 rfl (by decide) (by omega) v11 (ints (xs.take j) ++ [(k : Int)]) (ints (xs.drop j)) A9' (ints (xs.drop j)).length (c - j) (fun _ => True) (fun _ => False) rfl (by rw [hlt11]; rfl) HR11.out hC11 (fun _ _ h => h) (fun _ hk => hk.elim) (fun _ _ => trivial) HB11.out HB11.out.size (by rw [List.length_append, hlt9, List.length_singleton]; omega) ?_
              intro v12 w12 R12 B12 hg_ ha_
              clear hg_ ha_ hC11 HR11 HB11
              have HI := Lib.hid (OKI.next S.out (Mq.out.trans (B12.mono hsk2)) (b := wk.heap.size) (v' := v12) (xs' := insO (dueR l) xs k) (by rw [hnew.out]; have := R12; simpa [ints, List.append_assoc] using this) hsk2)
              clear R12 B12 hcut1 hcut2
              go_wp2_with fail
              go_roundw
              case rel => exact ⟨k + 1, by omega, by go_num, by rw [HSC.out]; exact HI⟩
              case measure => simp [intOf]; omega
          · have hje : j = xs.length := by omega
            have HPL := Lib.hid (plcO_of (due := dueR l) (xs := xs) (i := k) (k := j) hj (fun t ht => HBF.out t ht (by omega)) (fun h => by omega))
            have hq1 : ¬ (j : Int) < (xs.length : Int) := by omega
            have hq2 : decide ((j : Int) < (xs.length : Int)) = false := decide_eq_false hq1
            clear hje
            go_wp2_with fail
            go_quiet (fail)
            have Mq := Lib.hid (pw_below_drewN BJ.out nq)
            have hnew := Lib.hid (show insO (dueR l) xs k = (xs.take j ++ [k]) ++ xs.drop j by unfold insO; rw [HPL.out])
            clear HBF BJ HPL
            generalize wr.drewN nq = wk at *
            have hsk2 := Mq.out.size
            have HCk := Lib.hid (show Kd.C (Kd.int .i64) wk A (ints xs).length (ints xs) by rw [ints_length]; exact Kd.C_below HCO.out Mq.out)
            have hcut1 := cut_to (P := Tryd.prog) 51 3 .i64 Tryd.underlying51 hi0 A xs.length c ((j : Nat) : Int) (by omega) (by omega) hle
            have hcut2 := cut_from (P := Tryd.prog) 51 3 .i64 Tryd.underlying51 hi0 1 hsz0 A xs.length c ((j : Nat) : Int) (by omega) (by omega)
            rw [Int.toNat_natCast] at hcut1 hcut2
            obtain ⟨A9', hA9⟩ : ∃ A9', A9' = (if c = j then A else (A).map (·.add (j * 1))) := ⟨_, rfl⟩
            rw [← hA9] at hcut2
            have hA9H := Lib.hid hA9
            clear hA9
            go_wp2_with (first
              | ((with_reducible refine gate_dst (N := 46) rfl ?_); refine Kd.R_lit (Kd.int .i64) (w0 := wk) wk.heap.size 3 ?hg (N := 46) ?hd (xs := ([] : List Int)) (inner := []) (ok := fun _ => True) (okp := fun _ => True) ?hr ?hp (fun _ hk => hk) trivial (Below.refl _ _) (Nat.le_refl _) (by simp) ?_; (case hd => rfl); (case hg => rfl); (case hr => first | (go_simp; done) | (go_simp; rfl)); (case hp => exact (Reps.none _ _)); intro v9 w9 R9 B9 hg9_ hn9_; clear hg9_ hn9_; have HR9 := Lib.hid R9; have HB9 := Lib.hid B9; clear R9 B9)
              | ((with_reducible refine gate_builtin (b := .append) (xs := #[.tmp 46, .tmp 49]) rfl ?_); at_builtin; refine hold ?_))
            refine Lib.hid ?_
            have hC9 := Kd.C_take (m := j) (Kd.C_below HCk.out HB9.out) (by rw [ints_length]; omega)
            rw [ints_take] at hC9
            have hlt9 : (ints (xs.take j)).length = j := by rw [ints_length, List.length_take]; omega
            replace hC9 : Kd.C (Kd.int .i64) w9 A (ints (xs.take j)).length (ints (xs.take j)) := hC9
            refine Kd.R_append_rows (Kd.int .i64) (Rr := (Kd.int .i64).K w9) (w0 := wk) wk.heap.size rfl (.tmp 46) (.tmp 49) 51 3 (.int .i64 0) 8 rfl Tryd.underlying51 info3 rfl (by decide) (by omega) v9 [] (ints (xs.take j)) A (ints (xs.take j)).length c (fun _ => True) (fun _ => False) rfl (by rw [hlt9]; rfl) HR9.out hC9 (fun _ _ h => h) (fun _ hk => hk.elim) (fun _ _ => trivial) HB9.out HB9.out.size (by simp only [List.length_nil]; omega) ?_
            intro v10 w10 R10 B10 hg_ ha_
            clear hg_ ha_ hC9 HR9 HB9
            rw [List.nil_append] at R10
            have HR10 := Lib.hid R10
            have HB10 := Lib.hid B10
            clear R10 B10
            go_wp2_with ((with_reducible refine gate_builtin (b := .append) (xs := #[.tmp 51, .tmp 53]) rfl ?_); at_builtin; refine hold ?_)
            refine Lib.hid ?_
            refine Kd.R_append (Kd.int .i64) (w0 := wk) wk.heap.size rfl (.tmp 51) (.tmp 53) 51 3 (.int .i64 0) 8 rfl Tryd.underlying51 info3 rfl (by decide) (by omega) v10 (ints (xs.take j)) (k : Int) [.int .i64 (k : Int)] (fun _ => True) (fun _ => False) rfl rfl rfl (fun _ hk => hk.elim) (fun _ _ => trivial) HR10.out HB10.out HB10.out.size (by rw [hlt9]; omega) ?_
            intro v11 w11 R11 B11 hg_ ha_
            clear hg_ ha_ HR10 HB10
            have HR11 := Lib.hid R11
            have HB11 := Lib.hid B11
            clear R11 B11
            go_wp2_with ((with_reducible refine gate_builtin (b := .append) (xs := #[.tmp 55, .tmp 58]) rfl ?_); at_builtin; refine hold ?_)
            refine Lib.hid ?_
            have hC11 := Kd.C_drop (c := c) (m := j) (Kd.C_below HCk.out HB11.out) (by rw [ints_length]; omega) (by rw [ints_length]; exact hle)
            rw [ints_drop] at hC11
            have hlt11 : (ints (xs.drop j)).length = xs.length - j := by rw [ints_length, List.length_drop]
            replace hC11 : Kd.C (Kd.int .i64) w11 (if c = j then A else (A).map (·.add (j * 1))) (ints (xs.drop j)).length (ints (xs.drop j)) := hC11
            rw [← hA9H.out] at hC11
            refine Kd.R_append_rows (Kd.int .i64) (Rr := (Kd.int .i64).K w11) (w0 := wk) wk.heap.size rfl (.tmp 55) (.tmp 58) 51 3 (.int .i64 0) 8 rfl Tryd.underlying51 info3 rfl (by decide) (by omega) v11 (ints (xs.take j) ++ [(k : Int)]) (ints (xs.drop j)) A9' (ints (xs.drop j)).length (c - j) (fun _ => True) (fun _ => False) rfl (by rw [hlt11]; rfl) HR11.out hC11 (fun _ _ h => h) (fun _ hk => hk.elim) (fun _ _ => trivial) HB11.out HB11.out.size (by rw [List.length_append, hlt9, List.length_singleton]; omega) ?_
            intro v12 w12 R12 B12 hg_ ha_
            clear hg_ ha_ hC11 HR11 HB11
            have HI := Lib.hid (OKI.next S.out (Mq.out.trans (B12.mono hsk2)) (b := wk.heap.size) (v' := v12) (xs' := insO (dueR l) xs k) (by rw [hnew.out]; have := R12; simpa [ints, List.append_assoc] using this) hsk2)
            clear R12 B12 hcut1 hcut2
            go_wp2_with fail
            go_roundw
            case rel => exact ⟨k + 1, by omega, by go_num, by rw [HSC.out]; exact HI⟩
            case measure => simp [intOf]; omega
    · have hkl : k = l.length := by omega
      subst hkl
      go_wp2_with fail
      go_ret
      exact ⟨_, rfl, Kd.R_lower S.out.rr (by omega), S.out.bl⟩
#print axioms refOpen_any
end Go.Proofs.YtnhflmihjegaiaaDoor
