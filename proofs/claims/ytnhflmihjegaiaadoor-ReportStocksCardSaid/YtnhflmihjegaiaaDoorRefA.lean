/- ReportStocks: the reference's rows are the sorted tallies (the plain law). -/
import Derived.Test.YtnhflmihjegaiaaDoorSumA
import Derived.Test.YtnhflmihjegaiaaDoorSumR
import Derived.Test.YtnhflmihjegaiaaDoorStockI
import Derived.Test.YtnhflmihjegaiaaDoorPxOf
import Derived.Test.YtnhflmihjegaiaaDoorAwkB
import Derived.Deep.AppendLies
namespace Go.Proofs.YtnhflmihjegaiaaDoor
open Go Go.RowKit Go.Proofs.YtnhflmihjegaiaaDoorW.PrintWords P
set_option linter.unusedSimpArgs false
set_option linter.unusedVariables false

def befB (a b : S42) : Bool := if a.f0 = b.f0 then (if a.f1 = b.f1 then decide (a.f2 < b.f2) else decide (a.f1 < b.f1)) else decide (a.f0 < b.f0)
theorem befB_iff (a b : S42) : befB a b = true ↔ ltT a b := by
  unfold befB ltT
  split
  · split
    · rw [decide_eq_true_eq]; omega
    · rw [decide_eq_true_eq]; omega
  · rw [decide_eq_true_eq]; omega
theorem befB_false (a b : S42) : befB a b = false ↔ ¬ ltT a b := by
  rw [← befB_iff]; simp
theorem ltT_trans {a b c : S42} (h1 : ltT a b) (h2 : ltT b c) : ltT a c := by unfold ltT at *; omega
theorem ltT_tri {a b : S42} (h1 : ¬ ltT a b) (h2 : ¬ ltT b a) : keyOf a = keyOf b := by
  unfold ltT at *
  unfold keyOf
  have : a.f0 = b.f0 := by omega
  have : a.f1 = b.f1 := by omega
  have : a.f2 = b.f2 := by omega
  simp_all
theorem ltT_irr {a b : S42} (h : ltT a b) : keyOf a ≠ keyOf b := by
  unfold keyOf
  intro e
  simp only [Prod.mk.injEq] at e
  unfold ltT at h
  omega
theorem sorted_unique : ∀ (a b : List S42), a.Perm b → a.Pairwise (fun x y => ¬ ltT y x) → b.Pairwise ltT → a = b
  | a, [], hp, _, _ => List.perm_nil.1 hp
  | [], y :: b, hp, _, _ => absurd hp.length_eq (by simp)
  | x :: a, y :: b, hp, ha, hb => by
    rw [List.pairwise_cons] at ha hb
    by_cases e : x = y
    · subst e
      rw [sorted_unique a b ((List.perm_cons x).1 hp) ha.2 hb.2]
    · have h1 : x ∈ b := by
        have := hp.mem_iff.1 (List.mem_cons_self (a := x) (l := a))
        rcases List.mem_cons.1 this with h | h
        · exact absurd h e
        · exact h
      have h2 : y ∈ a := by
        have := hp.mem_iff.2 (List.mem_cons_self (a := y) (l := b))
        rcases List.mem_cons.1 this with h | h
        · exact absurd h.symm e
        · exact h
      exact absurd (hb.1 x h1) (ha.1 y h2)

/-- The place of a row. -/
def plc (out : List S42) (x : S42) : Nat := out.findIdx (fun y => !befB y x)
def insR (out : List S42) (x : S42) : List S42 :=
  if plc out x < out.length ∧ befB x (out.getD (plc out x) z42) = false then out.set (plc out x) (bump (out.getD (plc out x) z42) x.f4)
  else (out.take (plc out x) ++ [x]) ++ out.drop (plc out x)
theorem plc_le (out : List S42) (x : S42) : plc out x ≤ out.length := List.findIdx_le_length
theorem plc_before {out : List S42} {x : S42} {j : Nat} (h : j < plc out x) : befB (out[j]'(Nat.lt_of_lt_of_le h (plc_le _ _))) x = true := by
  have := List.not_of_lt_findIdx h
  simpa using this
theorem plc_at {out : List S42} {x : S42} (h : plc out x < out.length) : befB out[plc out x] x = false := by
  have h2 := List.findIdx_getElem (w := h)
  have h3 : (!befB out[plc out x] x) = true := h2
  simpa using h3
/-- The walk's way to it. -/
theorem plc_of {out : List S42} {x : S42} {k : Nat} (hk : k ≤ out.length) (h1 : ∀ j, (hj : j < k) → befB (out[j]'(by omega)) x = true) (h2 : (h : k < out.length) → befB out[k] x = false) : plc out x = k := by
  rcases Nat.lt_trichotomy (plc out x) k with h | h | h
  · have h3 := plc_at (out := out) (x := x) (by omega)
    rw [h1 _ h] at h3
    cases h3
  · exact h
  · have hl := plc_le out x
    have h3 := plc_before h
    rw [h2 (by omega)] at h3
    cases h3
theorem getD_at {l : List S42} {i : Nat} (h : i < l.length) : l.getD i z42 = l[i] := by simp [List.getD_eq_getElem?_getD, List.getElem?_eq_getElem h]

theorem pw_keys {l l' : List S42} (h : l.map keyOf = l'.map keyOf) (hs : l.Pairwise ltT) : l'.Pairwise ltT := by
  have e : ∀ m : List S42, m.Pairwise ltT ↔ (m.map keyOf).Pairwise (fun a b => a.1 < b.1 ∨ (a.1 = b.1 ∧ (a.2.1 < b.2.1 ∨ (a.2.1 = b.2.1 ∧ a.2.2 < b.2.2)))) := fun m => by
    rw [List.pairwise_map]
    rfl
  rw [e] at hs ⊢
  rw [← h]
  exact hs
theorem key_inj : ∀ {xs : List S42}, (xs.map keyOf).Nodup → ∀ {a b : S42}, a ∈ xs → b ∈ xs → keyOf a = keyOf b → a = b
  | [], _, a, b, h, _, _ => by cases h
  | x :: xs, hd, a, b, ha, hb, e => by
    rw [List.map_cons, List.nodup_cons] at hd
    rcases List.mem_cons.1 ha with h1 | h1
    · rcases List.mem_cons.1 hb with h2 | h2
      · rw [h1, h2]
      · subst h1
        exact absurd (List.mem_map.2 ⟨b, h2, e.symm⟩) hd.1
    · rcases List.mem_cons.1 hb with h2 | h2
      · subst h2
        exact absurd (List.mem_map.2 ⟨a, h1, e⟩) hd.1
      · exact key_inj hd.2 h1 h2 e

theorem insR_step {xs out : List S42} (hp : out.Perm xs) (hd : (xs.map keyOf).Nodup) (hs : out.Pairwise ltT) {x x1 : S42} {v : Int} (hk : keyOf x1 = keyOf x) (hb : bump x v = x1) (hv : x1.f4 = v) :
    (insR out x1).Perm (tallyP xs x v) ∧ (insR out x1).Pairwise ltT := by
  unfold insR
  by_cases hc : plc out x1 < out.length ∧ befB x1 (out.getD (plc out x1) z42) = false
  · rw [if_pos hc]
    obtain ⟨hl, hc2⟩ := hc
    have ha := plc_at hl
    rw [getD_at hl] at hc2 ⊢
    generalize plc out x1 = k at *
    have hz : keyOf out[k] = keyOf x1 := ltT_tri ((befB_false _ _).1 ha) ((befB_false _ _).1 hc2)
    have hzx : out[k] ∈ xs := hp.mem_iff.1 (List.getElem_mem hl)
    refine ⟨?_, pw_keys (l := out) ?_ hs⟩
    · unfold tallyP
      cases hf : xs.findIdx? (sameK x) with
      | none =>
        have := List.findIdx?_eq_none_iff.1 hf _ hzx
        rw [(sameK_iff x out[k]).2 (by rw [hz, hk])] at this
        cases this
      | some i =>
        obtain ⟨hi, hsame, _⟩ := List.findIdx?_eq_some_iff_getElem.1 hf
        have e1 : xs[i] = out[k] := key_inj hd (List.getElem_mem hi) hzx (by rw [← (sameK_iff x xs[i]).1 hsame, hz, hk])
        show (out.set k (bump out[k] x1.f4)).Perm (xs.set i (bump (xs.getD i x) v))
        rw [show xs.getD i x = out[k] by simp [List.getD_eq_getElem?_getD, List.getElem?_eq_getElem hi, e1], hv]
        have p1 : (out.take k ++ out[k] :: out.drop (k + 1)).Perm (xs.take i ++ xs[i] :: xs.drop (i + 1)) := by
          rw [List.getElem_cons_drop, List.getElem_cons_drop, List.take_append_drop, List.take_append_drop]
          exact hp
        rw [e1] at p1
        have p2 := (List.perm_middle.symm.trans p1).trans List.perm_middle
        rw [List.perm_cons] at p2
        rw [List.set_eq_take_append_cons_drop, List.set_eq_take_append_cons_drop, if_pos hl, if_pos hi]
        exact (List.perm_middle.trans ((List.perm_cons _).2 p2)).trans List.perm_middle.symm
    · rw [List.map_set]
      apply List.ext_getElem?
      intro j
      rw [List.getElem?_set]
      split
      · rename_i e
        subst e
        simp [hl]
        rfl
      · rfl
  · rw [if_neg hc]
    have hle := plc_le out x1
    have h1 : ∀ a ∈ out.take (plc out x1), ltT a x1 := fun a ha => by
      obtain ⟨j, hj, rfl⟩ := List.mem_iff_getElem.1 ha
      rw [List.length_take] at hj
      rw [List.getElem_take]
      exact (befB_iff _ _).1 (plc_before (by omega))
    have h2 : ∀ a ∈ out.drop (plc out x1), ltT x1 a := fun a ha => by
      obtain ⟨j, hj, rfl⟩ := List.mem_iff_getElem.1 ha
      rw [List.length_drop] at hj
      have hl : plc out x1 < out.length := by omega
      have h3 : ltT x1 out[plc out x1] := by
        rw [← befB_iff]
        cases e : befB x1 out[plc out x1] with
        | true => rfl
        | false => exact absurd ⟨hl, by rw [getD_at hl]; exact e⟩ hc
      rw [List.getElem_drop]
      rcases Nat.eq_zero_or_pos j with h | h
      · subst h; exact h3
      · exact ltT_trans h3 (List.pairwise_iff_getElem.1 hs _ _ hl (by omega) (by omega))
    generalize plc out x1 = k at *
    have hno : xs.findIdx? (sameK x) = none := by
      rw [List.findIdx?_eq_none_iff]
      intro y hy
      cases e : sameK x y with
      | false => rfl
      | true =>
        have e2 := (sameK_iff x y).1 e
        have hy2 := hp.mem_iff.2 hy
        rw [← List.take_append_drop k out] at hy2
        rcases List.mem_append.1 hy2 with h | h
        · exact absurd (by rw [hk, e2]) (ltT_irr (h1 y h))
        · exact absurd (by rw [hk, e2]) (ltT_irr (h2 y h))
    refine ⟨?_, ?_⟩
    · unfold tallyP
      rw [hno]
      show ((out.take k ++ [x1]) ++ out.drop k).Perm (xs ++ [bump x v])
      rw [hb, List.append_assoc, List.singleton_append]
      refine (List.perm_middle.trans ?_).trans (List.perm_append_comm (l₁ := [x1]) (l₂ := xs))
      rw [List.take_append_drop]
      exact (List.perm_cons x1).2 hp
    · rw [List.append_assoc, List.singleton_append, List.pairwise_append, List.pairwise_cons]
      refine ⟨hs.sublist (List.take_sublist _ _), ⟨h2, hs.sublist (List.drop_sublist _ _)⟩, fun a ha b hb2 => ?_⟩
      rcases List.mem_cons.1 hb2 with h | h
      · rw [h]; exact h1 a ha
      · exact ltT_trans (h1 a ha) (h2 b h)

/-- The row of a single board. -/
def rowT (x : S101) : S42 := ⟨x.f0.f3, lenG x.f0.f4.f2.f0 x.f0.f4.f2.f1, x.f0.f10, 1, x.f0.f5⟩
def refK (l : List S101) (place : Int) (k : Nat) : List S42 := (l.take k).foldl (fun out x => if x.f1 = place then insR out (rowT x) else out) []
theorem refK_succ (l : List S101) (place : Int) (k : Nat) (h : k < l.length) : refK l place (k + 1) = if l[k].f1 = place then insR (refK l place k) (rowT l[k]) else refK l place k := by
  unfold refK
  rw [List.take_add_one, List.getElem?_eq_getElem h]
  simp only [Option.toList_some, List.foldl_append, List.foldl_cons, List.foldl_nil]
theorem insR_len (out : List S42) (x : S42) : (insR out x).length ≤ out.length + 1 := by
  unfold insR
  split
  · rw [List.length_set]; omega
  · simp only [List.length_append, List.length_take, List.length_drop, List.length_singleton]
    omega
theorem refK_len (l : List S101) (place : Int) : ∀ k, k ≤ l.length → (refK l place k).length ≤ k
  | 0, _ => by simp [refK]
  | k + 1, h => by
    have := refK_len l place k (by omega)
    rw [refK_succ l place k (by omega)]
    have h2 := insR_len (refK l place k) (rowT l[k])
    split <;> omega
theorem itemsK1_get (ls : List S87) (k : Nat) (h : k < ls.length) : ∃ h2 : k < (itemsK1 ls ls.length).length, (itemsK1 ls ls.length)[k] = itemOf1 ls[k] (k : Int) := by
  refine ⟨by rw [itemsK1_len ls _ (Nat.le_refl _)]; exact h, ?_⟩
  simp [itemsK1]
theorem ref_good (ls : List S87) (place : Int) (hl : ls.length ≤ 100) (hv : ∀ s ∈ ls, 0 ≤ s.f3 ∧ s.f3 ≤ 4294967295) : ∀ k, k ≤ ls.length →
    (refK (itemsK1 ls ls.length) place k).Perm (stockK (itemsK ls ls.length) place k) ∧ (refK (itemsK1 ls ls.length) place k).Pairwise ltT
  | 0, _ => by simp [refK, stockK]
  | k + 1, hk => by
    obtain ⟨ih1, ih2⟩ := ref_good ls place hl hv k (by omega)
    obtain ⟨hg, _⟩ := stock_good ls place hl hv k (by omega)
    obtain ⟨h1, e1⟩ := itemsK1_get ls k (by omega)
    obtain ⟨h2, e2⟩ := itemsK_get ls k (by omega)
    have hb := hv _ (List.getElem_mem (show k < ls.length by omega))
    rw [refK_succ _ place k h1, stockK_succ _ place k h2, e1, e2]
    by_cases hp : ls[k].f4 = place
    · have hp1 : (itemOf1 ls[k] (k : Int)).f1 = place := hp
      have hp2 : (itemOf ls[k] (k : Int)).f1 = place := hp
      rw [if_pos hp1, if_pos hp2]
      refine insR_step ih1 hg.dist ih2 (x := itemT (itemOf ls[k] (k : Int))) rfl ?_ rfl
      show bump (itemT (itemOf ls[k] (k : Int))) _ = _
      unfold bump itemT rowT
      simp only
      have e3 : wrap64 (0 + 1) = 1 := by unfold wrap64; omega
      have e4 : wrap64 (0 + (itemOf ls[k] (k : Int)).f0.f5) = (itemOf1 ls[k] (k : Int)).f0.f5 := by
        show wrap64 (0 + (boardOf ls[k] (k : Int)).f5) = (boardOf ls[k] (k : Int)).f5
        have e5 : (boardOf ls[k] (k : Int)).f5 = wrap64 ls[k].f3 := by first | rfl | (unfold boardOf; rfl)
        rw [e5]
        unfold wrap64
        omega
      rw [e3, e4]
      rfl
    · have hp1 : ¬ (itemOf1 ls[k] (k : Int)).f1 = place := hp
      have hp2 : ¬ (itemOf ls[k] (k : Int)).f1 = place := hp
      rw [if_neg hp1, if_neg hp2]
      exact ⟨ih1, ih2⟩
theorem ref_same (ls : List S87) (place : Int) (hl : ls.length ≤ 100) (hv : ∀ s ∈ ls, 0 ≤ s.f3 ∧ s.f3 ≤ 4294967295) {d : List S42} (hp : d.Perm (stockK (itemsK ls ls.length) place ls.length)) (hw : d.Pairwise (fun a b => ¬ ltT b a)) :
    d = refK (itemsK1 ls ls.length) place ls.length := by
  obtain ⟨h1, h2⟩ := ref_good ls place hl hv ls.length (Nat.le_refl _)
  exact sorted_unique _ _ (hp.trans h1.symm) hw h2
#print axioms ref_same
end Go.Proofs.YtnhflmihjegaiaaDoor

namespace Go.Proofs.YtnhflmihjegaiaaDoor
open Go Go.Proofs Go.RowKit Go.Proofs.YtnhflmihjegaiaaDoorW.PrintWords P Reg
set_option linter.unusedSimpArgs false
set_option linter.unusedVariables false
set_option maxRecDepth 100000
set_option maxHeartbeats 4000000
def RR (w : World) (base : Nat) (v : Value) (xs : List S42) : Prop := Kd.R k42 121 w base (fun _ => True) v xs
theorem RR_own {w : World} {base : Nat} {v : Value} {xs : List S42} (h : RR w base v xs) : w.ownsRow base 121 5 v xs.length (flat xs) := by
  obtain ⟨_, inner, ho, hr⟩ := h
  have := flat_of_reps (fun p c h => k42_openM h) xs inner hr
  rw [← this]
  exact ho
theorem own_RR {w : World} {base : Nat} {v : Value} {xs : List S42} (h : w.ownsRow base 121 5 v xs.length (flat xs)) : RR w base v xs :=
  ⟨fun _ _ => trivial, flat xs, h, flat_length xs, fun j p hj => by
    have h2 := flat_seg xs j p hj
    have h3 : ((flat xs).drop (j * k42.sz)).take k42.sz = [.int .i64 p.f0, .int .i64 p.f1, .int .i64 p.f2, .int .i64 p.f3, .int .i64 p.f4] := h2
    rw [h3]
    exact k42_mkM _ _ _ p⟩

/-- What a row of spans is, when it is not nil. -/
theorem RR_block {w : World} {base g n cap : Nat} {xs : List S42} (h : RR w base (.slice (some ⟨g, 0, none⟩) n cap) xs) :
    n = xs.length ∧ base ≤ g ∧ n ≤ cap ∧ cap ≤ maxLen ∧ ∃ cur, w.heap[g]? = some (.cells cur 121 (0, 0)) ∧ cur.size = cap * 5 ∧ cur.toList.take (n * 5) = flat xs := by
  obtain ⟨_, h2⟩ := RR_own h
  rcases h2 with ⟨h3, _⟩ | ⟨g', cap', cur, hv, hb, hh, hnc, hcm, hcs, ht⟩
  · cases h3
  · injection hv with ha hn hc
    injection ha with ha
    injection ha with hg
    subst hg hc
    exact ⟨hn, hb, by omega, hcm, cur, hh, hcs, by rw [hn]; exact ht⟩
theorem RR_of_block {w : World} {base g cap : Nat} {xs : List S42} {cur : Array Value} (hb : base ≤ g) (hh : w.heap[g]? = some (.cells cur 121 (0, 0))) (h1 : xs.length ≤ cap) (h2 : cap ≤ maxLen) (h3 : cur.size = cap * 5) (ht : cur.toList.take (xs.length * 5) = flat xs) :
    RR w base (.slice (some ⟨g, 0, none⟩) xs.length cap) xs := own_RR ⟨flat_length xs, .inr ⟨g, cap, cur, rfl, hb, hh, h1, h2, h3, ht⟩⟩

theorem RR_shape {w : World} {base : Nat} {v : Value} {xs : List S42} (h : RR w base v xs) : (v = .slice none 0 0 ∧ xs = []) ∨ ∃ g cap, v = .slice (some ⟨g, 0, none⟩) xs.length cap := by
  obtain ⟨_, h2⟩ := RR_own h
  rcases h2 with ⟨h3, h4⟩ | ⟨g, cap, cur, hv, _⟩
  · exact .inl ⟨h3, List.length_eq_zero_iff.1 h4⟩
  · exact .inr ⟨g, cap, hv⟩
section
variable {W : World} {base g n cap i : Nat} {xs : List S42}
theorem RR_set3 (h : RR W base (.slice (some ⟨g, 0, none⟩) n cap) xs) (hi : i < xs.length) (b : Int) :
    RR (W.setCell ⟨g, i * 5 + 3, none⟩ (.int .i64 b)) base (.slice (some ⟨g, 0, none⟩) n cap) (xs.set i { xs[i] with f3 := b }) ∧ W.grownBy (W.setCell ⟨g, i * 5 + 3, none⟩ (.int .i64 b)) (some g) := by
  have hn := (RR_block h).1
  subst hn
  obtain ⟨h1, h2⟩ := (RR_own h).stored (i * 5 + 3) (.int .i64 b)
  rw [← flat_set3 xs i hi] at h1
  refine ⟨?_, h2⟩
  refine own_RR ?_
  rw [List.length_set]
  exact h1
theorem RR_set4 (h : RR W base (.slice (some ⟨g, 0, none⟩) n cap) xs) (hi : i < xs.length) (b : Int) :
    RR (W.setCell ⟨g, i * 5 + 4, none⟩ (.int .i64 b)) base (.slice (some ⟨g, 0, none⟩) n cap) (xs.set i { xs[i] with f4 := b }) ∧ W.grownBy (W.setCell ⟨g, i * 5 + 4, none⟩ (.int .i64 b)) (some g) := by
  have hn := (RR_block h).1
  subst hn
  obtain ⟨h1, h2⟩ := (RR_own h).stored (i * 5 + 4) (.int .i64 b)
  rw [← flat_set4 xs i hi] at h1
  refine ⟨?_, h2⟩
  refine own_RR ?_
  rw [List.length_set]
  exact h1
theorem RR_cells (h : RR W base (.slice (some ⟨g, 0, none⟩) n cap) xs) (hi : i < xs.length) :
    W.cell? ⟨g, i * 5 + 3, none⟩ = some (.int .i64 xs[i].f3) ∧ W.cell? ⟨g, i * 5 + 4, none⟩ = some (.int .i64 xs[i].f4) := by
  obtain ⟨ad, e0, g0, g1, g2, g3, g4⟩ := at_T42 (Kd.R_reads' h).2.2 (i : Int) (by omega) (by omega)
  cases e0
  rw [rd42 xs i hi, Int.toNat_natCast] at g3 g4
  have e : (⟨g, 0, none⟩ : Addr).add (i * 5) = ⟨g, i * 5, none⟩ := by unfold Addr.add; split <;> simp_all
  rw [e] at g3 g4
  exact ⟨g3, g4⟩
end


theorem info121 : (Tryd.prog.info? 121).map (fun i => (i.zero, i.size, i.bytes)) = some (some (.agg #[.int .i64 0, .int .i64 0, .int .i64 0, .int .i64 0, .int .i64 0]), 5, 40) := by kernel_rfl
theorem RR_frozen {W : World} {base g n cap : Nat} {xs : List S42} (h : RR W base (.slice (some ⟨g, 0, none⟩) n cap) xs) (j : Nat) : W.frozen? ⟨g, j, none⟩ = false := by
  obtain ⟨_, _, _, _, cur, hh, _⟩ := RR_block h
  exact blk_frozen hh j
def toR1 (x : S42) : S121 := ⟨x.f0, x.f1, x.f2, x.f3, x.f4⟩
theorem flat_seg1 (xs : List S42) (j : Nat) (p : S121) (hj : (xs.map toR1)[j]? = some p) : ((flat xs).drop (j * 5)).take 5 = [.int .i64 p.f0, .int .i64 p.f1, .int .i64 p.f2, .int .i64 p.f3, .int .i64 p.f4] := by
  rw [List.getElem?_map] at hj
  obtain ⟨y, hy, rfl⟩ := Option.map_eq_some_iff.1 hj
  exact flat_seg xs j y hy
theorem RR_rows {w : World} {base : Nat} {v : Value} {xs : List S42} (h : RR w base v xs) : Kd.R k121 121 w base (fun _ => True) v (xs.map toR1) := by
  refine ⟨fun _ _ => trivial, flat xs, by rw [List.length_map]; exact RR_own h, by rw [List.length_map]; exact flat_length xs, fun j p hj => ?_⟩
  have h3 : ((flat xs).drop (j * k121.sz)).take k121.sz = [.int .i64 p.f0, .int .i64 p.f1, .int .i64 p.f2, .int .i64 p.f3, .int .i64 p.f4] := flat_seg1 xs j p hj
  rw [h3]
  exact k121_mkM _ _ _ p
def agR (x : S42) : Value := .agg #[.int .i64 x.f0, .int .i64 x.f1, .int .i64 x.f2, .int .i64 x.f3, .int .i64 x.f4]
theorem before_any (a b : S42) (w : World) : Calls Tryd.prog 32 #[agR a, agR b] w fun e w' => e = .returned (.bool (befB a b)) ∧ Below w.heap.size w w' := by
  refine sawmillref64_before.calls _ _ _ _ _ _ _ _ _ _ _ w ?_
  unfold sawmillref64_before.f befB
  split
  · split <;> rfl
  · rfl
theorem lenR_some (a b : Int) : sawmillref03_Len.f a b = some (lenG a b) := by
  unfold sawmillref03_Len.f lenG
  split
  · rfl
  · split
    · by_cases h : wrap64 (9223372036854775807 + a) < b
      · rw [if_pos h, if_pos (show b > wrap64 (9223372036854775807 + a) from h)]
      · rw [if_neg h, if_neg (show ¬ b > wrap64 (9223372036854775807 + a) from h)]
    · rfl
theorem storeI {a : Act} {o : Oper} {w : World} {t s u : Nat} {b j : Nat} {x : Int} {v0 : Value} (hop : o.op = .store t (.tmp s) (.tmp u)) (hs : a.eval (.tmp s) = .pointer (some ⟨b, j, none⟩)) (hv : a.eval (.tmp u) = .int .i64 x)
    (hz : (Tryd.prog.info? t).map (·.size) = some 1) (q : w.cell? ⟨b, j, none⟩ = some v0) (f : w.frozen? ⟨b, j, none⟩ = false) :
    (execOp a.eval o).run Tryd.prog w = .ok .skip (w.setCell ⟨b, j, none⟩ (.int .i64 x)) := by
  obtain ⟨ds, op, ty, pos, aft, gd⟩ := o
  cases hop
  have h2 : (sizeOf t).run Tryd.prog w = .ok 1 w := by
    cases hq : Tryd.prog.info? t with
    | none => simp [hq] at hz
    | some q =>
      have : q.size = 1 := by simpa [hq] using hz
      simp [sizeOf, typeInfo, hq, this]
  simp only [execOp, hs, hv, Instr.storeAt, Instr.sureAddr, Sem.run_bind, Sem.run_pure, Result.andThen_ok, storeVar, h2]
  go_simp
theorem add1V {a : Act} {o : Oper} {w : World} {s : Nat} {x : Int} (hop : o.op = .binOp .add 3 (.tmp s) (.const (.int .i64 1)) 3) (hs : a.eval (.tmp s) = .int .i64 x) :
    (execOp a.eval o).run Tryd.prog w = .ok (.value (.int .i64 (wrap64 (x + 1)))) w := by
  have hu3 := Tryd.underlying3
  have hc : a.eval (.const (.int .i64 1)) = .int .i64 1 := rfl
  obtain ⟨ds, op, ty, pos, aft, gd⟩ := o
  cases hop
  simp only [execOp, hs, hc]
  go_simp
  exact wrapE _
theorem lssV {a : Act} {o : Oper} {w : World} {s t : Nat} {x y : Int} (hop : o.op = .binOp .lss 3 (.tmp s) (.tmp t) 3) (hs : a.eval (.tmp s) = .int .i64 x) (ht : a.eval (.tmp t) = .int .i64 y) :
    (execOp a.eval o).run Tryd.prog w = .ok (.value (.bool (decide (x < y)))) w := by
  have hu3 := Tryd.underlying3
  obtain ⟨ds, op, ty, pos, aft, gd⟩ := o
  cases hop
  simp only [execOp, hs, ht]
  go_simp
theorem addrRow (g k j : Nat) : ((⟨g, 0, none⟩ : Addr).add (k * 5)) = ⟨g, k * 5, none⟩ := by unfold Addr.add; split <;> simp_all
theorem rreg11 {Q : Exit → Act → World → Prop} (hQ : ∀ c (a : Act) d v w, Q (.panic c) (a.put d v) w → Q (.panic c) a w) (x0 x1 x2 x3 x4 x6 x9 x10 x11 x12 x13 x14 x15 x16 x17 x18 x19 x20 x21 x22 x23 x24 x25 x26 x27 x28 x29 x30 x31 x32 x33 x34 x35 x36 x37 x38 x39 x40 x41 x42 x43 x44 x45 x46 x47 x48 x49 x50 x51 x52 x53 x54 x55 x56 x57 x58 x59 x60 x61 x62 x63 x64 x65 x66 x67 x68 x69 x70 x71 x72 x73 x74 x75 x76 x77 x78 x79 x80 x81 x82 x83 x84 x85 x86 x87 x88 x89 x90 x91 x92 x93 x94 x95 : Value) (wa : World) {g k n cap xb : Nat} {r3 r4 z4 : Int} (hk : k < n)
    (h3 : wa.cell? ⟨g, k * 5 + 3, none⟩ = some (.int .i64 r3)) (h4 : wa.cell? ⟨g, k * 5 + 4, none⟩ = some (.int .i64 r4)) (hx : wa.cell? ⟨xb, 4, none⟩ = some (.int .i64 z4)) (hne : xb ≠ g)
    (f3 : wa.frozen? ⟨g, k * 5 + 3, none⟩ = false) (f4 : (wa.setCell ⟨g, k * 5 + 3, none⟩ (.int .i64 (wrap64 (r3 + 1)))).frozen? ⟨g, k * 5 + 4, none⟩ = false) (q4 : (wa.setCell ⟨g, k * 5 + 3, none⟩ (.int .i64 (wrap64 (r3 + 1)))).cell? ⟨g, k * 5 + 4, none⟩ = some (.int .i64 r4)) (hx3 : (wa.setCell ⟨g, k * 5 + 3, none⟩ (.int .i64 (wrap64 (r3 + 1)))).cell? ⟨xb, 4, none⟩ = some (.int .i64 z4)) (hx4 : ((wa.setCell ⟨g, k * 5 + 3, none⟩ (.int .i64 (wrap64 (r3 + 1)))).setCell ⟨g, k * 5 + 4, none⟩ (.int .i64 (wrap64 (r4 + z4)))).cell? ⟨xb, 4, none⟩ = some (.int .i64 z4))
    (hq : Q .normal ⟨#[x0, x1, x2, x3, x4, (.slice (some ⟨g, 0, none⟩) n cap), x6, (.pointer (some ⟨xb, 0, none⟩)), (.int .i64 ((k : Int))), x9, x10, x11, x12, x13, x14, x15, x16, x17, x18, x19, x20, x21, x22, x23, x24, x25, x26, x27, x28, x29, x30, x31, x32, x33, x34, x35, x36, x37, x38, x39, x40, x41, x42, x43, x44, x45, x46, x47, x48, x49, x50, x51, x52, x53, x54, x55, x56, x57, x58, (.slice (some ⟨g, 0, none⟩) n cap), (.int .i64 ((k : Int))), (.slice (some ⟨g, 0, none⟩) n cap), (.int .i64 ((k : Int))), (.slice (some ⟨g, 0, none⟩) n cap), (.int .i64 ((k : Int))), (.pointer (some ⟨g, k * 5, none⟩)), (.pointer (some ⟨g, k * 5 + 3, none⟩)), (.int .i64 (r3)), (.int .i64 (wrap64 (r3 + 1))), (.slice (some ⟨g, 0, none⟩) n cap), (.int .i64 ((k : Int))), (.pointer (some ⟨g, k * 5, none⟩)), (.pointer (some ⟨g, k * 5 + 4, none⟩)), (.int .i64 (r4)), (.pointer (some ⟨xb, 4, none⟩)), (.int .i64 (z4)), (.int .i64 (wrap64 (r4 + z4))), (.pointer (some ⟨g, k * 5, none⟩)), (.pointer (some ⟨g, k * 5 + 3, none⟩)), (.pointer (some ⟨g, k * 5, none⟩)), (.pointer (some ⟨g, k * 5 + 4, none⟩)), x81, x82, x83, x84, x85, x86, x87, x88, x89, x90, x91, x92, x93, x94, x95], []⟩ ((wa.setCell ⟨g, k * 5 + 3, none⟩ (.int .i64 (wrap64 (r3 + 1)))).setCell ⟨g, k * 5 + 4, none⟩ (.int .i64 (wrap64 (r4 + z4))))) :
    wpAnyH Tryd.prog .any (R Tryd.f17 11) Q (fun w => w.cell? ⟨xb, 4, none⟩ = some (.int .i64 z4)) 24 (L 24 0) ⟨#[x0, x1, x2, x3, x4, (.slice (some ⟨g, 0, none⟩) n cap), x6, (.pointer (some ⟨xb, 0, none⟩)), (.int .i64 ((k : Int))), x9, x10, x11, x12, x13, x14, x15, x16, x17, x18, x19, x20, x21, x22, x23, x24, x25, x26, x27, x28, x29, x30, x31, x32, x33, x34, x35, x36, x37, x38, x39, x40, x41, x42, x43, x44, x45, x46, x47, x48, x49, x50, x51, x52, x53, x54, x55, x56, x57, x58, x59, x60, x61, x62, x63, x64, x65, x66, x67, x68, x69, x70, x71, x72, x73, x74, x75, x76, x77, x78, x79, x80, x81, x82, x83, x84, x85, x86, x87, x88, x89, x90, x91, x92, x93, x94, x95], []⟩ wa := by
  have b0 : (fun w => w.cell? ⟨xb, 4, none⟩ = some (.int .i64 z4)) wa := hx
  have tail : wpAnyH Tryd.prog .any (R Tryd.f17 11) Q (fun w => w.cell? ⟨xb, 4, none⟩ = some (.int .i64 z4)) 6 (L 24 18) ⟨#[x0, x1, x2, x3, x4, (.slice (some ⟨g, 0, none⟩) n cap), x6, (.pointer (some ⟨xb, 0, none⟩)), (.int .i64 ((k : Int))), x9, x10, x11, x12, x13, x14, x15, x16, x17, x18, x19, x20, x21, x22, x23, x24, x25, x26, x27, x28, x29, x30, x31, x32, x33, x34, x35, x36, x37, x38, x39, x40, x41, x42, x43, x44, x45, x46, x47, x48, x49, x50, x51, x52, x53, x54, x55, x56, x57, x58, (.slice (some ⟨g, 0, none⟩) n cap), (.int .i64 ((k : Int))), (.slice (some ⟨g, 0, none⟩) n cap), (.int .i64 ((k : Int))), (.slice (some ⟨g, 0, none⟩) n cap), (.int .i64 ((k : Int))), (.pointer (some ⟨g, k * 5, none⟩)), (.pointer (some ⟨g, k * 5 + 3, none⟩)), (.int .i64 (r3)), (.int .i64 (wrap64 (r3 + 1))), (.slice (some ⟨g, 0, none⟩) n cap), (.int .i64 ((k : Int))), (.pointer (some ⟨g, k * 5, none⟩)), (.pointer (some ⟨g, k * 5 + 4, none⟩)), (.int .i64 (r4)), (.pointer (some ⟨xb, 4, none⟩)), (.int .i64 (z4)), (.int .i64 (wrap64 (r4 + z4))), x77, x78, x79, x80, x81, x82, x83, x84, x85, x86, x87, x88, x89, x90, x91, x92, x93, x94, x95], []⟩ wa := by
    refine RegH.take 18 77 (.pointer (some ⟨g, k * 5, none⟩)) hQ b0 (fun _ _ => idxV (n := n) (c := cap) (ad := ⟨g, 0, none⟩) (k := k) (s := 59) (i := 60) (sz := 5) (by kernel_rfl) (by kernel_rfl) (by kernel_rfl) Tryd.underlying64 (by kernel_rfl) hk (addrRow g k 0)) ?_
    refine RegH.take 19 78 (.pointer (some ⟨g, k * 5 + 3, none⟩)) hQ b0 (fun _ _ => by kernel_rfl) ?_
    refine RegH.any1 20 (RegH.skip (w' := (wa.setCell ⟨g, k * 5 + 3, none⟩ (.int .i64 (wrap64 (r3 + 1))))) ⟨hx3, ?_⟩ (hv := storeI (t := 3) (s := 78) (u := 68) (b := g) (j := k * 5 + 3) (by kernel_rfl) (by kernel_rfl) (by kernel_rfl) (by kernel_rfl) h3 f3))
    refine RegH.take 21 79 (.pointer (some ⟨g, k * 5, none⟩)) hQ hx3 (fun _ _ => idxV (n := n) (c := cap) (ad := ⟨g, 0, none⟩) (k := k) (s := 61) (i := 62) (sz := 5) (by kernel_rfl) (by kernel_rfl) (by kernel_rfl) Tryd.underlying64 (by kernel_rfl) hk (addrRow g k 0)) ?_
    refine RegH.take 22 80 (.pointer (some ⟨g, k * 5 + 4, none⟩)) hQ hx3 (fun _ _ => by kernel_rfl) ?_
    refine RegH.any1 23 (RegH.skip (w' := ((wa.setCell ⟨g, k * 5 + 3, none⟩ (.int .i64 (wrap64 (r3 + 1)))).setCell ⟨g, k * 5 + 4, none⟩ (.int .i64 (wrap64 (r4 + z4))))) ⟨hx4, ?_⟩ (hv := storeI (t := 3) (s := 80) (u := 76) (b := g) (j := k * 5 + 4) (by kernel_rfl) (by kernel_rfl) (by kernel_rfl) (by kernel_rfl) q4 f4))
    exact RegH.same (l' := L 24 24) (wpAnyH_done (by kernel_rfl) hq 0)
  refine RegH.take 0 59 (.slice (some ⟨g, 0, none⟩) n cap) hQ b0 (fun _ _ => by kernel_rfl) ?_
  refine RegH.take 1 60 (.int .i64 ((k : Int))) hQ b0 (fun _ _ => by kernel_rfl) ?_
  refine RegH.take 2 61 (.slice (some ⟨g, 0, none⟩) n cap) hQ b0 (fun _ _ => by kernel_rfl) ?_
  refine RegH.take 3 62 (.int .i64 ((k : Int))) hQ b0 (fun _ _ => by kernel_rfl) ?_
  refine RegH.take 4 63 (.slice (some ⟨g, 0, none⟩) n cap) hQ b0 (fun _ _ => by kernel_rfl) ?_
  refine RegH.take 5 64 (.int .i64 ((k : Int))) hQ b0 (fun _ _ => by kernel_rfl) ?_
  refine RegH.take 6 65 (.pointer (some ⟨g, k * 5, none⟩)) hQ b0 (fun _ _ => idxV (n := n) (c := cap) (ad := ⟨g, 0, none⟩) (k := k) (s := 63) (i := 64) (sz := 5) (by kernel_rfl) (by kernel_rfl) (by kernel_rfl) Tryd.underlying64 (by kernel_rfl) hk (addrRow g k 0)) ?_
  refine RegH.take 7 66 (.pointer (some ⟨g, k * 5 + 3, none⟩)) hQ b0 (fun _ _ => by kernel_rfl) ?_
  refine RegH.take 10 69 (.slice (some ⟨g, 0, none⟩) n cap) hQ b0 (fun _ _ => by kernel_rfl) ?_
  refine RegH.take 11 70 (.int .i64 ((k : Int))) hQ b0 (fun _ _ => by kernel_rfl) ?_
  refine RegH.take 12 71 (.pointer (some ⟨g, k * 5, none⟩)) hQ b0 (fun _ _ => idxV (n := n) (c := cap) (ad := ⟨g, 0, none⟩) (k := k) (s := 69) (i := 70) (sz := 5) (by kernel_rfl) (by kernel_rfl) (by kernel_rfl) Tryd.underlying64 (by kernel_rfl) hk (addrRow g k 0)) ?_
  refine RegH.take 13 72 (.pointer (some ⟨g, k * 5 + 4, none⟩)) hQ b0 (fun _ _ => by kernel_rfl) ?_
  refine RegH.take 15 74 (.pointer (some ⟨xb, 4, none⟩)) hQ b0 (fun _ _ => by kernel_rfl) ?_
  refine RegH.take 16 75 (.int .i64 (z4)) hQ b0 (fun w h => load1 (s := 74) (by kernel_rfl) (by kernel_rfl) h Tryd.underlying3 rfl) ?_
  refine RegH.any2 8 14 ?_ ?_
  · refine value 67 (.int .i64 r3) (hv := load1 (s := 66) (by kernel_rfl) (by kernel_rfl) h3 Tryd.underlying3 rfl) ⟨hx, ?_⟩
    refine RegH.take 9 68 (.int .i64 (wrap64 (r3 + 1))) hQ b0 (fun _ _ => add1V (s := 67) (by kernel_rfl) (by kernel_rfl)) ?_
    refine RegH.any1 14 (value 73 (.int .i64 r4) (hv := load1 (s := 72) (by kernel_rfl) (by kernel_rfl) h4 Tryd.underlying3 rfl) ⟨hx, ?_⟩)
    refine RegH.take 17 76 (.int .i64 (wrap64 (r4 + z4))) hQ b0 (fun _ _ => addV (s := 73) (t := 75) (by kernel_rfl) (by kernel_rfl) (by kernel_rfl)) ?_
    exact RegH.same tail
  · refine value 73 (.int .i64 r4) (hv := load1 (s := 72) (by kernel_rfl) (by kernel_rfl) h4 Tryd.underlying3 rfl) ⟨hx, ?_⟩
    refine RegH.take 17 76 (.int .i64 (wrap64 (r4 + z4))) hQ b0 (fun _ _ => addV (s := 73) (t := 75) (by kernel_rfl) (by kernel_rfl) (by kernel_rfl)) ?_
    refine RegH.any1 8 (value 67 (.int .i64 r3) (hv := load1 (s := 66) (by kernel_rfl) (by kernel_rfl) h3 Tryd.underlying3 rfl) ⟨hx, ?_⟩)
    refine RegH.take 9 68 (.int .i64 (wrap64 (r3 + 1))) hQ b0 (fun _ _ => add1V (s := 67) (by kernel_rfl) (by kernel_rfl)) ?_
    exact RegH.same tail
theorem rreg8n {Q : Exit → Act → World → Prop} (hQ : ∀ c (a : Act) d v w, Q (.panic c) (a.put d v) w → Q (.panic c) a w) (x0 x1 x2 x3 x4 x6 x9 x10 x11 x12 x13 x14 x15 x16 x17 x18 x19 x20 x21 x22 x23 x24 x25 x26 x27 x28 x29 x30 x31 x32 x33 x34 x35 x36 x37 x38 x39 x40 x41 x42 x43 x44 x45 x46 x47 x48 x49 x50 x51 x52 x53 x54 x55 x56 x57 x58 x59 x60 x61 x62 x63 x64 x65 x66 x67 x68 x69 x70 x71 x72 x73 x74 x75 x76 x77 x78 x79 x80 x81 x82 x83 x84 x85 x86 x87 x88 x89 x90 x91 x92 x93 x94 x95 : Value) (wa : World) {k n cap xb : Nat} {A : Option Addr}
    (hlt : decide ((k : Int) < (n : Int)) = false)
    (hq : Q .normal ⟨#[x0, x1, x2, x3, x4, (.slice A n cap), x6, (.pointer (some ⟨xb, 0, none⟩)), (.int .i64 ((k : Int))), x9, x10, x11, x12, x13, x14, x15, x16, x17, x18, x19, x20, x21, x22, x23, x24, x25, x26, x27, x28, x29, x30, x31, (.int .i64 ((k : Int))), (.slice A n cap), (.int .i64 ((n : Int))), (.bool false), (.bool false), (undef), (undef), (undef), (undef), (undef), (undef), (.bool false), x44, x45, x46, x47, x48, x49, x50, x51, x52, x53, x54, x55, x56, x57, x58, x59, x60, x61, x62, x63, x64, x65, x66, x67, x68, x69, x70, x71, x72, x73, x74, x75, x76, x77, x78, x79, x80, x81, x82, x83, x84, x85, x86, x87, x88, x89, x90, x91, x92, x93, x94, x95], []⟩ wa) :
    wpAnyH Tryd.prog .any (R Tryd.f17 8) Q (Below wa.heap.size wa) 12 (L 12 0) ⟨#[x0, x1, x2, x3, x4, (.slice A n cap), x6, (.pointer (some ⟨xb, 0, none⟩)), (.int .i64 ((k : Int))), x9, x10, x11, x12, x13, x14, x15, x16, x17, x18, x19, x20, x21, x22, x23, x24, x25, x26, x27, x28, x29, x30, x31, x32, x33, x34, x35, x36, x37, x38, x39, x40, x41, x42, x43, x44, x45, x46, x47, x48, x49, x50, x51, x52, x53, x54, x55, x56, x57, x58, x59, x60, x61, x62, x63, x64, x65, x66, x67, x68, x69, x70, x71, x72, x73, x74, x75, x76, x77, x78, x79, x80, x81, x82, x83, x84, x85, x86, x87, x88, x89, x90, x91, x92, x93, x94, x95], []⟩ wa := by
  have b0 := Below.refl wa.heap.size wa
  refine RegH.take 0 32 (.int .i64 ((k : Int))) hQ b0 (fun _ _ => by kernel_rfl) ?_
  refine RegH.take 1 33 (.slice A n cap) hQ b0 (fun _ _ => by kernel_rfl) ?_
  refine RegH.take 2 34 (.int .i64 ((n : Int))) hQ b0 (fun _ _ => by kernel_rfl) ?_
  refine RegH.take 3 35 (.bool false) hQ b0 (fun _ _ => by rw [lssV (s := 32) (t := 34) (x := (k : Int)) (y := (n : Int)) (by kernel_rfl) (by kernel_rfl) (by kernel_rfl), hlt]) ?_
  refine RegH.take 4 36 (.bool false) hQ b0 (fun _ _ => by kernel_rfl) ?_
  refine RegH.pass 5 37 hQ b0 ?_
  refine RegH.pass 6 38 hQ b0 ?_
  refine RegH.pass 7 39 hQ b0 ?_
  refine RegH.pass 8 40 hQ b0 ?_
  refine RegH.pass 9 41 hQ b0 ?_
  refine RegH.pass 10 42 hQ b0 ?_
  refine RegH.take 11 43 (.bool false) hQ b0 (fun _ _ => by kernel_rfl) ?_
  exact RegH.same (l' := L 12 12) (wpAnyH_done (by kernel_rfl) hq 0)
theorem rreg10n {Q : Exit → Act → World → Prop} (hQ : ∀ c (a : Act) d v w, Q (.panic c) (a.put d v) w → Q (.panic c) a w) (x0 x1 x2 x3 x4 x6 x9 x10 x11 x12 x13 x14 x15 x16 x17 x18 x19 x20 x21 x22 x23 x24 x25 x26 x27 x28 x29 x30 x31 x32 x33 x34 x35 x36 x37 x38 x39 x40 x41 x42 x43 x44 x45 x46 x47 x48 x49 x50 x51 x52 x53 x54 x55 x56 x57 x58 x59 x60 x61 x62 x63 x64 x65 x66 x67 x68 x69 x70 x71 x72 x73 x74 x75 x76 x77 x78 x79 x80 x81 x82 x83 x84 x85 x86 x87 x88 x89 x90 x91 x92 x93 x94 x95 : Value) (wa : World) {k n cap xb : Nat} {A : Option Addr}
    (hlt : decide ((k : Int) < (n : Int)) = false)
    (hq : Q .normal ⟨#[x0, x1, x2, x3, x4, (.slice A n cap), x6, (.pointer (some ⟨xb, 0, none⟩)), (.int .i64 ((k : Int))), x9, x10, x11, x12, x13, x14, x15, x16, x17, x18, x19, x20, x21, x22, x23, x24, x25, x26, x27, x28, x29, x30, x31, x32, x33, x34, x35, x36, x37, x38, x39, x40, x41, x42, x43, x44, x45, (.int .i64 ((k : Int))), (.slice A n cap), (.int .i64 ((n : Int))), (.bool false), (.bool false), (undef), (undef), (undef), (undef), (undef), (undef), (undef), (.bool false), x59, x60, x61, x62, x63, x64, x65, x66, x67, x68, x69, x70, x71, x72, x73, x74, x75, x76, x77, x78, x79, x80, x81, x82, x83, x84, x85, x86, x87, x88, x89, x90, x91, x92, x93, x94, x95], []⟩ wa) :
    wpAnyH Tryd.prog .any (R Tryd.f17 10) Q (Below wa.heap.size wa) 13 (L 13 0) ⟨#[x0, x1, x2, x3, x4, (.slice A n cap), x6, (.pointer (some ⟨xb, 0, none⟩)), (.int .i64 ((k : Int))), x9, x10, x11, x12, x13, x14, x15, x16, x17, x18, x19, x20, x21, x22, x23, x24, x25, x26, x27, x28, x29, x30, x31, x32, x33, x34, x35, x36, x37, x38, x39, x40, x41, x42, x43, x44, x45, x46, x47, x48, x49, x50, x51, x52, x53, x54, x55, x56, x57, x58, x59, x60, x61, x62, x63, x64, x65, x66, x67, x68, x69, x70, x71, x72, x73, x74, x75, x76, x77, x78, x79, x80, x81, x82, x83, x84, x85, x86, x87, x88, x89, x90, x91, x92, x93, x94, x95], []⟩ wa := by
  have b0 := Below.refl wa.heap.size wa
  refine RegH.take 0 46 (.int .i64 ((k : Int))) hQ b0 (fun _ _ => by kernel_rfl) ?_
  refine RegH.take 1 47 (.slice A n cap) hQ b0 (fun _ _ => by kernel_rfl) ?_
  refine RegH.take 2 48 (.int .i64 ((n : Int))) hQ b0 (fun _ _ => by kernel_rfl) ?_
  refine RegH.take 3 49 (.bool false) hQ b0 (fun _ _ => by rw [lssV (s := 46) (t := 48) (x := (k : Int)) (y := (n : Int)) (by kernel_rfl) (by kernel_rfl) (by kernel_rfl), hlt]) ?_
  refine RegH.take 4 50 (.bool false) hQ b0 (fun _ _ => by kernel_rfl) ?_
  refine RegH.pass 5 51 hQ b0 ?_
  refine RegH.pass 6 52 hQ b0 ?_
  refine RegH.pass 7 53 hQ b0 ?_
  refine RegH.pass 8 54 hQ b0 ?_
  refine RegH.pass 9 55 hQ b0 ?_
  refine RegH.pass 10 56 hQ b0 ?_
  refine RegH.pass 11 57 hQ b0 ?_
  refine RegH.take 12 58 (.bool false) hQ b0 (fun _ _ => by kernel_rfl) ?_
  exact RegH.same (l' := L 13 13) (wpAnyH_done (by kernel_rfl) hq 0)
theorem rreg8 {Q : Exit → Act → World → Prop} (hQ : ∀ c (a : Act) d v w, Q (.panic c) (a.put d v) w → Q (.panic c) a w) (x0 x1 x2 x3 x4 x6 x9 x10 x11 x12 x13 x14 x15 x16 x17 x18 x19 x20 x21 x22 x23 x24 x25 x26 x27 x28 x29 x30 x31 x32 x33 x34 x35 x36 x37 x38 x39 x40 x41 x42 x43 x44 x45 x46 x47 x48 x49 x50 x51 x52 x53 x54 x55 x56 x57 x58 x59 x60 x61 x62 x63 x64 x65 x66 x67 x68 x69 x70 x71 x72 x73 x74 x75 x76 x77 x78 x79 x80 x81 x82 x83 x84 x85 x86 x87 x88 x89 x90 x91 x92 x93 x94 x95 : Value) (wa : World) {k n cap xb : Nat} {ad p : Addr} (r x : S42) {bb : Bool} (hlt : decide ((k : Int) < (n : Int)) = true) (hp : ad.add (k * 5) = p)
    (hr : ∀ j v, ([.int .i64 r.f0, .int .i64 r.f1, .int .i64 r.f2, .int .i64 r.f3, .int .i64 r.f4] : List Value)[j]? = some v → wa.cell? (p.add j) = some v) (hx : wa.heap[xb]? = some (.cells #[.int .i64 x.f0, .int .i64 x.f1, .int .i64 x.f2, .int .i64 x.f3, .int .i64 x.f4] 121 (0, 0))) (hbb : befB r x = bb)
    (hq : ∀ w, Below wa.heap.size wa w → Q .normal ⟨#[x0, x1, x2, x3, x4, (.slice (some ad) n cap), x6, (.pointer (some ⟨xb, 0, none⟩)), (.int .i64 ((k : Int))), x9, x10, x11, x12, x13, x14, x15, x16, x17, x18, x19, x20, x21, x22, x23, x24, x25, x26, x27, x28, x29, x30, x31, (.int .i64 ((k : Int))), (.slice (some ad) n cap), (.int .i64 ((n : Int))), (.bool true), (.bool true), (.slice (some ad) n cap), (.int .i64 ((k : Int))), (.pointer (some p)), (agR r), (agR x), (.bool bb), (.bool bb), x44, x45, x46, x47, x48, x49, x50, x51, x52, x53, x54, x55, x56, x57, x58, x59, x60, x61, x62, x63, x64, x65, x66, x67, x68, x69, x70, x71, x72, x73, x74, x75, x76, x77, x78, x79, x80, x81, x82, x83, x84, x85, x86, x87, x88, x89, x90, x91, x92, x93, x94, x95], []⟩ w) :
    wpAnyH Tryd.prog .any (R Tryd.f17 8) Q (Below wa.heap.size wa) 12 (L 12 0) ⟨#[x0, x1, x2, x3, x4, (.slice (some ad) n cap), x6, (.pointer (some ⟨xb, 0, none⟩)), (.int .i64 ((k : Int))), x9, x10, x11, x12, x13, x14, x15, x16, x17, x18, x19, x20, x21, x22, x23, x24, x25, x26, x27, x28, x29, x30, x31, x32, x33, x34, x35, x36, x37, x38, x39, x40, x41, x42, x43, x44, x45, x46, x47, x48, x49, x50, x51, x52, x53, x54, x55, x56, x57, x58, x59, x60, x61, x62, x63, x64, x65, x66, x67, x68, x69, x70, x71, x72, x73, x74, x75, x76, x77, x78, x79, x80, x81, x82, x83, x84, x85, x86, x87, x88, x89, x90, x91, x92, x93, x94, x95], []⟩ wa := by
  have b0 := Below.refl wa.heap.size wa
  have hk : k < n := by have := of_decide_eq_true hlt; omega
  refine RegH.take 0 32 (.int .i64 ((k : Int))) hQ b0 (fun _ _ => by kernel_rfl) ?_
  refine RegH.take 1 33 (.slice (some ad) n cap) hQ b0 (fun _ _ => by kernel_rfl) ?_
  refine RegH.take 2 34 (.int .i64 ((n : Int))) hQ b0 (fun _ _ => by kernel_rfl) ?_
  refine RegH.take 3 35 (.bool true) hQ b0 (fun _ _ => by rw [lssV (s := 32) (t := 34) (x := (k : Int)) (y := (n : Int)) (by kernel_rfl) (by kernel_rfl) (by kernel_rfl), hlt]) ?_
  refine RegH.take 4 36 (.bool true) hQ b0 (fun _ _ => by kernel_rfl) ?_
  refine RegH.take 5 37 (.slice (some ad) n cap) hQ b0 (fun _ _ => by kernel_rfl) ?_
  refine RegH.take 6 38 (.int .i64 ((k : Int))) hQ b0 (fun _ _ => by kernel_rfl) ?_
  refine RegH.take 7 39 (.pointer (some p)) hQ b0 (fun _ _ => idxV (n := n) (c := cap) (ad := ad) (k := k) (s := 37) (i := 38) (sz := 5) (by kernel_rfl) (by kernel_rfl) (by kernel_rfl) Tryd.underlying64 (by kernel_rfl) hk hp) ?_
  refine RegH.take 8 40 (agR r) hQ b0 (fun w h => loadR (s := 39) (by kernel_rfl) (by kernel_rfl) [.int .i64 r.f0, .int .i64 r.f1, .int .i64 r.f2, .int .i64 r.f3, .int .i64 r.f4] _ (fun j v hv => (h.cell (World.block_lt_of_cell? _ _ (hr j v hv))).trans (hr j v hv)) Tryd.underlying121 rfl (by kernel_rfl)) ?_
  refine RegH.take 9 41 (agR x) hQ b0 (fun w h => loadR (s := 7) (by kernel_rfl) (by kernel_rfl) [.int .i64 x.f0, .int .i64 x.f1, .int .i64 x.f2, .int .i64 x.f3, .int .i64 x.f4] _ (row_cells (blk_below hx h)) Tryd.underlying121 rfl (by kernel_rfl)) ?_
  refine RegH.any1 10 (enter 42 32 #[agR r, agR x] ?_)
  refine (before_any r x wa).mono ?_
  rintro e w1 ⟨rfl, B1⟩
  rw [hbb]
  refine ⟨_, rfl, B1, ?_⟩
  refine RegH.take 11 43 (.bool bb) hQ B1 (fun _ _ => by kernel_rfl) ?_
  exact RegH.same (l' := L 12 12) (wpAnyH_done (by kernel_rfl) (hq w1 B1) 0)
theorem rreg10 {Q : Exit → Act → World → Prop} (hQ : ∀ c (a : Act) d v w, Q (.panic c) (a.put d v) w → Q (.panic c) a w) (x0 x1 x2 x3 x4 x6 x9 x10 x11 x12 x13 x14 x15 x16 x17 x18 x19 x20 x21 x22 x23 x24 x25 x26 x27 x28 x29 x30 x31 x32 x33 x34 x35 x36 x37 x38 x39 x40 x41 x42 x43 x44 x45 x46 x47 x48 x49 x50 x51 x52 x53 x54 x55 x56 x57 x58 x59 x60 x61 x62 x63 x64 x65 x66 x67 x68 x69 x70 x71 x72 x73 x74 x75 x76 x77 x78 x79 x80 x81 x82 x83 x84 x85 x86 x87 x88 x89 x90 x91 x92 x93 x94 x95 : Value) (wa : World) {k n cap xb : Nat} {ad p : Addr} (r x : S42) {bb : Bool} (hlt : decide ((k : Int) < (n : Int)) = true) (hp : ad.add (k * 5) = p)
    (hr : ∀ j v, ([.int .i64 r.f0, .int .i64 r.f1, .int .i64 r.f2, .int .i64 r.f3, .int .i64 r.f4] : List Value)[j]? = some v → wa.cell? (p.add j) = some v) (hx : wa.heap[xb]? = some (.cells #[.int .i64 x.f0, .int .i64 x.f1, .int .i64 x.f2, .int .i64 x.f3, .int .i64 x.f4] 121 (0, 0))) (hbb : befB x r = bb)
    (hq : ∀ w, Below wa.heap.size wa w → Q .normal ⟨#[x0, x1, x2, x3, x4, (.slice (some ad) n cap), x6, (.pointer (some ⟨xb, 0, none⟩)), (.int .i64 ((k : Int))), x9, x10, x11, x12, x13, x14, x15, x16, x17, x18, x19, x20, x21, x22, x23, x24, x25, x26, x27, x28, x29, x30, x31, x32, x33, x34, x35, x36, x37, x38, x39, x40, x41, x42, x43, x44, x45, (.int .i64 ((k : Int))), (.slice (some ad) n cap), (.int .i64 ((n : Int))), (.bool true), (.bool true), (agR x), (.slice (some ad) n cap), (.int .i64 ((k : Int))), (.pointer (some p)), (agR r), (.bool bb), (.bool (!bb)), (.bool (!bb)), x59, x60, x61, x62, x63, x64, x65, x66, x67, x68, x69, x70, x71, x72, x73, x74, x75, x76, x77, x78, x79, x80, x81, x82, x83, x84, x85, x86, x87, x88, x89, x90, x91, x92, x93, x94, x95], []⟩ w) :
    wpAnyH Tryd.prog .any (R Tryd.f17 10) Q (Below wa.heap.size wa) 13 (L 13 0) ⟨#[x0, x1, x2, x3, x4, (.slice (some ad) n cap), x6, (.pointer (some ⟨xb, 0, none⟩)), (.int .i64 ((k : Int))), x9, x10, x11, x12, x13, x14, x15, x16, x17, x18, x19, x20, x21, x22, x23, x24, x25, x26, x27, x28, x29, x30, x31, x32, x33, x34, x35, x36, x37, x38, x39, x40, x41, x42, x43, x44, x45, x46, x47, x48, x49, x50, x51, x52, x53, x54, x55, x56, x57, x58, x59, x60, x61, x62, x63, x64, x65, x66, x67, x68, x69, x70, x71, x72, x73, x74, x75, x76, x77, x78, x79, x80, x81, x82, x83, x84, x85, x86, x87, x88, x89, x90, x91, x92, x93, x94, x95], []⟩ wa := by
  have b0 := Below.refl wa.heap.size wa
  have hk : k < n := by have := of_decide_eq_true hlt; omega
  refine RegH.take 0 46 (.int .i64 ((k : Int))) hQ b0 (fun _ _ => by kernel_rfl) ?_
  refine RegH.take 1 47 (.slice (some ad) n cap) hQ b0 (fun _ _ => by kernel_rfl) ?_
  refine RegH.take 2 48 (.int .i64 ((n : Int))) hQ b0 (fun _ _ => by kernel_rfl) ?_
  refine RegH.take 3 49 (.bool true) hQ b0 (fun _ _ => by rw [lssV (s := 46) (t := 48) (x := (k : Int)) (y := (n : Int)) (by kernel_rfl) (by kernel_rfl) (by kernel_rfl), hlt]) ?_
  refine RegH.take 4 50 (.bool true) hQ b0 (fun _ _ => by kernel_rfl) ?_
  refine RegH.take 5 51 (agR x) hQ b0 (fun w h => loadR (s := 7) (by kernel_rfl) (by kernel_rfl) [.int .i64 x.f0, .int .i64 x.f1, .int .i64 x.f2, .int .i64 x.f3, .int .i64 x.f4] _ (row_cells (blk_below hx h)) Tryd.underlying121 rfl (by kernel_rfl)) ?_
  refine RegH.take 6 52 (.slice (some ad) n cap) hQ b0 (fun _ _ => by kernel_rfl) ?_
  refine RegH.take 7 53 (.int .i64 ((k : Int))) hQ b0 (fun _ _ => by kernel_rfl) ?_
  refine RegH.take 8 54 (.pointer (some p)) hQ b0 (fun _ _ => idxV (n := n) (c := cap) (ad := ad) (k := k) (s := 52) (i := 53) (sz := 5) (by kernel_rfl) (by kernel_rfl) (by kernel_rfl) Tryd.underlying64 (by kernel_rfl) hk hp) ?_
  refine RegH.take 9 55 (agR r) hQ b0 (fun w h => loadR (s := 54) (by kernel_rfl) (by kernel_rfl) [.int .i64 r.f0, .int .i64 r.f1, .int .i64 r.f2, .int .i64 r.f3, .int .i64 r.f4] _ (fun j v hv => (h.cell (World.block_lt_of_cell? _ _ (hr j v hv))).trans (hr j v hv)) Tryd.underlying121 rfl (by kernel_rfl)) ?_
  refine RegH.any1 10 (enter 56 32 #[agR x, agR r] ?_)
  refine (before_any x r wa).mono ?_
  rintro e w1 ⟨rfl, B1⟩
  rw [hbb]
  refine ⟨_, rfl, B1, ?_⟩
  refine RegH.take 11 57 (.bool (!bb)) hQ B1 (fun _ _ => by kernel_rfl) ?_
  refine RegH.take 12 58 (.bool (!bb)) hQ B1 (fun _ _ => by kernel_rfl) ?_
  exact RegH.same (l' := L 13 13) (wpAnyH_done (by kernel_rfl) (hq w1 B1) 0)
end Go.Proofs.YtnhflmihjegaiaaDoor

namespace Go.Proofs.YtnhflmihjegaiaaDoor
open Go Go.RowKit Go.Proofs.YtnhflmihjegaiaaDoorW.PrintWords P
set_option linter.unusedSimpArgs false
set_option linter.unusedVariables false

structure RKI (w wr : World) (cells : Array Value) (v : Value) (out : List S42) : Prop where
  st : wr.heap[w.heap.size]? = some (.cells cells 38 (0, 0))
  rr : RR wr (w.heap.size + 1) v out
  bl : Below w.heap.size w wr
theorem RKI.lt {w wr : World} {cells : Array Value} {v : Value} {out : List S42} (h : RKI w wr cells v out) : w.heap.size + 1 ≤ wr.heap.size := by
  have := h.st
  rw [Array.getElem?_eq_some_iff] at this
  obtain ⟨h, _⟩ := this
  omega
theorem RKI.below {w wr w1 : World} {cells : Array Value} {v : Value} {out : List S42} (h : RKI w wr cells v out) (B : Below wr.heap.size wr w1) : RKI w w1 cells v out := ⟨blk_below h.st B, Kd.R_below h.rr B, h.bl.trans (B.mono h.bl.size)⟩
theorem RKI.next {w wr w1 : World} {cells : Array Value} {v : Value} {out : List S42} (h : RKI w wr cells v out) (B : Below wr.heap.size wr w1) {b : Nat} {v' : Value} {out' : List S42} (hR : RR w1 b v' out') (hb : wr.heap.size ≤ b) : RKI w w1 cells v' out' :=
  ⟨blk_below h.st B, Kd.R_lower hR (by have := h.lt; omega), h.bl.trans (B.mono h.bl.size)⟩
theorem RKI.start (w : World) (cells : Array Value) : RKI w (w.alloc (.cells cells 38)) cells (.slice none 0 0) [] := ⟨blk_new _ _, Kd.R_nil _ _ _ _ _, (Below.refl w.heap.size w).alloc (Nat.le_refl _) _⟩

set_option maxRecDepth 100000 in
set_option maxHeartbeats 8000000 in
theorem refStock_any (w : World) (a0 a6 a7 place : Int) (A1 A2 A3 A4 A5 A8 A9 : Option Addr) (n1 n2 n4 n5 n8 n9 c1 c2 c3 c4 c5 c8 c9 : Nat) (l : List S101) (hC : Kd.C k101 w A3 l.length l) (hc : l.length ≤ c3) (hl : l.length ≤ 100000) :
    Calls Tryd.prog 17 #[.agg #[.int .i64 a0, .slice A1 n1 c1, .slice A2 n2 c2, .slice A3 l.length c3, .slice A4 n4 c4, .slice A5 n5 c5, .int .i64 a6, .int .i64 a7, .slice A8 n8 c8, .slice A9 n9 c9], .int .i64 place] w fun e w' => ∃ v : Value, e = .returned v ∧ RR w' w.heap.size v (refK l place l.length) ∧ Below w.heap.size w w' := by
  have hu38 := Tryd.underlying38
  have hu121 := Tryd.underlying121
  have HS := Lib.hid (RKI.start w #[.int .i64 a0, .slice A1 n1 c1, .slice A2 n2 c2, .slice A3 l.length c3, .slice A4 n4 c4, .slice A5 n5 c5, .int .i64 a6, .int .i64 a7, .slice A8 n8 c8, .slice A9 n9 c9])
  obtain ⟨i0, hi0, _, hsz0, _⟩ := info_parts info121
  go_enter Tryd.func17, Tryd.ntmps17
  go_wp2_with fail
  generalize (w.alloc (.cells #[.int .i64 a0, .slice A1 n1 c1, .slice A2 n2 c2, .slice A3 l.length c3, .slice A4 n4 c4, .slice A5 n5 c5, .int .i64 a6, .int .i64 a7, .slice A8 n8 c8, .slice A9 n9 c9] 38)) = w0 at *
  have HC := Lib.hid hC
  clear hC
  go_loopw [5, 6] (fun v i wr => ∃ k : Nat, k ≤ l.length ∧ i = .int .i64 k ∧ Hid (RKI w wr #[.int .i64 a0, .slice A1 n1 c1, .slice A2 n2 c2, .slice A3 l.length c3, .slice A4 n4 c4, .slice A5 n5 c5, .int .i64 a6, .int .i64 a7, .slice A8 n8 c8, .slice A9 n9 c9] v (refK l place k))) (fun _ i _ => l.length - (intOf i).toNat)
  case atStart => exact ⟨0, Nat.zero_le _, rfl, HS⟩
  case round =>
    obtain ⟨k, hk, rfl, S⟩ := hrel
    have z3 : wr.cell? ⟨w.heap.size, 3, none⟩ = some (.slice A3 l.length c3) := blk_cell S.out.st 3
    by_cases hlt : k < l.length
    · obtain ⟨ad, cs, e0, hK, hcs⟩ := at_row (Kd.C_below HC.out S.out.bl) z101 k hlt
      subst e0
      have hsc := Lib.hid (refK_succ l place k hlt)
      have hln := refK_len l place k hk
      generalize refK l place k = out at *
      generalize l[k] = s at *
      obtain ⟨A11, c11, rfl, l11, g11⟩ := k101_open hK
      clear hK
      have HG := Lib.hid g11
      have HL := Lib.hid l11
      have H18 := Lib.hid (fun j v (hv : ([.string s.f0.f0, .string s.f0.f1, .string s.f0.f2, .int .i64 s.f0.f3, .int .i64 s.f0.f4.f0.f0, .int .i64 s.f0.f4.f0.f1, .int .i64 s.f0.f4.f1.f0, .int .i64 s.f0.f4.f1.f1, .int .i64 s.f0.f4.f2.f0, .int .i64 s.f0.f4.f2.f1, .int .i64 s.f0.f5, .slice A11 s.f0.f6.length c11, .int .i64 s.f0.f7, .int .i64 s.f0.f8.f0, .int .i64 s.f0.f8.f1, .int .i64 s.f0.f8.f2, .bool s.f0.f9, .int .i64 s.f0.f10] : List Value)[j]? = some v) => hcs j v (by
        have hlt := (List.getElem?_eq_some_iff.1 hv).1
        have := List.getElem?_append_left (l₂ := [.int .i64 s.f1, .string s.f2, .string s.f3, .string s.f4]) hlt
        exact this.trans hv))
      have x18 : wr.cell? ⟨(ad.add (k * 22)).block, (ad.add (k * 22)).off + 18, none⟩ = some (.int .i64 s.f1) := hcs 18 _ rfl
      clear hcs g11 l11
      by_cases hp : s.f1 = place
      · have hpd : (s.f1 != place) = false := bne_eq_false_iff_eq.mpr hp
        have HP := Lib.hid hp
        clear hp
        obtain ⟨A, c, e5, hle, hCo⟩ := Kd.R_reads S.out.rr
        replace e5 : u5 = .slice A out.length c := e5
        subst e5
        have HCo := Lib.hid hCo
        clear hCo
        obtain ⟨x, hx⟩ : ∃ x, x = rowT s := ⟨_, rfl⟩
        rw [← hx] at hsc
        go_wp2_with (first
          | ((with_reducible refine gate_dst (N := 30) rfl ?_); refine load_event (N := 30) rfl rfl rfl rfl [.string s.f0.f0, .string s.f0.f1, .string s.f0.f2, .int .i64 s.f0.f3, .int .i64 s.f0.f4.f0.f0, .int .i64 s.f0.f4.f0.f1, .int .i64 s.f0.f4.f1.f0, .int .i64 s.f0.f4.f1.f1, .int .i64 s.f0.f4.f2.f0, .int .i64 s.f0.f4.f2.f1, .int .i64 s.f0.f5, .slice A11 s.f0.f6.length c11, .int .i64 s.f0.f7, .int .i64 s.f0.f8.f0, .int .i64 s.f0.f8.f1, .int .i64 s.f0.f8.f2, .bool s.f0.f9, .int .i64 s.f0.f10] _ H18.out Tryd.underlying97 rfl (by kernel_rfl) ?_)
          | (go_at_call 31; refine hold ?_))
        refine Lib.hid ?_
        have hOf := sawmillref64_Of.calls s.f0.f0 s.f0.f1 s.f0.f2 s.f0.f3 s.f0.f4.f0.f0 s.f0.f4.f0.f1 s.f0.f4.f1.f0 s.f0.f4.f1.f1 s.f0.f4.f2.f0 s.f0.f4.f2.f1 s.f0.f5 A11 c11 s.f0.f6 s.f0.f7 s.f0.f8.f0 s.f0.f8.f1 s.f0.f8.f2 s.f0.f9 s.f0.f10 x.f0 x.f1 x.f2 x.f3 x.f4 wr HG.out HL.out (by unfold sawmillref64_Of.f; rw [lenR_some, hx]; rfl)
        refine hOf.mono ?_
        clear hOf
        rintro e w1 ⟨rfl, B1⟩
        have HX0 := Lib.hid hx
        clear hx x18 z3 HG HL H18
        have HB1 := Lib.hid B1
        have hs1 := B1.size
        clear B1
        go_wp2_with ((with_reducible refine gate_dst (N := 7) rfl ?_); refine copy_event rfl rfl rfl rfl rfl rfl info121 [.int .i64 x.f0, .int .i64 x.f1, .int .i64 x.f2, .int .i64 x.f3, .int .i64 x.f4] rfl rfl rfl (by simp [Value.oneCell']) ?_; intro xb w2 hxb hbk B2 hz2; have HX := Lib.hid hbk; have HB2 := Lib.hid B2; have hzz := Lib.hid hz2; have hxbH := Lib.hid hxb; clear hxb hbk B2 hz2)
        have HBX := Lib.hid (HB1.out.trans (HB2.out.mono hs1))
        have hs12 := HBX.out.size
        have HCO := Lib.hid (Kd.C_below HCo.out HBX.out)
        clear HCo
        go_loopw [8] (fun i wq => ∃ j : Nat, j ≤ out.length ∧ i = .int .i64 j ∧ Hid (∀ t (ht : t < j) (hl : t < out.length), befB out[t] x = true) ∧ Hid (Below w2.heap.size w2 wq)) (fun i _ => out.length - (intOf i).toNat)
        case atStart => exact ⟨0, Nat.zero_le _, rfl, Lib.hid (fun t ht => absurd ht (Nat.not_lt_zero t)), Lib.hid (Below.refl _ _)⟩
        case round =>
          obtain ⟨j, hj, rfl, HBF, BJ⟩ := hrel
          by_cases hjl : j < out.length
          · obtain ⟨ad2, cc, e2, hK2, hcs2⟩ := at_row HCO.out z42 j hjl
            subst e2
            obtain rfl := k42_open hK2
            clear hK2
            have HCR := Lib.hid (fun (W : World) (b : Below w2.heap.size w2 W) => cells_below hcs2 b)
            clear hcs2
            cases hb : befB out[j] x with
            | true =>
              go_wp2_with fail
              refine wp_region_noPanic ?_
              refine RegH.start (S := Below wr.drew.heap.size wr.drew) (f := Tryd.f17) (k := 8) (n := 12) (a' := ⟨#[_, _, _, _, _, _, _, _, _, _, _, _, _, _, _, _, _, _, _, _, _, _, _, _, _, _, _, _, _, _, _, _, _, _, _, _, _, _, _, _, _, _, _, _, _, _, _, _, _, _, _, _, _, _, _, _, _, _, _, _, _, _, _, _, _, _, _, _, _, _, _, _, _, _, _, _, _, _, _, _, _, _, _, _, _, _, _, _, _, _, _, _, _, _, _, _], _⟩) (by kernel_rfl) (by kernel_rfl) (by kernel_rfl) rfl (by kernel_rfl) ?_
              refine rreg8 (fun _ _ _ _ _ h => h) _ _ _ _ _ _ _ _ _ _ _ _ _ _ _ _ _ _ _ _ _ _ _ _ _ _ _ _ _ _ _ _ _ _ _ _ _ _ _ _ _ _ _ _ _ _ _ _ _ _ _ _ _ _ _ _ _ _ _ _ _ _ _ _ _ _ _ _ _ _ _ _ _ _ _ _ _ _ _ _ _ _ _ _ _ _ _ _ _ _ _ _ _ _ (k := j) (n := out.length) (cap := c) (xb := xb) (ad := ad2) (p := ad2.add (j * 5)) out[j] x (decide_eq_true (by omega)) rfl (HCR.out _ (BJ.out.trans (((Below.refl _ _).drew).mono BJ.out.size))) (blk_below HX.out (BJ.out.trans (((Below.refl _ _).drew).mono BJ.out.size))) hb ?_
              intro w4 B4
              refine NoPanic.normal ?_
              have M4 := Lib.hid ((BJ.out.trans (((Below.refl wr.heap.size wr).drew).mono BJ.out.size)).trans (B4.mono (show w2.heap.size ≤ wr.drew.heap.size from BJ.out.size)))
              clear B4
              have HBF2 := Lib.hid (show ∀ t (ht : t < j + 1) (hl : t < out.length), befB out[t] x = true from fun t ht hl => by
                rcases Nat.lt_or_ge t j with h | h
                · exact HBF.out t h hl
                · have e : t = j := by omega
                  subst e
                  exact hb)
              clear hb
              go_wp2_with fail
              go_roundw
              case rel => exact ⟨j + 1, by omega, by go_num, HBF2, M4⟩
              case measure => simp [intOf]; omega
            | false =>
              have hpl : plc out x = j := plc_of (by omega) (fun t ht => HBF.out t ht (by omega)) (fun _ => hb)
              go_wp2_with fail
              refine wp_region_noPanic ?_
              refine RegH.start (S := Below wr.drew.heap.size wr.drew) (f := Tryd.f17) (k := 8) (n := 12) (a' := ⟨#[_, _, _, _, _, _, _, _, _, _, _, _, _, _, _, _, _, _, _, _, _, _, _, _, _, _, _, _, _, _, _, _, _, _, _, _, _, _, _, _, _, _, _, _, _, _, _, _, _, _, _, _, _, _, _, _, _, _, _, _, _, _, _, _, _, _, _, _, _, _, _, _, _, _, _, _, _, _, _, _, _, _, _, _, _, _, _, _, _, _, _, _, _, _, _, _], _⟩) (by kernel_rfl) (by kernel_rfl) (by kernel_rfl) rfl (by kernel_rfl) ?_
              refine rreg8 (fun _ _ _ _ _ h => h) _ _ _ _ _ _ _ _ _ _ _ _ _ _ _ _ _ _ _ _ _ _ _ _ _ _ _ _ _ _ _ _ _ _ _ _ _ _ _ _ _ _ _ _ _ _ _ _ _ _ _ _ _ _ _ _ _ _ _ _ _ _ _ _ _ _ _ _ _ _ _ _ _ _ _ _ _ _ _ _ _ _ _ _ _ _ _ _ _ _ _ _ _ _ (k := j) (n := out.length) (cap := c) (xb := xb) (ad := ad2) (p := ad2.add (j * 5)) out[j] x (decide_eq_true (by omega)) rfl (HCR.out _ (BJ.out.trans (((Below.refl _ _).drew).mono BJ.out.size))) (blk_below HX.out (BJ.out.trans (((Below.refl _ _).drew).mono BJ.out.size))) hb ?_
              intro w4 B4
              refine NoPanic.normal ?_
              have M4 := Lib.hid ((BJ.out.trans (((Below.refl wr.heap.size wr).drew).mono BJ.out.size)).trans (B4.mono (show w2.heap.size ≤ wr.drew.heap.size from BJ.out.size)))
              clear B4
              clear hb
              cases hb2 : befB x out[j] with
              | true =>
                have hno : ¬ (plc out x < out.length ∧ befB x (out.getD (plc out x) z42) = false) := by
                  rw [hpl, getD_at hjl, hb2]
                  exact fun h => Bool.noConfusion h.2
                go_wp2_with fail
                refine wp_region_noPanic ?_
                refine RegH.start (S := Below w4.drew.heap.size w4.drew) (f := Tryd.f17) (k := 10) (n := 13) (a' := ⟨#[_, _, _, _, _, _, _, _, _, _, _, _, _, _, _, _, _, _, _, _, _, _, _, _, _, _, _, _, _, _, _, _, _, _, _, _, _, _, _, _, _, _, _, _, _, _, _, _, _, _, _, _, _, _, _, _, _, _, _, _, _, _, _, _, _, _, _, _, _, _, _, _, _, _, _, _, _, _, _, _, _, _, _, _, _, _, _, _, _, _, _, _, _, _, _, _], _⟩) (by kernel_rfl) (by kernel_rfl) (by kernel_rfl) rfl (by kernel_rfl) ?_
                refine rreg10 (fun _ _ _ _ _ h => h) _ _ _ _ _ _ _ _ _ _ _ _ _ _ _ _ _ _ _ _ _ _ _ _ _ _ _ _ _ _ _ _ _ _ _ _ _ _ _ _ _ _ _ _ _ _ _ _ _ _ _ _ _ _ _ _ _ _ _ _ _ _ _ _ _ _ _ _ _ _ _ _ _ _ _ _ _ _ _ _ _ _ _ _ _ _ _ _ _ _ _ _ _ _ (k := j) (n := out.length) (cap := c) (xb := xb) (ad := ad2) (p := ad2.add (j * 5)) out[j] x (decide_eq_true (by omega)) rfl (HCR.out _ (M4.out.trans (((Below.refl _ _).drew).mono M4.out.size))) (blk_below HX.out (M4.out.trans (((Below.refl _ _).drew).mono M4.out.size))) hb2 ?_
                intro wk B5
                refine NoPanic.normal ?_
                have M5 := Lib.hid ((M4.out.trans (((Below.refl w4.heap.size w4).drew).mono M4.out.size)).trans (B5.mono (show w2.heap.size ≤ w4.drew.heap.size from M4.out.size)))
                clear B5
                clear hb2 HCR HBF
                generalize hA : (some ad2 : Option Addr) = A at *
                have hnew := Lib.hid (show insR out x = (out.take j ++ [x]) ++ out.drop j by unfold insR; rw [if_neg hno, hpl])
                clear hno hpl
                have HCk := Lib.hid (Kd.C_below HCO.out M5.out)
                have hBk := Lib.hid (HBX.out.trans (M5.out.mono hs12))
                have hcut1 := cut_to (P := Tryd.prog) 64 121 .i64 Tryd.underlying64 hi0 A out.length c ((j : Nat) : Int) (by omega) (by omega) hle
                have hcut2 := cut_from (P := Tryd.prog) 64 121 .i64 Tryd.underlying64 hi0 5 hsz0 A out.length c ((j : Nat) : Int) (by omega) (by omega)
                rw [Int.toNat_natCast] at hcut1 hcut2
                obtain ⟨A9', hA9⟩ : ∃ A9', A9' = (if c = j then A else (A).map (·.add (j * 5))) := ⟨_, rfl⟩
                rw [← hA9] at hcut2
                have hA9H := Lib.hid hA9
                clear hA9
                have hxk := Lib.hid (blk_below HX.out M5.out)
                clear M5
                go_wp2_with (first
                  | ((with_reducible refine gate_dst (N := 81) rfl ?_); refine Kd.R_lit k42 (w0 := wk) wk.heap.size 121 ?hg (N := 81) ?hd (xs := ([] : List S42)) (inner := []) (ok := fun _ => True) (okp := fun _ => True) ?hr ?hp (fun _ hk => hk) trivial (Below.refl _ _) (Nat.le_refl _) (by simp) ?_; (case hd => rfl); (case hg => rfl); (case hr => first | (go_simp; done) | (go_simp; rfl)); (case hp => exact (Reps.none _ _)); intro v9 w9 R9 B9 hg9_ hn9_; clear hg9_ hn9_; have HR9 := Lib.hid R9; have HB9 := Lib.hid B9; clear R9 B9)
                  | ((with_reducible refine gate_builtin (b := .append) (xs := #[.tmp 81, .tmp 84]) rfl ?_); at_builtin; refine hold ?_))
                refine Lib.hid ?_
                have hC9 := Kd.C_take (m := j) (Kd.C_below HCk.out HB9.out) (by omega)
                rw [List.length_take, Nat.min_eq_left (by omega : j ≤ out.length)] at hC9
                refine Kd.R_append_rows k42 (Rr := k42.K w9) (w0 := wk) wk.heap.size rfl (.tmp 81) (.tmp 84) 64 121 (.agg #[.int .i64 0, .int .i64 0, .int .i64 0, .int .i64 0, .int .i64 0]) 40 rfl Tryd.underlying64 info121 rfl (Nat.succ_pos 4) (by omega) v9 [] (out.take j) A j c (fun _ => True) (fun _ => False) rfl rfl HR9.out hC9 (fun x cs h => by obtain rfl := k42_open h; exact k42_mkM _ _ _ x) (fun _ hk => hk.elim) (fun _ _ => trivial) HB9.out HB9.out.size (by simp only [List.length_nil]; omega) ?_
                intro v10 w10 R10 B10 hg_ ha_
                clear hg_ ha_ hC9 HR9 HB9
                rw [List.nil_append] at R10
                have HR10 := Lib.hid R10
                have HB10 := Lib.hid B10
                clear R10 B10
                go_wp2_with (first
                  | ((with_reducible refine gate_dst (N := 87) rfl ?_); refine load_event (N := 87) rfl rfl rfl rfl [.int .i64 x.f0, .int .i64 x.f1, .int .i64 x.f2, .int .i64 x.f3, .int .i64 x.f4] _ (row_cells (blk_below hxk.out HB10.out)) Tryd.underlying121 rfl (by kernel_rfl) ?_)
                  | ((with_reducible refine gate_builtin (b := .append) (xs := #[.tmp 86, .tmp 88]) rfl ?_); at_builtin; refine hold ?_))
                refine Lib.hid ?_
                refine Kd.R_append k42 (w0 := wk) wk.heap.size rfl (.tmp 86) (.tmp 88) 64 121 (.agg #[.int .i64 0, .int .i64 0, .int .i64 0, .int .i64 0, .int .i64 0]) 40 rfl Tryd.underlying64 info121 rfl (Nat.succ_pos 4) (by omega) v10 (out.take j) x [.int .i64 x.f0, .int .i64 x.f1, .int .i64 x.f2, .int .i64 x.f3, .int .i64 x.f4] (fun _ => True) (fun _ => False) rfl rfl (k42_mkM _ _ _ x) (fun _ hk => hk.elim) (fun _ _ => trivial) HR10.out HB10.out HB10.out.size (by rw [List.length_take]; omega) ?_
                intro v11 w11 R11 B11 hg_ ha_
                clear hg_ ha_ HR10 HB10
                have HR11 := Lib.hid R11
                have HB11 := Lib.hid B11
                clear R11 B11
                go_wp2_with ((with_reducible refine gate_builtin (b := .append) (xs := #[.tmp 90, .tmp 93]) rfl ?_); at_builtin; refine hold ?_)
                refine Lib.hid ?_
                have hC11 := Kd.C_drop (c := c) (m := j) (Kd.C_below HCk.out HB11.out) (by omega) hle
                rw [List.length_drop] at hC11
                replace hC11 : Kd.C k42 w11 (if c = j then A else (A).map (·.add (j * 5))) (out.length - j) (out.drop j) := hC11
                rw [← hA9H.out] at hC11
                refine Kd.R_append_rows k42 (Rr := k42.K w11) (w0 := wk) wk.heap.size rfl (.tmp 90) (.tmp 93) 64 121 (.agg #[.int .i64 0, .int .i64 0, .int .i64 0, .int .i64 0, .int .i64 0]) 40 rfl Tryd.underlying64 info121 rfl (Nat.succ_pos 4) (by omega) v11 (out.take j ++ [x]) (out.drop j) A9' (out.length - j) (c - j) (fun _ => True) (fun _ => False) rfl rfl HR11.out hC11 (fun x cs h => by obtain rfl := k42_open h; exact k42_mkM _ _ _ x) (fun _ hk => hk.elim) (fun _ _ => trivial) HB11.out HB11.out.size (by rw [List.length_append, List.length_take, List.length_singleton]; omega) ?_
                intro v12 w12 R12 B12 hg_ ha_
                clear hg_ ha_ hC11 HR11 HB11
                have HI := Lib.hid (RKI.next S.out (hBk.out.trans (B12.mono hBk.out.size)) (show RR w12 wk.heap.size v12 (insR out x) by rw [hnew.out]; exact R12) hBk.out.size)
                clear R12 B12 hcut1 hcut2
                go_wp2_with fail
                go_roundw
                case rel => exact ⟨k + 1, by omega, by go_num, by rw [hsc.out, if_pos HP.out]; exact HI⟩
                case measure => simp [intOf]; omega
              | false =>
                have hyes := Lib.hid (show insR out x = out.set j (bump out[j] x.f4) by
                  unfold insR
                  rw [hpl, if_pos ⟨hjl, by rw [getD_at hjl]; exact hb2⟩, getD_at hjl])
                go_wp2_with fail
                refine wp_region_noPanic ?_
                refine RegH.start (S := Below w4.drew.heap.size w4.drew) (f := Tryd.f17) (k := 10) (n := 13) (a' := ⟨#[_, _, _, _, _, _, _, _, _, _, _, _, _, _, _, _, _, _, _, _, _, _, _, _, _, _, _, _, _, _, _, _, _, _, _, _, _, _, _, _, _, _, _, _, _, _, _, _, _, _, _, _, _, _, _, _, _, _, _, _, _, _, _, _, _, _, _, _, _, _, _, _, _, _, _, _, _, _, _, _, _, _, _, _, _, _, _, _, _, _, _, _, _, _, _, _], _⟩) (by kernel_rfl) (by kernel_rfl) (by kernel_rfl) rfl (by kernel_rfl) ?_
                refine rreg10 (fun _ _ _ _ _ h => h) _ _ _ _ _ _ _ _ _ _ _ _ _ _ _ _ _ _ _ _ _ _ _ _ _ _ _ _ _ _ _ _ _ _ _ _ _ _ _ _ _ _ _ _ _ _ _ _ _ _ _ _ _ _ _ _ _ _ _ _ _ _ _ _ _ _ _ _ _ _ _ _ _ _ _ _ _ _ _ _ _ _ _ _ _ _ _ _ _ _ _ _ _ _ (k := j) (n := out.length) (cap := c) (xb := xb) (ad := ad2) (p := ad2.add (j * 5)) out[j] x (decide_eq_true (by omega)) rfl (HCR.out _ (M4.out.trans (((Below.refl _ _).drew).mono M4.out.size))) (blk_below HX.out (M4.out.trans (((Below.refl _ _).drew).mono M4.out.size))) hb2 ?_
                intro wk B5
                refine NoPanic.normal ?_
                have M5 := Lib.hid ((M4.out.trans (((Below.refl w4.heap.size w4).drew).mono M4.out.size)).trans (B5.mono (show w2.heap.size ≤ w4.drew.heap.size from M4.out.size)))
                clear B5
                clear hb2 HCR HBF hpl
                have Sk := Lib.hid (S.out.below (HBX.out.trans (M5.out.mono hs12)))
                obtain ⟨g, cap, hsh⟩ : ∃ g cap, (.slice (some ad2) out.length c : Value) = .slice (some ⟨g, 0, none⟩) out.length cap := by
                  rcases RR_shape Sk.out.rr with ⟨h1, h2⟩ | ⟨g, cap, h1⟩
                  · rw [h2] at hjl; simp at hjl
                  · exact ⟨g, cap, h1⟩
                injection hsh with e1 e2 e3
                injection e1 with e1
                subst e1 e3
                clear e2
                go_wp2_with fail
                have Sd := Lib.hid (Sk.out.below ((Below.refl _ _).drew))
                have hxk := blk_below (blk_below HX.out M5.out) ((Below.refl _ _).drew)
                have hne : xb ≠ g := fun e => by
                  have h1 := (RR_block Sk.out.rr).2.2.2.2
                  have h2 := Kd.R_lt S.out.rr g rfl
                  have h3 := hxbH.out
                  omega
                obtain ⟨t3, t4⟩ := RR_cells Sd.out.rr hjl
                obtain ⟨R3, G3⟩ := RR_set3 Sd.out.rr hjl (wrap64 (out[j].f3 + 1))
                have hj3 : j < (out.set j { out[j] with f3 := wrap64 (out[j].f3 + 1) }).length := by rw [List.length_set]; exact hjl
                obtain ⟨t3', t4'⟩ := RR_cells R3 hj3
                obtain ⟨R4, G4⟩ := RR_set4 R3 hj3 (wrap64 (out[j].f4 + x.f4))
                have hx3 := cell_grown G3 (blk_cell hxk 4) (fun e => by injection e with e; exact hne e)
                have hx4 := cell_grown G4 hx3 (fun e => by injection e with e; exact hne e)
                refine wp_region_noPanic ?_
                refine RegH.start (S := (fun w => w.cell? ⟨xb, 4, none⟩ = some (.int .i64 x.f4))) (f := Tryd.f17) (k := 11) (n := 24) (a' := ⟨#[_, _, _, _, _, _, _, _, _, _, _, _, _, _, _, _, _, _, _, _, _, _, _, _, _, _, _, _, _, _, _, _, _, _, _, _, _, _, _, _, _, _, _, _, _, _, _, _, _, _, _, _, _, _, _, _, _, _, _, _, _, _, _, _, _, _, _, _, _, _, _, _, _, _, _, _, _, _, _, _, _, _, _, _, _, _, _, _, _, _, _, _, _, _, _, _], _⟩) (by kernel_rfl) (by kernel_rfl) (by kernel_rfl) rfl (by kernel_rfl) ?_
                refine rreg11 (fun _ _ _ _ _ h => h) _ _ _ _ _ _ _ _ _ _ _ _ _ _ _ _ _ _ _ _ _ _ _ _ _ _ _ _ _ _ _ _ _ _ _ _ _ _ _ _ _ _ _ _ _ _ _ _ _ _ _ _ _ _ _ _ _ _ _ _ _ _ _ _ _ _ _ _ _ _ _ _ _ _ _ _ _ _ _ _ _ _ _ _ _ _ _ _ _ _ _ _ _ _ (g := g) (k := j) (n := out.length) (cap := c) (xb := xb) (r3 := out[j].f3) (r4 := out[j].f4) (z4 := x.f4) hjl t3 t4 (blk_cell hxk 4) hne (RR_frozen Sd.out.rr _) (RR_frozen R3 _) (t4'.trans (by simp)) hx3 hx4 ?_
                refine NoPanic.normal ?_
                have HI : Hid (RKI w ((wk.drew.setCell ⟨g, j * 5 + 3, none⟩ (.int .i64 (wrap64 (out[j].f3 + 1)))).setCell ⟨g, j * 5 + 4, none⟩ (.int .i64 (wrap64 (out[j].f4 + x.f4)))) #[.int .i64 a0, .slice A1 n1 c1, .slice A2 n2 c2, .slice (some ad) l.length c3, .slice A4 n4 c4, .slice A5 n5 c5, .int .i64 a6, .int .i64 a7, .slice A8 n8 c8, .slice A9 n9 c9] (.slice (some ⟨g, 0, none⟩) out.length c) (insR out x)) := by
                  have hg1 : w.heap.size + 1 ≤ g := Kd.R_base Sk.out.rr g rfl
                  have e4 : ((out.set j { out[j] with f3 := wrap64 (out[j].f3 + 1) }).set j { (out.set j { out[j] with f3 := wrap64 (out[j].f3 + 1) })[j] with f4 := wrap64 (out[j].f4 + x.f4) }) = insR out x := by
                    rw [hyes.out]
                    simp only [List.getElem_set_self, List.set_set]
                    rfl
                  rw [e4] at R4
                  exact Lib.hid ⟨blk_grown (blk_grown Sd.out.st G3 (fun e => by injection e; omega)) G4 (fun e => by injection e; omega), R4, (Sd.out.bl.grown G3 Sd.out.bl.size (fun k e => by injection e; omega)).grown G4 (by have := Sd.out.bl.size; have := G3.size; omega) (fun k e => by injection e; omega)⟩
                clear R3 R4 G3 G4 t3 t4 t3' t4' hx3 hx4 hxk
                go_wp2_with fail
                go_roundw
                case rel => exact ⟨k + 1, by omega, by go_num, by rw [hsc.out, if_pos HP.out]; exact HI⟩
                case measure => simp [intOf]; omega
          · have hpl : plc out x = j := plc_of hj (fun t ht => HBF.out t ht (by omega)) (fun h => absurd h hjl)
            have hno : ¬ (plc out x < out.length ∧ befB x (out.getD (plc out x) z42) = false) := fun h => by rw [hpl] at h; exact hjl h.1
            go_wp2_with fail
            refine wp_region_noPanic ?_
            refine RegH.start (S := Below wr.drew.heap.size wr.drew) (f := Tryd.f17) (k := 8) (n := 12) (a' := ⟨#[_, _, _, _, _, _, _, _, _, _, _, _, _, _, _, _, _, _, _, _, _, _, _, _, _, _, _, _, _, _, _, _, _, _, _, _, _, _, _, _, _, _, _, _, _, _, _, _, _, _, _, _, _, _, _, _, _, _, _, _, _, _, _, _, _, _, _, _, _, _, _, _, _, _, _, _, _, _, _, _, _, _, _, _, _, _, _, _, _, _, _, _, _, _, _, _], _⟩) (by kernel_rfl) (by kernel_rfl) (by kernel_rfl) rfl (by kernel_rfl) ?_
            refine rreg8n (fun _ _ _ _ _ h => h) _ _ _ _ _ _ _ _ _ _ _ _ _ _ _ _ _ _ _ _ _ _ _ _ _ _ _ _ _ _ _ _ _ _ _ _ _ _ _ _ _ _ _ _ _ _ _ _ _ _ _ _ _ _ _ _ _ _ _ _ _ _ _ _ _ _ _ _ _ _ _ _ _ _ _ _ _ _ _ _ _ _ _ _ _ _ _ _ _ _ _ _ _ _ (k := j) (n := out.length) (cap := c) (xb := xb) (A := A) (decide_eq_false (by omega)) ?_
            refine NoPanic.normal ?_
            have M4 := Lib.hid (BJ.out.trans (((Below.refl wr.heap.size wr).drew).mono BJ.out.size))
            generalize wr.drew = w4 at *
            go_wp2_with fail
            refine wp_region_noPanic ?_
            refine RegH.start (S := Below w4.drew.heap.size w4.drew) (f := Tryd.f17) (k := 10) (n := 13) (a' := ⟨#[_, _, _, _, _, _, _, _, _, _, _, _, _, _, _, _, _, _, _, _, _, _, _, _, _, _, _, _, _, _, _, _, _, _, _, _, _, _, _, _, _, _, _, _, _, _, _, _, _, _, _, _, _, _, _, _, _, _, _, _, _, _, _, _, _, _, _, _, _, _, _, _, _, _, _, _, _, _, _, _, _, _, _, _, _, _, _, _, _, _, _, _, _, _, _, _], _⟩) (by kernel_rfl) (by kernel_rfl) (by kernel_rfl) rfl (by kernel_rfl) ?_
            refine rreg10n (fun _ _ _ _ _ h => h) _ _ _ _ _ _ _ _ _ _ _ _ _ _ _ _ _ _ _ _ _ _ _ _ _ _ _ _ _ _ _ _ _ _ _ _ _ _ _ _ _ _ _ _ _ _ _ _ _ _ _ _ _ _ _ _ _ _ _ _ _ _ _ _ _ _ _ _ _ _ _ _ _ _ _ _ _ _ _ _ _ _ _ _ _ _ _ _ _ _ _ _ _ _ (k := j) (n := out.length) (cap := c) (xb := xb) (A := A) (decide_eq_false (by omega)) ?_
            refine NoPanic.normal ?_
            have M5 := Lib.hid (M4.out.trans (((Below.refl w4.heap.size w4).drew).mono M4.out.size))
            generalize w4.drew = wk at *
            clear HBF
            have hnew := Lib.hid (show insR out x = (out.take j ++ [x]) ++ out.drop j by unfold insR; rw [if_neg hno, hpl])
            clear hno hpl
            have HCk := Lib.hid (Kd.C_below HCO.out M5.out)
            have hBk := Lib.hid (HBX.out.trans (M5.out.mono hs12))
            have hcut1 := cut_to (P := Tryd.prog) 64 121 .i64 Tryd.underlying64 hi0 A out.length c ((j : Nat) : Int) (by omega) (by omega) hle
            have hcut2 := cut_from (P := Tryd.prog) 64 121 .i64 Tryd.underlying64 hi0 5 hsz0 A out.length c ((j : Nat) : Int) (by omega) (by omega)
            rw [Int.toNat_natCast] at hcut1 hcut2
            obtain ⟨A9', hA9⟩ : ∃ A9', A9' = (if c = j then A else (A).map (·.add (j * 5))) := ⟨_, rfl⟩
            rw [← hA9] at hcut2
            have hA9H := Lib.hid hA9
            clear hA9
            have hxk := Lib.hid (blk_below HX.out M5.out)
            clear M5
            go_wp2_with (first
              | ((with_reducible refine gate_dst (N := 81) rfl ?_); refine Kd.R_lit k42 (w0 := wk) wk.heap.size 121 ?hg (N := 81) ?hd (xs := ([] : List S42)) (inner := []) (ok := fun _ => True) (okp := fun _ => True) ?hr ?hp (fun _ hk => hk) trivial (Below.refl _ _) (Nat.le_refl _) (by simp) ?_; (case hd => rfl); (case hg => rfl); (case hr => first | (go_simp; done) | (go_simp; rfl)); (case hp => exact (Reps.none _ _)); intro v9 w9 R9 B9 hg9_ hn9_; clear hg9_ hn9_; have HR9 := Lib.hid R9; have HB9 := Lib.hid B9; clear R9 B9)
              | ((with_reducible refine gate_builtin (b := .append) (xs := #[.tmp 81, .tmp 84]) rfl ?_); at_builtin; refine hold ?_))
            refine Lib.hid ?_
            have hC9 := Kd.C_take (m := j) (Kd.C_below HCk.out HB9.out) (by omega)
            rw [List.length_take, Nat.min_eq_left (by omega : j ≤ out.length)] at hC9
            refine Kd.R_append_rows k42 (Rr := k42.K w9) (w0 := wk) wk.heap.size rfl (.tmp 81) (.tmp 84) 64 121 (.agg #[.int .i64 0, .int .i64 0, .int .i64 0, .int .i64 0, .int .i64 0]) 40 rfl Tryd.underlying64 info121 rfl (Nat.succ_pos 4) (by omega) v9 [] (out.take j) A j c (fun _ => True) (fun _ => False) rfl rfl HR9.out hC9 (fun x cs h => by obtain rfl := k42_open h; exact k42_mkM _ _ _ x) (fun _ hk => hk.elim) (fun _ _ => trivial) HB9.out HB9.out.size (by simp only [List.length_nil]; omega) ?_
            intro v10 w10 R10 B10 hg_ ha_
            clear hg_ ha_ hC9 HR9 HB9
            rw [List.nil_append] at R10
            have HR10 := Lib.hid R10
            have HB10 := Lib.hid B10
            clear R10 B10
            go_wp2_with (first
              | ((with_reducible refine gate_dst (N := 87) rfl ?_); refine load_event (N := 87) rfl rfl rfl rfl [.int .i64 x.f0, .int .i64 x.f1, .int .i64 x.f2, .int .i64 x.f3, .int .i64 x.f4] _ (row_cells (blk_below hxk.out HB10.out)) Tryd.underlying121 rfl (by kernel_rfl) ?_)
              | ((with_reducible refine gate_builtin (b := .append) (xs := #[.tmp 86, .tmp 88]) rfl ?_); at_builtin; refine hold ?_))
            refine Lib.hid ?_
            refine Kd.R_append k42 (w0 := wk) wk.heap.size rfl (.tmp 86) (.tmp 88) 64 121 (.agg #[.int .i64 0, .int .i64 0, .int .i64 0, .int .i64 0, .int .i64 0]) 40 rfl Tryd.underlying64 info121 rfl (Nat.succ_pos 4) (by omega) v10 (out.take j) x [.int .i64 x.f0, .int .i64 x.f1, .int .i64 x.f2, .int .i64 x.f3, .int .i64 x.f4] (fun _ => True) (fun _ => False) rfl rfl (k42_mkM _ _ _ x) (fun _ hk => hk.elim) (fun _ _ => trivial) HR10.out HB10.out HB10.out.size (by rw [List.length_take]; omega) ?_
            intro v11 w11 R11 B11 hg_ ha_
            clear hg_ ha_ HR10 HB10
            have HR11 := Lib.hid R11
            have HB11 := Lib.hid B11
            clear R11 B11
            go_wp2_with ((with_reducible refine gate_builtin (b := .append) (xs := #[.tmp 90, .tmp 93]) rfl ?_); at_builtin; refine hold ?_)
            refine Lib.hid ?_
            have hC11 := Kd.C_drop (c := c) (m := j) (Kd.C_below HCk.out HB11.out) (by omega) hle
            rw [List.length_drop] at hC11
            replace hC11 : Kd.C k42 w11 (if c = j then A else (A).map (·.add (j * 5))) (out.length - j) (out.drop j) := hC11
            rw [← hA9H.out] at hC11
            refine Kd.R_append_rows k42 (Rr := k42.K w11) (w0 := wk) wk.heap.size rfl (.tmp 90) (.tmp 93) 64 121 (.agg #[.int .i64 0, .int .i64 0, .int .i64 0, .int .i64 0, .int .i64 0]) 40 rfl Tryd.underlying64 info121 rfl (Nat.succ_pos 4) (by omega) v11 (out.take j ++ [x]) (out.drop j) A9' (out.length - j) (c - j) (fun _ => True) (fun _ => False) rfl rfl HR11.out hC11 (fun x cs h => by obtain rfl := k42_open h; exact k42_mkM _ _ _ x) (fun _ hk => hk.elim) (fun _ _ => trivial) HB11.out HB11.out.size (by rw [List.length_append, List.length_take, List.length_singleton]; omega) ?_
            intro v12 w12 R12 B12 hg_ ha_
            clear hg_ ha_ hC11 HR11 HB11
            have HI := Lib.hid (RKI.next S.out (hBk.out.trans (B12.mono hBk.out.size)) (show RR w12 wk.heap.size v12 (insR out x) by rw [hnew.out]; exact R12) hBk.out.size)
            clear R12 B12 hcut1 hcut2
            go_wp2_with fail
            go_roundw
            case rel => exact ⟨k + 1, by omega, by go_num, by rw [hsc.out, if_pos HP.out]; exact HI⟩
            case measure => simp [intOf]; omega
      · have hpd : (s.f1 != place) = true := bne_iff_ne.mpr hp
        have HP := Lib.hid hp
        clear hp
        go_wp2_with fail
        go_roundw
        case rel => exact ⟨k + 1, by omega, by go_num, by rw [hsc.out, if_neg HP.out]; exact S⟩
        case measure => simp [intOf]; omega
    · have hkl : k = l.length := by omega
      subst hkl
      go_wp2_with fail
      go_ret
      exact ⟨_, rfl, Kd.R_lower S.out.rr (by omega), S.out.bl⟩
#print axioms refStock_any
end Go.Proofs.YtnhflmihjegaiaaDoor
