/- ReportSums, the plain law: what the rows of a stock are. -/
import Derived.Test.YtnhflmihjegaiaaDoorTextB
import Derived.Test.YtnhflmihjegaiaaDoorMill
namespace Go.Proofs.YtnhflmihjegaiaaDoor
open Go.RowKit Go.Proofs.YtnhflmihjegaiaaDoorW.PrintWords P
set_option linter.unusedSimpArgs false
set_option linter.unusedVariables false

def keyOf (y : S42) : Int × Int × Int := (y.f0, y.f1, y.f2)
theorem sameK_iff (a b : S42) : sameK a b = true ↔ keyOf a = keyOf b := by
  unfold sameK keyOf
  simp [and_assoc]
theorem sum_set : ∀ (l : List Int) (i : Nat) (h : i < l.length) (v : Int), (l.set i v).sum = l.sum - l[i] + v
  | x :: t, 0, h, v => by simp; omega
  | x :: t, i + 1, h, v => by
    simp only [List.set_cons_succ, List.sum_cons, List.getElem_cons_succ]
    rw [sum_set t i (by simpa using h) v]
    omega
theorem perm_sum {l l' : List Int} (h : l.Perm l') : l.sum = l'.sum := by
  induction h with
  | nil => rfl
  | cons x _ ih => simp only [List.sum_cons, ih]
  | swap x y l => simp only [List.sum_cons]; omega
  | trans _ _ ih1 ih2 => exact ih1.trans ih2
structure TG (xs : List S42) (k : Nat) (cnt vol : Int) : Prop where
  dist : (xs.map keyOf).Nodup
  pos : ∀ y ∈ xs, (1 ≤ y.f3 ∧ y.f3 ≤ k) ∧ (0 ≤ y.f4 ∧ y.f4 ≤ k * 4294967296)
  csum : (xs.map (·.f3)).sum = cnt
  vsum : (xs.map (·.f4)).sum = vol
theorem wrap_i {n : Int} (h : -9223372036854775808 ≤ n ∧ n ≤ 9223372036854775807) : wrap64 n = n := by unfold wrap64; omega
theorem tally_step {xs : List S42} {k : Nat} {c v : Int} (h : TG xs k c v) {x : S42} {vol : Int} (hx3 : x.f3 = 0) (hx4 : x.f4 = 0) (hv : 0 ≤ vol ∧ vol ≤ 4294967295) (hk : k ≤ 1000) :
    TG (tallyP xs x vol) (k + 1) (c + 1) (v + vol) ∧ keyOf x ∈ (tallyP xs x vol).map keyOf ∧ ∀ q ∈ xs.map keyOf, q ∈ (tallyP xs x vol).map keyOf := by
  unfold tallyP
  cases hf : xs.findIdx? (sameK x) with
  | some i =>
    obtain ⟨hi, hp, _⟩ := List.findIdx?_eq_some_iff_getElem.1 hf
    have hg : xs.getD i x = xs[i] := by rw [List.getD_eq_getElem?_getD, List.getElem?_eq_getElem hi]; rfl
    dsimp only
    rw [hg]
    have hpi := h.pos xs[i] (List.getElem_mem hi)
    have hw3 : wrap64 (xs[i].f3 + 1) = xs[i].f3 + 1 := wrap_i (by omega)
    have hw4 : wrap64 (xs[i].f4 + vol) = xs[i].f4 + vol := wrap_i (by omega)
    have hkeys : (xs.set i (bump xs[i] vol)).map keyOf = xs.map keyOf := by
      rw [List.map_set]
      have : keyOf (bump xs[i] vol) = (xs.map keyOf)[i]'(by simpa using hi) := by rw [List.getElem_map]; rfl
      rw [this]
      exact List.set_getElem_self _
    refine ⟨⟨by rw [hkeys]; exact h.dist, fun y hy => ?_, ?_, ?_⟩, ?_, fun q hq => by rw [hkeys]; exact hq⟩
    · rcases List.mem_or_eq_of_mem_set hy with hy | rfl
      · have := h.pos y hy
        omega
      · show (1 ≤ wrap64 (xs[i].f3 + 1) ∧ wrap64 (xs[i].f3 + 1) ≤ _) ∧ (0 ≤ wrap64 (xs[i].f4 + vol) ∧ wrap64 (xs[i].f4 + vol) ≤ _)
        rw [hw3, hw4]
        omega
    · rw [List.map_set, sum_set _ i (by simpa using hi), List.getElem_map, h.csum]
      show c - xs[i].f3 + wrap64 (xs[i].f3 + 1) = c + 1
      rw [hw3]; omega
    · rw [List.map_set, sum_set _ i (by simpa using hi), List.getElem_map, h.vsum]
      show v - xs[i].f4 + wrap64 (xs[i].f4 + vol) = v + vol
      rw [hw4]; omega
    · rw [hkeys, (sameK_iff x xs[i]).1 hp]
      exact List.mem_map.2 ⟨_, List.getElem_mem hi, rfl⟩
  | none =>
    have hn := List.findIdx?_eq_none_iff.1 hf
    have hw3 : wrap64 (x.f3 + 1) = 1 := by rw [hx3]; exact wrap_i (by omega)
    have hw4 : wrap64 (x.f4 + vol) = vol := by rw [hx4, Int.zero_add]; exact wrap_i (by omega)
    have hb : keyOf (bump x vol) = keyOf x := rfl
    dsimp only
    refine ⟨⟨?_, fun y hy => ?_, ?_, ?_⟩, ?_, fun q hq => ?_⟩
    · rw [List.map_append, List.nodup_append]
      refine ⟨h.dist, by simp, fun a ha b hbm => ?_⟩
      obtain ⟨y, hy, rfl⟩ := List.mem_map.1 ha
      simp only [List.map_cons, List.map_nil, List.mem_singleton] at hbm
      rw [hbm, hb]
      intro e
      have h2 := hn y hy
      rw [(sameK_iff x y).2 e.symm] at h2
      cases h2
    · rcases List.mem_append.1 hy with hy | hy
      · have := h.pos y hy
        omega
      · rw [List.mem_singleton.1 hy]
        show (1 ≤ wrap64 (x.f3 + 1) ∧ wrap64 (x.f3 + 1) ≤ _) ∧ (0 ≤ wrap64 (x.f4 + vol) ∧ wrap64 (x.f4 + vol) ≤ _)
        rw [hw3, hw4]
        omega
    · rw [List.map_append, List.sum_append, h.csum]
      show c + (wrap64 (x.f3 + 1) + 0) = c + 1
      rw [hw3]; omega
    · rw [List.map_append, List.sum_append, h.vsum]
      show v + (wrap64 (x.f4 + vol) + 0) = v + vol
      rw [hw4]; omega
    · rw [List.map_append]
      exact List.mem_append_right _ (by rw [← hb]; exact List.mem_singleton.2 rfl)
    · rw [List.map_append]
      exact List.mem_append_left _ hq
def cnt87 (ls : List S87) (place : Int) (k : Nat) : Int := (((ls.take k).filter (fun s => decide (s.f4 = place))).length : Int)
def vol87 (ls : List S87) (place : Int) (k : Nat) : Int := (((ls.take k).filter (fun s => decide (s.f4 = place))).map (·.f3)).sum
theorem cnt87_succ (ls : List S87) (place : Int) (k : Nat) (h : k < ls.length) : cnt87 ls place (k + 1) = cnt87 ls place k + (if ls[k].f4 = place then 1 else 0) := by
  unfold cnt87
  rw [List.take_add_one, List.getElem?_eq_getElem h]
  simp only [Option.toList_some, List.filter_append, List.length_append]
  by_cases hp : ls[k].f4 = place
  · rw [if_pos hp, List.filter_cons_of_pos (by simpa using hp)]; simp
  · rw [if_neg hp, List.filter_cons_of_neg (by simpa using hp)]; simp
theorem vol87_succ (ls : List S87) (place : Int) (k : Nat) (h : k < ls.length) : vol87 ls place (k + 1) = vol87 ls place k + (if ls[k].f4 = place then ls[k].f3 else 0) := by
  unfold vol87
  rw [List.take_add_one, List.getElem?_eq_getElem h]
  simp only [Option.toList_some, List.filter_append, List.map_append, List.sum_append]
  by_cases hp : ls[k].f4 = place
  · rw [if_pos hp, List.filter_cons_of_pos (by simpa using hp)]; simp
  · rw [if_neg hp, List.filter_cons_of_neg (by simpa using hp)]; simp
theorem cnt87_bnd (ls : List S87) (place : Int) : ∀ k, 0 ≤ cnt87 ls place k ∧ cnt87 ls place k ≤ k := by
  intro k
  unfold cnt87
  have h1 := List.length_filter_le (fun s : S87 => decide (s.f4 = place)) (ls.take k)
  have h2 : (ls.take k).length ≤ k := by rw [List.length_take]; exact Nat.min_le_left _ _
  omega
def clampL (n : Int) : Int := mx 0 (mn n 1073741824)
theorem clamp_bnd (n : Int) : 0 ≤ clampL n ∧ clampL n ≤ 1073741824 := by unfold clampL mx mn; split <;> split <;> omega
theorem lenG_clamp (i : Int) (hi : 0 ≤ i ∧ i ≤ 100000) (n : Int) : lenG i (wrap64 (i + clampL n)) = clampL n := by
  have hc := clamp_bnd n
  rw [wrap_i (by omega)]
  unfold lenG
  by_cases h0 : clampL n = 0
  · rw [if_pos (by omega)]; omega
  · rw [if_neg (by omega), if_neg (by omega)]
    rw [wrap_i (by omega)]; omega
def key87 (s : S87) : Int × Int × Int := (s.f0, clampL s.f1, s.f2)
theorem itemsK_get (ls : List S87) (k : Nat) (h : k < ls.length) : ∃ h2 : k < (itemsK ls ls.length).length, (itemsK ls ls.length)[k] = itemOf ls[k] (k : Int) := by
  have hl := itemsK_len ls ls.length (Nat.le_refl _)
  refine ⟨by omega, ?_⟩
  unfold itemsK
  rw [List.getElem_mapIdx]
  simp
theorem stock_good (ls : List S87) (place : Int) (hl : ls.length ≤ 100) (hv : ∀ s ∈ ls, 0 ≤ s.f3 ∧ s.f3 ≤ 4294967295) : ∀ k, k ≤ ls.length →
    TG (stockK (itemsK ls ls.length) place k) k (cnt87 ls place k) (vol87 ls place k) ∧ ∀ i (h : i < ls.length), i < k → ls[i].f4 = place → key87 ls[i] ∈ (stockK (itemsK ls ls.length) place k).map keyOf
  | 0, _ => ⟨⟨by simp [stockK], fun y hy => by simp [stockK] at hy, by simp [stockK, cnt87], by simp [stockK, vol87]⟩, fun i _ h => by omega⟩
  | k + 1, hk => by
    obtain ⟨ih, ihk⟩ := stock_good ls place hl hv k (by omega)
    obtain ⟨h2, he⟩ := itemsK_get ls k (by omega)
    rw [stockK_succ _ place k h2, he, cnt87_succ ls place k (by omega), vol87_succ ls place k (by omega)]
    have hvk := hv _ (List.getElem_mem (show k < ls.length by omega))
    have e1 : (itemOf ls[k] (k : Int)).f1 = ls[k].f4 := rfl
    have e5 : (itemOf ls[k] (k : Int)).f0.f5 = ls[k].f3 := by
      show wrap64 ls[k].f3 = _
      exact wrap_i (by omega)
    have ek : keyOf (itemT (itemOf ls[k] (k : Int))) = key87 ls[k] := by
      show (ls[k].f0, lenG (k : Int) (wrap64 ((k : Int) + clampL ls[k].f1)), ls[k].f2) = _
      rw [lenG_clamp _ (by omega)]
      rfl
    rw [e1, e5]
    by_cases hp : ls[k].f4 = place
    · rw [if_pos hp, if_pos hp, if_pos hp]
      obtain ⟨h3, h4, h5⟩ := tally_step ih (x := itemT (itemOf ls[k] (k : Int))) (vol := ls[k].f3) rfl rfl hvk (by omega)
      refine ⟨h3, fun i hi hik hpi => ?_⟩
      by_cases hikk : i = k
      · subst hikk
        rw [← ek]
        exact h4
      · exact h5 _ (ihk i hi (by omega) hpi)
    · rw [if_neg hp, if_neg hp, if_neg hp, Int.add_zero, Int.add_zero]
      refine ⟨⟨ih.dist, fun y hy => ?_, ih.csum, ih.vsum⟩, fun i hi hik hpi => ?_⟩
      · have := ih.pos y hy
        omega
      · by_cases hikk : i = k
        · subst hikk
          exact absurd hpi hp
        · exact ihk i hi (by omega) hpi
/-! ### the sorted rows -/
def ltR (a b : S84) : Prop := a.f0 < b.f0 ∨ (a.f0 = b.f0 ∧ (a.f1 < b.f1 ∨ (a.f1 = b.f1 ∧ a.f2 < b.f2)))
def matchB (s : S87) (r : S84) : Bool := decide (r.f0 = s.f0) && (decide (r.f1 = clampL s.f1) && decide (r.f2 = s.f2))
theorem count_one (q : Int × Int × Int) : ∀ (d : List S42), (d.map keyOf).Nodup → q ∈ d.map keyOf → (d.filter (fun y => decide (keyOf y = q))).length = 1
  | [], _, h => by simp at h
  | y :: t, hn, h => by
    rw [List.map_cons, List.nodup_cons] at hn
    by_cases hy : keyOf y = q
    · rw [List.filter_cons_of_pos (by simpa using hy)]
      have : t.filter (fun y => decide (keyOf y = q)) = [] := by
        rw [List.filter_eq_nil_iff]
        intro z hz hzq
        refine hn.1 ?_
        rw [hy, ← (by simpa using hzq : keyOf z = q)]
        exact List.mem_map.2 ⟨z, hz, rfl⟩
      rw [this]
      rfl
    · rw [List.filter_cons_of_neg (by simpa using hy)]
      refine count_one q t hn.2 ?_
      rw [List.map_cons, List.mem_cons] at h
      exact h.resolve_left (fun e => hy e.symm)
structure SumG (ls : List S87) (place : Int) (rows : List S84) : Prop where
  pos : ∀ r ∈ rows, (1 ≤ r.f3 ∧ r.f3 ≤ 100) ∧ (0 ≤ r.f4 ∧ r.f4 ≤ 429496729600)
  csum : (rows.map (·.f3)).sum = cnt87 ls place ls.length
  vsum : (rows.map (·.f4)).sum = vol87 ls place ls.length
  ord : ∀ i (h : i + 1 < rows.length), ltR rows[i] rows[i + 1]
  one : ∀ i (h : i < ls.length), ls[i].f4 = place → (rows.filter (matchB ls[i])).length = 1
  len : rows.length ≤ 100
theorem sums_good (ls : List S87) (place : Int) (hl : ls.length ≤ 100) (hv : ∀ s ∈ ls, 0 ≤ s.f3 ∧ s.f3 ≤ 4294967295) {d : List S42} (hp : d.Perm (stockK (itemsK ls ls.length) place ls.length)) (hw : d.Pairwise (fun a b => ¬ ltT b a)) : SumG ls place (d.map toRow) := by
  obtain ⟨hT, hK⟩ := stock_good ls place hl hv ls.length (Nat.le_refl _)
  have hdl : d.length ≤ 100 := by
    have h1 := hp.length_eq
    have h2 := stockK_len (itemsK ls ls.length) place ls.length
    omega
  have hnd : (d.map keyOf).Nodup := (hp.map keyOf).nodup_iff.2 hT.dist
  refine ⟨fun r hr => ?_, ?_, ?_, fun i h => ?_, fun i h hpl => ?_, by rw [List.length_map]; exact hdl⟩
  · obtain ⟨y, hy, rfl⟩ := List.mem_map.1 hr
    have h1 := hT.pos y (hp.mem_iff.1 hy)
    show (1 ≤ y.f3 ∧ y.f3 ≤ 100) ∧ (0 ≤ y.f4 ∧ y.f4 ≤ 429496729600)
    omega
  · rw [List.map_map, ← hT.csum]
    exact perm_sum (hp.map (·.f3))
  · rw [List.map_map, ← hT.vsum]
    exact perm_sum (hp.map (·.f4))
  · rw [List.length_map] at h
    rw [List.getElem_map, List.getElem_map]
    have h1 := List.pairwise_iff_getElem.1 hw i (i + 1) (by omega) h (by omega)
    have h2 : keyOf d[i] ≠ keyOf d[i + 1] := by
      have := List.pairwise_iff_getElem.1 hnd i (i + 1) (by simp; omega) (by simpa using h) (by omega)
      simpa using this
    unfold ltT at h1
    unfold keyOf at h2
    show d[i].f0 < d[i + 1].f0 ∨ (d[i].f0 = d[i + 1].f0 ∧ (d[i].f1 < d[i + 1].f1 ∨ (d[i].f1 = d[i + 1].f1 ∧ d[i].f2 < d[i + 1].f2)))
    simp only [ne_eq, Prod.mk.injEq, not_and] at h2
    by_cases e0 : d[i].f0 = d[i + 1].f0
    · by_cases e1 : d[i].f1 = d[i + 1].f1
      · have := h2 e0 e1
        omega
      · omega
    · omega
  · have hm : key87 ls[i] ∈ d.map keyOf := (hp.map keyOf).mem_iff.2 (hK i h h hpl)
    rw [List.filter_map, List.length_map, ← count_one (key87 ls[i]) d hnd hm]
    congr 1
    refine List.filter_congr (fun y _ => ?_)
    show matchB ls[i] (toRow y) = decide (keyOf y = key87 ls[i])
    unfold matchB keyOf key87 toRow
    rw [Bool.eq_iff_iff]
    simp [and_assoc]
end Go.Proofs.YtnhflmihjegaiaaDoor
