/- Rows of spans as flat cells: clearing a tail, sorting. -/
import Derived.Test.YtioglhaofcmebaaSpB
import Derived.Sort.Statements
namespace Go.Proofs.Ytioglhaofcmebaa
open Go.RowKit Go.Sort Go.Shelf Go.Proofs.YtioglhaofcmebaaW.PrintWords P
set_option linter.unusedSimpArgs false
set_option linter.unusedVariables false

instance : Inhabited S23 := ⟨z23⟩
def encS (x : S23) : List Value := [.int .i64 x.f0, .int .i64 x.f1]
def flat : List S23 → List Value
  | [] => []
  | x :: r => .int .i64 x.f0 :: .int .i64 x.f1 :: flat r

theorem flat_length : ∀ xs : List S23, (flat xs).length = xs.length * 2
  | [] => rfl
  | x :: r => by simp only [flat, List.length_cons, flat_length r]; omega

theorem flat_seg : ∀ (xs : List S23) (j : Nat) (p : S23), xs[j]? = some p → ((flat xs).drop (j * 2)).take 2 = [.int .i64 p.f0, .int .i64 p.f1]
  | [], j, p, h => by simp at h
  | x :: r, 0, p, h => by simp at h; subst h; simp [flat]
  | x :: r, j + 1, p, h => by
    have := flat_seg r j p (by simpa using h)
    rw [show (j + 1) * 2 = j * 2 + 2 by omega]
    simpa [flat] using this

theorem flat_take : ∀ (xs : List S23) (j : Nat), (flat xs).take (j * 2) = flat (xs.take j)
  | [], j => by simp [flat]
  | x :: r, 0 => by simp [flat]
  | x :: r, j + 1 => by
    have := flat_take r j
    rw [show (j + 1) * 2 = j * 2 + 1 + 1 by omega]
    simp only [flat, List.take_succ_cons, this]

theorem flat_of_reps {R : S23 → List Value → Prop} (hR : ∀ p c, R p c → c = [.int .i64 p.f0, .int .i64 p.f1]) : ∀ (xs : List S23) (cs : List Value), Reps R 2 xs cs → cs = flat xs
  | [], cs, h => by
    have := h.1
    simp at this
    rw [this]; rfl
  | x :: r, cs, h => by
    have h1 := hR _ _ (h.2 0 x rfl)
    have hl := h.1
    simp only [List.length_cons] at hl
    simp only [Nat.zero_mul, List.drop_zero] at h1
    have h2 : Reps R 2 r (cs.drop 2) := ⟨by rw [List.length_drop, hl]; omega, fun j p hj => by
      have := h.2 (j + 1) p (by simpa using hj)
      rw [show (j + 1) * 2 = 2 + j * 2 by omega, ← List.drop_drop] at this
      exact this⟩
    have h3 := flat_of_reps hR r _ h2
    have : cs = cs.take 2 ++ cs.drop 2 := (List.take_append_drop 2 cs).symm
    rw [this, h1, h3]
    rfl

theorem SpR_own {w : World} {base : Nat} {v : Value} {xs : List S23} (h : SpR w base v xs) : w.ownsRow base 23 2 v xs.length (flat xs) := by
  obtain ⟨_, inner, ho, hr⟩ := h
  have := flat_of_reps (fun p c h => k23_openM h) xs inner hr
  rw [← this]
  exact ho
theorem own_SpR {w : World} {base : Nat} {v : Value} {xs : List S23} (h : w.ownsRow base 23 2 v xs.length (flat xs)) : SpR w base v xs :=
  ⟨fun _ _ => trivial, flat xs, h, flat_length xs, fun j p hj => by
    have h2 := flat_seg xs j p hj
    have h3 : ((flat xs).drop (j * k23.sz)).take k23.sz = [.int .i64 p.f0, .int .i64 p.f1] := h2
    rw [h3]
    exact k23_mkM _ _ _ p⟩

/-- What a row of spans is, when it is not nil. -/
theorem SpR_block {w : World} {base g n cap : Nat} {xs : List S23} (h : SpR w base (.slice (some ⟨g, 0, none⟩) n cap) xs) :
    n = xs.length ∧ base ≤ g ∧ n ≤ cap ∧ cap ≤ maxLen ∧ ∃ cur, w.heap[g]? = some (.cells cur 23 (0, 0)) ∧ cur.size = cap * 2 ∧ cur.toList.take (n * 2) = flat xs := by
  obtain ⟨_, h2⟩ := SpR_own h
  rcases h2 with ⟨h3, _⟩ | ⟨g', cap', cur, hv, hb, hh, hnc, hcm, hcs, ht⟩
  · cases h3
  · injection hv with ha hn hc
    injection ha with ha
    injection ha with hg
    subst hg hc
    exact ⟨hn, hb, by omega, hcm, cur, hh, hcs, by rw [hn]; exact ht⟩
theorem SpR_of_block {w : World} {base g cap : Nat} {xs : List S23} {cur : Array Value} (hb : base ≤ g) (hh : w.heap[g]? = some (.cells cur 23 (0, 0))) (h1 : xs.length ≤ cap) (h2 : cap ≤ maxLen) (h3 : cur.size = cap * 2) (ht : cur.toList.take (xs.length * 2) = flat xs) :
    SpR w base (.slice (some ⟨g, 0, none⟩) xs.length cap) xs := own_SpR ⟨flat_length xs, .inr ⟨g, cap, cur, rfl, hb, hh, h1, h2, h3, ht⟩⟩

theorem SpR_shape {w : World} {base : Nat} {v : Value} {xs : List S23} (h : SpR w base v xs) : (v = .slice none 0 0 ∧ xs = []) ∨ ∃ g cap, v = .slice (some ⟨g, 0, none⟩) xs.length cap := by
  obtain ⟨_, h2⟩ := SpR_own h
  rcases h2 with ⟨h3, h4⟩ | ⟨g, cap, cur, hv, _⟩
  · exact .inl ⟨h3, List.length_eq_zero_iff.1 h4⟩
  · exact .inr ⟨g, cap, hv⟩

theorem SpR_cells {w : World} {base g n cap : Nat} {xs : List S23} (h : SpR w base (.slice (some ⟨g, 0, none⟩) n cap) xs) (j : Nat) (hj : j < xs.length) :
    w.cell? ⟨g, j * 2, none⟩ = some (.int .i64 xs[j].f0) ∧ w.cell? ⟨g, j * 2 + 1, none⟩ = some (.int .i64 xs[j].f1) := by
  obtain ⟨ad, e0, g0, g1⟩ := at_T23 (Kd.R_reads' h).2.2 (j : Int) (by omega) (by omega)
  cases e0
  rw [rd23 xs j hj, Int.toNat_natCast] at g0 g1
  have e : (⟨g, 0, none⟩ : Addr).add (j * 2) = ⟨g, j * 2, none⟩ := by unfold Addr.add; split <;> simp_all
  rw [e] at g0 g1
  exact ⟨g0, g1⟩

theorem flat_set : ∀ (xs : List S23) (i : Nat) (u : S23), i < xs.length → flat (xs.set i u) = (flat xs).take (i * 2) ++ [.int .i64 u.f0, .int .i64 u.f1] ++ (flat xs).drop (i * 2 + 2)
  | [], i, u, h => by simp at h
  | x :: r, 0, u, h => by simp [flat]
  | x :: r, i + 1, u, h => by
    have := flat_set r i u (by simpa using h)
    rw [show (i + 1) * 2 = i * 2 + 1 + 1 by omega]
    simp only [List.set_cons_succ, flat, List.take_succ_cons, List.drop_succ_cons, List.cons_append, this]

theorem SpR_frozen {w : World} {base g n cap : Nat} {xs : List S23} (h : SpR w base (.slice (some ⟨g, 0, none⟩) n cap) xs) (j : Nat) : w.frozen? ⟨g, j, none⟩ = false := by
  obtain ⟨_, _, _, _, cur, hh, _⟩ := SpR_block h
  exact blk_frozen hh _

/-- s[i] = u -/
theorem SpR_set {W : World} {base g n cap i : Nat} {xs : List S23} (h : SpR W base (.slice (some ⟨g, 0, none⟩) n cap) xs) (hi : i < n) (u : S23) :
    SpR ((W.setCell ⟨g, i * 2, none⟩ (.int .i64 u.f0)).setCell ⟨g, i * 2 + 1, none⟩ (.int .i64 u.f1)) base (.slice (some ⟨g, 0, none⟩) n cap) (xs.set i u) ∧
      Below base W ((W.setCell ⟨g, i * 2, none⟩ (.int .i64 u.f0)).setCell ⟨g, i * 2 + 1, none⟩ (.int .i64 u.f1)) ∧
      W.grownBy ((W.setCell ⟨g, i * 2, none⟩ (.int .i64 u.f0)).setCell ⟨g, i * 2 + 1, none⟩ (.int .i64 u.f1)) (some g) := by
  obtain ⟨hn, hb, hnc, hcm, cur, hh, hcs, ht⟩ := SpR_block h
  obtain ⟨cur', h3, h4, h5⟩ := setCells_row [.int .i64 u.f0, .int .i64 u.f1] (i * 2) W cur hh (by simp; omega)
  obtain ⟨s1, s2, s3, s4⟩ := setCells_same g [.int .i64 u.f0, .int .i64 u.f1] (i * 2) W
  have hl : (xs.set i u).length = n := by rw [List.length_set, hn]
  have hfar := fun k hk => setCells_far (g := g) [.int .i64 u.f0, .int .i64 u.f1] (i * 2) (w := W) k hk
  refine ⟨?_, ⟨s1, s2, s3, Nat.le_of_eq s4.symm, fun k hk => hfar k (by omega)⟩, ⟨s1, s2, s3, Nat.le_of_eq s4.symm, fun k _ hk => hfar k (fun e => hk (by rw [e]))⟩⟩
  have := SpR_of_block (w := W.setCells g (i * 2) [.int .i64 u.f0, .int .i64 u.f1]) (xs := xs.set i u) (cap := cap) hb h3 (by rw [hl]; exact hnc) hcm (by rw [h4, hcs]) (by
    rw [hl, h5, flat_set xs i u (by omega), ← ht]
    simp only [List.length_cons, List.length_nil]
    have e1 : (cur.toList.take (i * 2)).length = i * 2 := by rw [List.length_take, Array.length_toList]; omega
    rw [List.take_append, List.length_append, e1]
    simp only [List.length_cons, List.length_nil]
    rw [List.take_of_length_le (by rw [List.length_append, e1]; simp; omega), List.take_take, Nat.min_eq_left (by omega), List.drop_take, List.append_assoc])
  rw [hl] at this
  exact this

/-- clear(s[i:]) -/
theorem SpR_clear {W : World} {base g n cap i : Nat} {xs : List S23} (h : SpR W base (.slice (some ⟨g, 0, none⟩) n cap) xs) (hi : i < n) :
    ∃ W', (∀ ty, (Builtin.clear_ #[28] ty #[.slice (some ⟨g, i * 2, none⟩) (n - i) (cap - i)]).run Try.prog W = .ok (.tuple #[]) W') ∧ SpR W' base (.slice (some ⟨g, 0, none⟩) i cap) (xs.take i) ∧ Below base W W' := by
  obtain ⟨hn, hb, hnc, hcm, cur, hh, hcs, ht⟩ := SpR_block h
  obtain ⟨zs, hzs⟩ : ∃ zs, zs = (Builtin.zeroCells #[.int .i64 0, .int .i64 0] (n - i)).toList := ⟨_, rfl⟩
  have hzl : zs.length = (n - i) * 2 := by rw [hzs]; simp [Builtin.zeroCells]
  have hz1 : ∀ v ∈ zs, v.oneCell' = true := by
    intro v hv
    rw [hzs] at hv
    simp only [Builtin.zeroCells, Array.toList_map, List.mem_map] at hv
    obtain ⟨k, _, rfl⟩ := hv
    have : k % 2 = 0 ∨ k % 2 = 1 := by omega
    rcases this with e | e <;> simp [e] <;> rfl
  have hst := run_storeCells_cells (P := Try.prog) g (i * 2) zs 0 W (fun j hj => by rw [cell_of_row W g _ cur 23 (0, 0) hh]; simp; omega) (fun j _ => blk_frozen hh _) hz1
  simp only [Nat.add_zero] at hst
  obtain ⟨cur', h3, h4, h5⟩ := setCells_row zs (i * 2) W cur hh (by rw [hzl]; omega)
  obtain ⟨s1, s2, s3, s4⟩ := setCells_same g zs (i * 2) W
  refine ⟨W.setCells g (i * 2) zs, fun ty => ?_, ?_, ?_⟩
  · obtain ⟨m, hm⟩ : ∃ m, n - i = m + 1 := ⟨n - i - 1, by omega⟩
    rw [hzs, hm] at hst
    rw [hm]
    have hzv : ∀ w, (zeroValue 23).run Try.prog w = .ok (.agg #[.int .i64 0, .int .i64 0]) w := fun w => by kernel_rfl
    simp [Builtin.clear_, run_underlying Try.underlying28, hzv, Value.cells, hst]
    rw [hzs, hm]
  · have hl : (xs.take i).length = i := by rw [List.length_take]; omega
    have := SpR_of_block (w := W.setCells g (i * 2) zs) (xs := xs.take i) (cap := cap) hb h3 (by rw [hl]; omega) hcm (by rw [h4, hcs]) (by
      rw [hl, h5, List.append_assoc, List.take_append_of_le_length (by rw [List.length_take, Array.length_toList]; omega), List.take_take, Nat.min_self]
      have h6 : cur.toList.take (i * 2) = (cur.toList.take (n * 2)).take (i * 2) := by rw [List.take_take, Nat.min_eq_left (by omega)]
      rw [h6, ht, flat_take])
    rw [hl] at this
    exact this
  · exact ⟨s1, s2, s3, by rw [s4]; exact Nat.le_refl _, fun k hk => setCells_far zs _ k (by omega)⟩

#print axioms SpR_clear
#print axioms own_SpR
end Go.Proofs.Ytioglhaofcmebaa
