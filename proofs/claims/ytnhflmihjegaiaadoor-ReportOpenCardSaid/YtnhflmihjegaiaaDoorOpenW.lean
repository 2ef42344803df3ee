/- ReportOpen: the walk. -/
import Derived.Test.YtnhflmihjegaiaaDoorOpenG
import Derived.Test.YtnhflmihjegaiaaDoorRefO
import Derived.Test.YtnhflmihjegaiaaDoorAwkB
import Derived.Laws.MakeOwn
namespace Go.Proofs.YtnhflmihjegaiaaDoor
open Go Go.Proofs Go.RowKit Go.Shelf Go.Proofs.YtnhflmihjegaiaaDoorW.PrintWords P
set_option linter.unusedSimpArgs false
set_option linter.unusedVariables false

theorem info4b : (Tryd.prog.info? 4).map (fun i => (i.zero, i.size, i.bytes)) = some (some (.bool false), 1, 1) := by kernel_rfl
def seenA (n : Nat) (ys : List Nat) : Array Value := ((List.range n).map fun t => Value.bool (decide (t ∈ ys))).toArray
theorem seen_get {n k : Nat} (ys : List Nat) (h : k < n) : (seenA n ys)[k]? = some (.bool (decide (k ∈ ys))) := by
  simp [seenA, h]
theorem seen_set {n k : Nat} (ys : List Nat) (h : k < n) : (seenA n ys).setIfInBounds k (.bool true) = seenA n (ys ++ [k]) := by
  apply Array.ext_getElem?
  intro t
  rw [Array.getElem?_setIfInBounds]
  by_cases ht : t < n
  · rw [seen_get (ys ++ [k]) ht]
    by_cases e : k = t
    · subst e
      rw [if_pos rfl, if_pos (by simp [seenA]; exact h)]
      simp
    · rw [if_neg e, seen_get ys ht]
      congr 2
      simp only [List.mem_append, List.mem_singleton]
      by_cases hm : t ∈ ys
      · simp [hm]
      · simp [hm, Ne.symm e]
  · have h1 : (seenA n (ys ++ [k]))[t]? = none := by simp [seenA, ht]
    have h2 : (seenA n ys)[t]? = none := by simp [seenA, ht]
    rw [h1, if_neg (by omega), h2]
theorem seen_start (n : Nat) : madeCells (Value.bool false).cells (n * 1) = seenA n [] := by
  apply Array.ext_getElem?
  intro t
  by_cases ht : t < n
  · rw [seen_get [] ht]
    simp [madeCells, Value.cells, ht, Nat.mod_one]
  · have h2 : (seenA n [])[t]? = none := by simp [seenA, ht]
    rw [h2]
    simp [madeCells]
    omega

theorem rd116_due (os : List S55) (i : Nat) : dueO (os.map ordOf) i = (rd_T55 os (i : Int)).f0 ∧ (rd_T116 (os.map ordOf) (i : Int)).f1 = (rd_T55 os (i : Int)).f1 := by
  unfold dueO rd_T116 rd_T55
  rw [List.getD_eq_getElem?_getD, List.getD_eq_getElem?_getD, List.getElem?_map]
  cases os[(i : Int).toNat]? <;> exact ⟨rfl, rfl⟩
/-- What the law reads off the result. -/
structure OpnG (os : List S55) (xs : List Nat) : Prop where
  lt : ∀ k ∈ xs, k < os.length ∧ (rd_T55 os (k : Int)).f1 = false
  nd : xs.Nodup
  ord : ∀ m, (h : m + 1 < xs.length) → (rd_T55 os ((xs[m] : Nat) : Int)).f0 < (rd_T55 os ((xs[m + 1] : Nat) : Int)).f0 ∨ ((rd_T55 os ((xs[m] : Nat) : Int)).f0 = (rd_T55 os ((xs[m + 1] : Nat) : Int)).f0 ∧ xs[m] < xs[m + 1])
  len : xs.length = (opK (os.map ordOf) os.length).length
theorem OpnG.of {os : List S55} {xs : List Nat} (h : OpenS (os.map ordOf) xs) : OpnG os xs := by
  have hd : xs.Nodup := h.2.imp fun {a b} hab e => by subst e; unfold befO at hab; omega
  have hL : (os.map ordOf).length = os.length := List.length_map _
  refine ⟨fun k hk => ?_, hd, fun m hm => ?_, ?_⟩
  · have := (h.1 k).1 hk
    unfold opK at this
    rw [List.mem_filter, List.mem_range, hL, (rd116_due os k).2] at this
    exact ⟨this.1, by simpa using this.2⟩
  · have := List.pairwise_iff_getElem.1 h.2 m (m + 1) (by omega) hm (by omega)
    unfold befO at this
    rw [(rd116_due os _).1, (rd116_due os _).1] at this
    exact this
  · have hs := (opK_sorted (os.map ordOf) (os.map ordOf).length).imp fun {a b} (hab : a < b) => Nat.ne_of_lt hab
    rw [hL] at hs
    have h1 := hd.length_le_of_subset (l₂ := opK (os.map ordOf) os.length) (fun i hi => by rw [← hL]; exact (h.1 i).1 hi)
    have h2 := List.Nodup.length_le_of_subset (l₁ := opK (os.map ordOf) os.length) (l₂ := xs) hs (fun i hi => (h.1 i).2 (by rw [hL]; exact hi))
    omega
theorem nil_C4 {α : Type} (d : Kd α) (w : World) : Kd.C d w none 0 [] := ⟨rfl, Nat.zero_le _, fun h => absurd h (Nat.lt_irrefl _)⟩
set_option maxRecDepth 100000 in
set_option maxHeartbeats 4000000 in
theorem opnWalk1 (A : Option Addr) (c : Nat) (os : List S55) (w : World) (hC : Kd.C k55 w A os.length os) (ht : Tab w) (h : ¬ os.length ≤ 100) : Calls Tryd.prog 4 #[.slice A os.length c] w fun e w' => e = .returned (.bool true) ∧ Below w.heap.size w w' := by
  have hA := awake_any w ht
  have h2 : (os.length : Int) > 100 := by omega
  go_enter Tryd.func4, Tryd.ntmps4
  go_wp2_with (go_at_call 9; refine hA.mono ?_; rintro e w1 ⟨rfl, B1⟩)
  go_ret
  exact ⟨rfl, B1⟩
set_option maxRecDepth 100000 in
set_option maxHeartbeats 8000000 in
theorem opnWalk2 (A : Option Addr) (c : Nat) (os : List S55) (w : World) (hC : Kd.C k55 w A os.length os) (ht : Tab w) (h : os.length ≤ 100) : Calls Tryd.prog 4 #[.slice A os.length c] w fun e w' => e = .returned (.bool true) ∧ Below w.heap.size w w' := by
  have hu32 := Tryd.underlying32
  have hu38 := Tryd.underlying38
  have hu55 := Tryd.underlying55
  have HT := Lib.hid ht
  have HCl := Lib.hid hC
  have hM := mill_any w none none A 0 0 c [] [] os (nil_C4 _ _) (nil_C4 _ _) hC (fun ad e _ => by cases e) (fun ad e _ => by cases e) (fun ad e hp => by subst e; exact Kd.C_lt hC hp (by decide)) (by decide) (by decide) (by omega)
  clear ht hC
  go_enter Tryd.func4, Tryd.ntmps4
  go_wp2_with (go_at_call 10; refine hold ?_)
  refine Lib.hid ?_
  refine hM.mono ?_
  rintro e w1 ⟨v2, v3, v5, u2, u3, u5, rfl, M⟩
  clear hM
  obtain ⟨A2, c2, e2, l2, C2⟩ := Kd.R_reads M.r2
  obtain ⟨A3, c3, e3, l3, C3⟩ := Kd.R_reads M.r3
  obtain ⟨A5, c5, e5, l5, C5⟩ := Kd.R_reads M.r5
  obtain ⟨D2, d2, f2, m2, G2⟩ := Kd.R_reads M.q2
  obtain ⟨D3, d3, f3, m3, G3⟩ := Kd.R_reads M.q3
  obtain ⟨D5, d5, f5, m5, G5⟩ := Kd.R_reads M.q5
  replace e2 : v2 = .slice A2 0 c2 := e2
  replace e3 : v3 = .slice A3 0 c3 := e3
  replace e5 : v5 = .slice A5 os.length c5 := by rw [e5, List.length_map]
  replace f2 : u2 = .slice D2 0 d2 := f2
  replace f3 : u3 = .slice D3 0 d3 := f3
  replace f5 : u5 = .slice D5 os.length d5 := by rw [f5, List.length_map]
  subst e2 e3 e5 f2 f3 f5
  rw [List.length_map] at l5 C5
  have HC5 := Lib.hid C5
  have HL5 := Lib.hid l5
  have HB1 := Lib.hid M.bl
  have hs1 := HB1.out.size
  clear M C2 C3 C5 G2 G3 G5 l2 l3 l5 m2 m3 m5
  have h1 : Hid ((((w1.alloc (.cells #[.int .i64 0, .slice none 0 0, .slice none 0 0, .slice none 0 0, .slice none 0 0, .slice none 0 0, .int .i64 0, .int .i64 0, .slice none 0 0, .slice none 0 0] 32)).alloc (.cells #[.int .i64 0, .slice none 0 0, .slice none 0 0, .slice none 0 0, .slice none 0 0, .slice none 0 0, .int .i64 0, .int .i64 0, .slice none 0 0, .slice none 0 0] 38))).heap[w1.heap.size]? = some (.cells #[.int .i64 0, .slice none 0 0, .slice none 0 0, .slice none 0 0, .slice none 0 0, .slice none 0 0, .int .i64 0, .int .i64 0, .slice none 0 0, .slice none 0 0] 32 (0, 0))) := Lib.hid (blk_alloc (blk_new _ _) _)
  have h2 : Hid ((((w1.alloc (.cells #[.int .i64 0, .slice none 0 0, .slice none 0 0, .slice none 0 0, .slice none 0 0, .slice none 0 0, .int .i64 0, .int .i64 0, .slice none 0 0, .slice none 0 0] 32)).alloc (.cells #[.int .i64 0, .slice none 0 0, .slice none 0 0, .slice none 0 0, .slice none 0 0, .slice none 0 0, .int .i64 0, .int .i64 0, .slice none 0 0, .slice none 0 0] 38))).heap[w1.heap.size + 1]? = some (.cells #[.int .i64 0, .slice none 0 0, .slice none 0 0, .slice none 0 0, .slice none 0 0, .slice none 0 0, .int .i64 0, .int .i64 0, .slice none 0 0, .slice none 0 0] 38 (0, 0))) := Lib.hid (by rw [show w1.heap.size + 1 = (w1.alloc (.cells #[.int .i64 0, .slice none 0 0, .slice none 0 0, .slice none 0 0, .slice none 0 0, .slice none 0 0, .int .i64 0, .int .i64 0, .slice none 0 0, .slice none 0 0] 32)).heap.size by simp [go_sem]]; exact blk_new _ _)
  have b12 := Lib.hid (((Below.refl w1.heap.size w1).alloc (Nat.le_refl _) (.cells #[.int .i64 0, .slice none 0 0, .slice none 0 0, .slice none 0 0, .slice none 0 0, .slice none 0 0, .int .i64 0, .int .i64 0, .slice none 0 0, .slice none 0 0] 32)).alloc (by simp [go_sem]) (.cells #[.int .i64 0, .slice none 0 0, .slice none 0 0, .slice none 0 0, .slice none 0 0, .slice none 0 0, .int .i64 0, .int .i64 0, .slice none 0 0, .slice none 0 0] 38))
  go_wp2_with (first
    | (refine row_event (t := 32) (s := 3) (u := 18) rfl rfl rfl rfl rfl h1.out (by kernel_rfl) rfl (all10 rfl rfl rfl) ?_; intro wd hd ned bd zd; have HD := Lib.hid hd; have h2d := Lib.hid ((ned _ (by omega)).trans h2.out); have b1d := Lib.hid (bd _ _ b12.out (Nat.le_refl _)); clear hd ned bd zd h1 h2 b12)
    | (refine row_event (t := 38) (s := 4) (u := 19) rfl rfl rfl rfl rfl h2d.out (by kernel_rfl) rfl (all10 rfl rfl rfl) ?_; intro we he nee be ze; have HE := Lib.hid ((nee _ (by omega)).trans HD.out); have b1e := Lib.hid (be _ _ b1d.out (by omega)); clear he nee be ze h2d b1d HD)
    | ((with_reducible refine gate_dst (N := 20) rfl ?_); (try (refine gate_guard (by rfl) ?_; dsimp only)); refine load_event (N := 20) rfl rfl rfl rfl [.int .i64 0, .slice none 0 0, .slice A2 0 c2, .slice A3 0 c3, .slice none 0 0, .slice A5 os.length c5, .int .i64 0, .int .i64 0, .slice none 0 0, .slice none 0 0] _ (row_cells HE.out) Tryd.underlying32 rfl (by kernel_rfl) ?_)
    | (go_at_call 14; refine hold ?_))
  refine Lib.hid ?_
  have hse := b1e.out.size
  have HBe := Lib.hid (HB1.out.trans (b1e.out.mono hs1))
  have hO := Open_all we 0 0 0 none A2 A3 none A5 none none 0 0 0 0 0 0 0 c2 c3 0 c5 0 0 (os.map ordOf) (by rw [List.length_map]; exact Kd.C_below HC5.out b1e.out) (by rw [List.length_map]; exact HL5.out) (by rw [List.length_map]; omega)
  rw [List.length_map] at hO
  refine hO.mono ?_
  rintro e wf ⟨v, rfl, xs, HX, R, Bf⟩
  have hxl := HX.len
  rw [List.length_map] at hxl
  have G := Lib.hid (OpnG.of HX)
  obtain ⟨RA, rc, re, rl, RC⟩ := Kd.R_reads R
  rw [ints_length] at re rl RC
  subst re
  have HRC := Lib.hid RC
  have HBf := Lib.hid (HBe.out.trans (Bf.mono HBe.out.size))
  have hsf := HBf.out.size
  have HCf := Lib.hid (Kd.C_below HCl.out HBf.out)
  have HTf := Lib.hid (HT.out.below HBf.out (Nat.le_refl _))
  clear hO HX R RC Bf HCl HC5 HL5 HB1 b1e HE HT HBe hse hs1
  obtain ⟨i0, hi0, hz0, hsz0, hb0⟩ := info_parts info4b
  have hmk := fun w' => run_makeSlice (P := Tryd.prog) w' 53 4 i0 (.bool false) Tryd.underlying53 hi0 hz0 .i64 .i64 (os.length : Int) (os.length : Int) (by omega) (Int.le_refl _) (by rw [hsz0]; omega) (by rw [hb0]; omega) (by omega)
  simp only [Int.toNat_natCast, hsz0, seen_start] at hmk
  go_wp2_with fail
  have HN := Lib.hid (blk_new wf (.cells (seenA os.length []) 4))
  have HBg := Lib.hid ((Below.refl wf.heap.size wf).alloc (Nat.le_refl _) (.cells (seenA os.length []) 4))
  generalize wf.alloc (.cells (seenA os.length []) 4) = wg at *
  clear hmk hi0 hz0 hsz0 hb0 i0
  go_loopw [7] (fun vi wr => ∃ i : Nat, vi = .int .i64 i ∧ i ≤ xs.length ∧ Hid (wr.heap[wf.heap.size]? = some (.cells (seenA os.length (xs.take i)) 4 (0, 0))) ∧ Hid (Below wf.heap.size wf wr)) (fun vi _ => xs.length - (intOf vi).toNat)
  case atStart => exact ⟨0, rfl, Nat.zero_le _, HN, HBg⟩
  case round =>
    clear HN HBg
    obtain ⟨i, rfl, hi, HN, HB⟩ := hrel
    by_cases hil : i < xs.length
    · obtain ⟨ra, e1, hx⟩ := Kd.at_int (Kd.C_below HRC.out HB.out) (i : Int) (by omega) (by omega)
      subst e1
      have hre := Lib.hid (rd_ints xs i hil)
      rw [Int.toNat_natCast, hre.out] at hx
      clear hre
      obtain ⟨hkl, hks⟩ := G.out.lt _ (List.getElem_mem hil)
      have hni : ¬ xs[i] ∈ xs.take i := fun hm => by
        obtain ⟨t, ht, e⟩ := List.mem_iff_getElem.1 hm
        rw [List.length_take] at ht
        rw [List.getElem_take] at e
        have := (List.getElem_inj (h₀ := by omega) (h₁ := hil) G.out.nd).1 e
        omega
      have hTk := Lib.hid (show xs.take (i + 1) = xs.take i ++ [xs[i]] by rw [List.take_add_one, List.getElem?_eq_getElem hil]; rfl)
      have hOr := Lib.hid (fun m (hm : m + 1 = i) => (show (rd_T55 os ((xs[m]'(by omega) : Nat) : Int)).f0 < (rd_T55 os ((xs[i] : Nat) : Int)).f0 ∨ ((rd_T55 os ((xs[m]'(by omega) : Nat) : Int)).f0 = (rd_T55 os ((xs[i] : Nat) : Int)).f0 ∧ xs[m]'(by omega) < xs[i]) from by subst hm; exact G.out.ord m hil))
      obtain ⟨ad, e2, hd, hsh⟩ := at_T55 (Kd.C_below HCf.out HB.out) ((xs[i] : Nat) : Int) (by omega) (by omega)
      subst e2
      rw [Int.toNat_natCast] at hd hsh
      rw [hks] at hsh
      generalize hk : xs[i] = k at *
      have HK := Lib.hid hk
      clear hk hks
      obtain ⟨D, hD⟩ : ∃ D, D = (rd_T55 os (k : Int)).f0 := ⟨_, rfl⟩
      rw [← hD] at hd
      have HD := Lib.hid hD
      clear hD
      have hsn : wr.cell? ⟨wf.heap.size, k, none⟩ = some (.bool false) := by rw [blk_cell HN.out, seen_get _ hkl, decide_eq_false hni]
      have hsf2 : wr.frozen? ⟨wf.heap.size, k, none⟩ = false := blk_frozen HN.out k
      have HN2 := Lib.hid (blk_put HN.out k (.bool true) (seen_set (xs.take i) hkl))
      rw [← hTk.out] at HN2
      have HB2 : Hid (Below wf.heap.size wf (wr.setCell ⟨wf.heap.size, k, none⟩ (.bool true))) := Lib.hid (HB.out.setCell (Nat.le_refl _) _)
      have q1 : (0 : Int) ≤ (k : Int) := by omega
      have q2 : ¬ (k : Int) < 0 := by omega
      have q3 : (k : Int) < (os.length : Int) := by omega
      have q4 : ¬ (k : Int) ≥ (os.length : Int) := by omega
      have q5 : ¬ (os.length : Int) ≤ (k : Int) := by omega
      clear hni hTk
      by_cases hi0 : i = 0
      · have q6 : ¬ (i : Int) > 0 := by omega
        have q7 : ¬ (0 : Int) < (i : Int) := by omega
        have q16 : decide ((0 : Int) < (i : Int)) = false := decide_eq_false q7
        have q22 : decide (0 < i) = false := decide_eq_false (by omega)
        have q17 : decide ((i : Int) > 0) = false := decide_eq_false q6
        clear hOr HD HK hi0
        go_wp2_with fail
        clear hx hd hsh hsn hsf2
        generalize wr.setCell ⟨wf.heap.size, k, none⟩ (.bool true) = ws at *
        go_wp2_with fail
        go_quiet (fail)
        have HN3 := Lib.hid (blk_drewN HN2.out nq)
        have HB3 := Lib.hid (pw_below_drewN HB2.out nq)
        clear HN2 HB2
        generalize ws.drewN nq = wt at *
        go_wp2_with fail
        go_roundw
        case rel => exact ⟨i + 1, by go_num, by omega, HN3, HB3⟩
        case measure => simp [intOf]; omega
      · obtain ⟨m, hm⟩ : ∃ m, m + 1 = i := ⟨i - 1, by omega⟩
        have q6 : (i : Int) > 0 := by omega
        have q7 : (0 : Int) < (i : Int) := by omega
        have q16 : decide ((0 : Int) < (i : Int)) = true := decide_eq_true q7
        have q22 : decide (0 < i) = true := decide_eq_true (by omega)
        have q17 : decide ((i : Int) > 0) = true := decide_eq_true q6
        have zi : (i : Int) - 1 = (m : Int) := by omega
        have hmi : m < xs.length := by omega
        have hord : (rd_T55 os ((xs[m] : Nat) : Int)).f0 < (rd_T55 os ((k : Nat) : Int)).f0 ∨ ((rd_T55 os ((xs[m] : Nat) : Int)).f0 = (rd_T55 os ((k : Nat) : Int)).f0 ∧ xs[m] < k) := hOr.out m hm
        obtain ⟨hpl, _⟩ := G.out.lt _ (List.getElem_mem hmi)
        have hpe := Lib.hid (rd_ints xs m hmi)
        clear hOr hm hi0
        go_wp2_with fail
        clear hx hd hsh hsn hsf2
        generalize wr.setCell ⟨wf.heap.size, k, none⟩ (.bool true) = ws at *
        obtain ⟨ra2, e4, hx⟩ := Kd.at_int (Kd.C_below HRC.out HB2.out) (m : Int) (by omega) (by omega)
        injection e4 with e4
        subst e4
        rw [Int.toNat_natCast, hpe.out] at hx
        obtain ⟨ad2, e5, hd, _⟩ := at_T55 (Kd.C_below HCf.out HB2.out) ((k : Nat) : Int) (by omega) (by omega)
        injection e5 with e5
        subst e5
        obtain ⟨ad3, e6, hd3, _⟩ := at_T55 (Kd.C_below HCf.out HB2.out) ((xs[m] : Nat) : Int) (by omega) (by omega)
        injection e6 with e6
        subst e6
        rw [Int.toNat_natCast] at hd hd3
        rw [← HD.out] at hord
        rw [← HD.out] at hd
        obtain ⟨pk, hpk⟩ : ∃ q, q = xs[m] := ⟨_, rfl⟩
        rw [← hpk] at hx hd3 hord hpl
        obtain ⟨E, hE⟩ : ∃ E, E = (rd_T55 os (pk : Int)).f0 := ⟨_, rfl⟩
        rw [← hE] at hd3 hord
        clear hpe hpk hE HD HK
        have q8 : (0 : Int) ≤ (pk : Int) := by omega
        have q9 : (pk : Int) < (os.length : Int) := by omega
        have q10 : (m : Int) < (xs.length : Int) := by omega
        have q11 : (0 : Int) ≤ (m : Int) := by omega
        have q14 : ¬ E > D := by omega
        have q15 : ¬ D < E := by omega
        have q18 : decide (D < E) = false := decide_eq_false q15
        have q19 : decide (E > D) = false := decide_eq_false q14
        by_cases hED : E = D
        · subst hED
          have q12 : ¬ (pk : Int) > (k : Int) := by omega
          have q13 : ¬ (k : Int) < (pk : Int) := by omega
          have q20 : decide ((k : Int) < (pk : Int)) = false := decide_eq_false q13
          have q23 : decide (k < pk) = false := decide_eq_false (by omega)
          have q21 : (E == E) = true := beq_self_eq_true _
          clear hord
          go_wp2_with fail
          go_quiet (fail)
          have HN3 := Lib.hid (blk_drewN HN2.out nq)
          have HB3 := Lib.hid (pw_below_drewN HB2.out nq)
          clear HN2 HB2
          generalize ws.drewN nq = wt at *
          go_wp2_with fail
          go_roundw
          case rel => exact ⟨i + 1, by go_num, by omega, HN3, HB3⟩
          case measure => simp [intOf]; omega
        · have q12 : (E == D) = false := beq_eq_false_iff_ne.2 hED
          clear hord
          go_wp2_with fail
          go_quiet (fail)
          have HN3 := Lib.hid (blk_drewN HN2.out nq)
          have HB3 := Lib.hid (pw_below_drewN HB2.out nq)
          clear HN2 HB2
          generalize ws.drewN nq = wt at *
          go_wp2_with fail
          go_roundw
          case rel => exact ⟨i + 1, by go_num, by omega, HN3, HB3⟩
          case measure => simp [intOf]; omega
    · have hie : i = xs.length := by omega
      clear HN
      have HL := Lib.hid G.out.len
      have HO0 := Lib.hid (fun k => opK_succ (os.map ordOf) k)
      have hO1 := Lib.hid (show (opK (os.map ordOf) 0).length = 0 from rfl)
      have hOl := Lib.hid (fun k => opK_len (os.map ordOf) k)
      generalize (opK (os.map ordOf)) = OK at *
      clear hie
      go_wp2_with fail
      go_loopw [9, 10] (fun vn vj wr => ∃ j : Nat, vj = .int .i64 j ∧ vn = .int .i64 ((OK j).length : Int) ∧ j ≤ os.length ∧ Hid (Below wf.heap.size wf wr)) (fun _ vj _ => os.length - (intOf vj).toNat)
      case atStart => exact ⟨0, rfl, by rw [hO1.out]; rfl, Nat.zero_le _, HB⟩
      case round =>
        clear HB
        obtain ⟨j, rfl, rfl, hj, HB⟩ := hrel
        by_cases hjl : j < os.length
        · obtain ⟨ad, e2, hd, hsh⟩ := at_T55 (Kd.C_below HCf.out HB.out) (j : Int) (by omega) (by omega)
          subst e2
          rw [Int.toNat_natCast] at hsh
          have hsc := Lib.hid (HO0.out j)
          have hln := hOl.out j
          have hq := Lib.hid (rd116_due os j).2
          clear hd
          cases hs : (rd_T55 os (j : Int)).f1 with
          | true =>
            rw [hs] at hsh
            have HS := Lib.hid (show (OK (j + 1)).length = (OK j).length by rw [hsc.out, hq.out, hs]; simp)
            clear hs hq hsc
            go_wp2_with fail
            go_roundw
            case rel => exact ⟨j + 1, by go_num, by rw [HS.out], by omega, HB⟩
            case measure => simp [intOf]; omega
          | false =>
            rw [hs] at hsh
            have HS := Lib.hid (show (OK (j + 1)).length = (OK j).length + 1 by rw [hsc.out, hq.out, hs]; simp)
            clear hs hq hsc
            go_wp2_with fail
            go_roundw
            case rel => exact ⟨j + 1, by go_num, by rw [HS.out]; go_num, by omega, HB⟩
            case measure => simp [intOf]; omega
        · have hje : j = os.length := by omega
          have q1 : ((OK j).length : Int) = (xs.length : Int) := by rw [hje, HL.out]
          have q2 : (((OK j).length : Int) == (xs.length : Int)) = true := beq_iff_eq.2 q1
          clear hje
          have hT := awake_any
          have HTz := Lib.hid (fun wz (B : Below wf.heap.size wf wz) => awake_any wz (HTf.out.below B (Nat.le_refl _)))
          clear hT
          go_wp2_with (go_at_call 9; refine hold ?_)
          refine Lib.hid ?_
          refine (HTz.out _ HB.out).mono ?_
          rintro e wz ⟨rfl, Bz⟩
          go_wp2_with fail
          go_ret
          exact ⟨rfl, HBf.out.trans ((HB.out.trans (Bz.mono HB.out.size)).mono hsf)⟩
theorem opnWalk (A : Option Addr) (c : Nat) (os : List S55) (w : World) (hC : Kd.C k55 w A os.length os) (hc : os.length ≤ c) (ht : Tab w) : Calls Tryd.prog 4 #[.slice A os.length c] w fun e w' => e = .returned (.bool true) ∧ Below w.heap.size w w' := by
  by_cases h : os.length ≤ 100
  · exact opnWalk2 A c os w hC ht h
  · exact opnWalk1 A c os w hC ht h
#print axioms opnWalk
end Go.Proofs.YtnhflmihjegaiaaDoor
