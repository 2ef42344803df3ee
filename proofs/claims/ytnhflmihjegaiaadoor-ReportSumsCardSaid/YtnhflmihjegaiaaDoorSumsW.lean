/- ReportSums: the walk. -/
import Derived.Test.YtnhflmihjegaiaaDoorAwkB
import Derived.Test.YtnhflmihjegaiaaDoorSumR
import Derived.Test.YtnhflmihjegaiaaDoorSumB
namespace Go.Proofs.YtnhflmihjegaiaaDoor
open Go.RowKit Go.Shelf Go.Proofs.YtnhflmihjegaiaaDoorW.PrintWords P
set_option linter.unusedSimpArgs false
set_option linter.unusedVariables false

theorem nil_C2 {α : Type} (d : Kd α) (w : World) : Kd.C d w none 0 [] := ⟨rfl, Nat.zero_le _, fun h => absurd h (Nat.lt_irrefl _)⟩
def cs (rows : List S84) (k : Nat) : Int := ((rows.take k).map (·.f3)).sum
def vs (rows : List S84) (k : Nat) : Int := ((rows.take k).map (·.f4)).sum
theorem cs_succ (rows : List S84) (k : Nat) (h : k < rows.length) : cs rows (k + 1) = cs rows k + rows[k].f3 := by
  unfold cs
  rw [map_take_succ _ rows k h, List.sum_append]
  simp
theorem vs_succ (rows : List S84) (k : Nat) (h : k < rows.length) : vs rows (k + 1) = vs rows k + rows[k].f4 := by
  unfold vs
  rw [map_take_succ _ rows k h, List.sum_append]
  simp
theorem csvs_bnd {ls : List S87} {place : Int} {rows : List S84} (G : SumG ls place rows) : ∀ k, k ≤ rows.length → (0 ≤ cs rows k ∧ cs rows k ≤ k * 100) ∧ (0 ≤ vs rows k ∧ vs rows k ≤ k * 429496729600)
  | 0, _ => by simp [cs, vs]
  | k + 1, h => by
    have ih := csvs_bnd G k (by omega)
    have hp := G.pos _ (List.getElem_mem (show k < rows.length by omega))
    rw [cs_succ rows k (by omega), vs_succ rows k (by omega)]
    omega
theorem vol87_bnd {ls : List S87} (hv : ∀ s ∈ ls, 0 ≤ s.f3 ∧ s.f3 ≤ 4294967295) (place : Int) : ∀ k, k ≤ ls.length → 0 ≤ vol87 ls place k ∧ vol87 ls place k ≤ k * 4294967295
  | 0, _ => by simp [vol87]
  | k + 1, h => by
    have ih := vol87_bnd hv place k (by omega)
    have hp := hv _ (List.getElem_mem (show k < ls.length by omega))
    rw [vol87_succ ls place k (by omega)]
    split <;> omega
def fnd (rows : List S84) (s : S87) (j : Nat) : Int := (((rows.take j).filter (matchB s)).length : Int)
theorem fnd_succ (rows : List S84) (s : S87) (j : Nat) (h : j < rows.length) : fnd rows s (j + 1) = fnd rows s j + (if matchB s rows[j] = true then 1 else 0) := by
  unfold fnd
  rw [List.take_add_one, List.getElem?_eq_getElem h]
  simp only [Option.toList_some, List.filter_append, List.length_append]
  by_cases hp : matchB s rows[j] = true
  · rw [if_pos hp, List.filter_cons_of_pos hp]; simp
  · rw [if_neg hp, List.filter_cons_of_neg hp]; simp
theorem fnd_bnd (rows : List S84) (s : S87) (j : Nat) : 0 ≤ fnd rows s j ∧ fnd rows s j ≤ j := by
  unfold fnd
  have h1 := List.length_filter_le (matchB s) (rows.take j)
  have h2 : (rows.take j).length ≤ j := by rw [List.length_take]; exact Nat.min_le_left _ _
  omega
theorem wrapI {n : Int} (h : -9223372036854775808 ≤ n ∧ n ≤ 9223372036854775807) : wrap64 n = n := by unfold wrap64; omega

set_option maxRecDepth 100000 in
set_option maxHeartbeats 4000000 in
theorem sumWalk1 (A : Option Addr) (c : Nat) (ls : List S87) (place : Int) (w : World) (hC : Kd.C k87 w A ls.length ls) (hc : ls.length ≤ c) (hG : ∀ y ∈ ls, ((-9223372036854775808 ≤ y.f0 ∧ y.f0 ≤ 9223372036854775807) ∧ (-9223372036854775808 ≤ y.f1 ∧ y.f1 ≤ 9223372036854775807) ∧ (-9223372036854775808 ≤ y.f2 ∧ y.f2 ≤ 9223372036854775807) ∧ (0 ≤ y.f3 ∧ y.f3 ≤ 4294967295) ∧ (-9223372036854775808 ≤ y.f4 ∧ y.f4 ≤ 9223372036854775807))) (ht : Tab w) (h : ¬ ls.length ≤ 100) : Calls Tryd.prog 8 #[.slice A ls.length c, .int .i64 place] w fun e w' => e = .returned (.bool true) ∧ Below w.heap.size w w' := by
  have hA := awake_any w ht
  have h2 : (ls.length : Int) > 100 := by omega
  go_enter Tryd.func8, Tryd.ntmps8
  go_wp2_with (go_at_call 9; refine hA.mono ?_; rintro e w1 ⟨rfl, B1⟩)
  go_ret
  exact ⟨rfl, B1⟩
set_option maxRecDepth 100000 in
set_option maxHeartbeats 8000000 in
theorem sumWalk2 (A : Option Addr) (c : Nat) (ls : List S87) (place : Int) (w : World) (hC : Kd.C k87 w A ls.length ls) (hc : ls.length ≤ c) (hG : ∀ y ∈ ls, ((-9223372036854775808 ≤ y.f0 ∧ y.f0 ≤ 9223372036854775807) ∧ (-9223372036854775808 ≤ y.f1 ∧ y.f1 ≤ 9223372036854775807) ∧ (-9223372036854775808 ≤ y.f2 ∧ y.f2 ≤ 9223372036854775807) ∧ (0 ≤ y.f3 ∧ y.f3 ≤ 4294967295) ∧ (-9223372036854775808 ≤ y.f4 ∧ y.f4 ≤ 9223372036854775807))) (ht : Tab w) (h : ls.length ≤ 100) : Calls Tryd.prog 8 #[.slice A ls.length c, .int .i64 place] w fun e w' => e = .returned (.bool true) ∧ Below w.heap.size w w' := by
  have hu32 := Tryd.underlying32
  have hu38 := Tryd.underlying38
  have hu84 := Tryd.underlying84
  have hu87 := Tryd.underlying87
  have HT := Lib.hid ht
  have HCl := Lib.hid hC
  have HV := Lib.hid (fun s hs => (hG s hs).2.2.2.1 : ∀ s ∈ ls, 0 ≤ s.f3 ∧ s.f3 ≤ 4294967295)
  have HWF := Lib.hid (itemsK_wf (ls := ls) (fun s hs => ⟨(hG s hs).1, (hG s hs).2.2.1⟩) ls.length)
  have hM := mill_any w A none none c 0 0 ls [] [] hC (nil_C2 _ _) (nil_C2 _ _) (fun ad e hp => by subst e; exact Kd.C_lt hC hp (by decide)) (fun ad e _ => by cases e) (fun ad e _ => by cases e) (by omega) (by decide) (by decide)
  have hil := itemsK_len ls ls.length (Nat.le_refl _)
  have hil1 := itemsK1_len ls ls.length (Nat.le_refl _)
  clear ht hC hG
  go_enter Tryd.func8, Tryd.ntmps8
  go_wp2_with (go_at_call 10; refine hold ?_)
  refine Lib.hid ?_
  refine hM.mono ?_
  rintro e w1 ⟨v2, v3, v5, u2, u3, u5, rfl, M⟩
  clear hM
  obtain ⟨A2, c2, e2, l2, C2⟩ := Kd.R_reads M.r2
  obtain ⟨A3, c3, e3, l3, C3⟩ := Kd.R_reads M.r3
  obtain ⟨A5, c5, e5, l5, C5⟩ := Kd.R_reads M.r5
  obtain ⟨D2, d2, f2, m2, G2⟩ := Kd.R_reads M.q2
  obtain ⟨D3, d3, f3, m3, G3⟩ := Kd.R_reads M.q3
  obtain ⟨D5, d5, f5, m5, G5⟩ := Kd.R_reads M.q5
  replace e2 : v2 = .slice A2 0 c2 := e2
  replace e3 : v3 = .slice A3 ls.length c3 := by rw [e3, hil]
  replace e5 : v5 = .slice A5 0 c5 := e5
  replace f2 : u2 = .slice D2 0 d2 := f2
  replace f3 : u3 = .slice D3 ls.length d3 := by rw [f3, hil1]
  replace f5 : u5 = .slice D5 0 d5 := f5
  subst e2 e3 e5 f2 f3 f5
  have HC3 := Lib.hid C3
  have HL3 := Lib.hid l3
  have HB1 := Lib.hid M.bl
  have hs1 := HB1.out.size
  have HIL := Lib.hid hil
  clear M C2 C3 C5 G2 G3 G5 l2 l3 l5 m2 m3 m5 hil hil1
  have h1 : Hid (((w1.alloc (.cells #[.int .i64 0, .slice none 0 0, .slice none 0 0, .slice none 0 0, .slice none 0 0, .slice none 0 0, .int .i64 0, .int .i64 0, .slice none 0 0, .slice none 0 0] 32)).alloc (.cells #[.int .i64 0, .slice none 0 0, .slice none 0 0, .slice none 0 0, .slice none 0 0, .slice none 0 0, .int .i64 0, .int .i64 0, .slice none 0 0, .slice none 0 0] 38)).heap[w1.heap.size]? = some (.cells #[.int .i64 0, .slice none 0 0, .slice none 0 0, .slice none 0 0, .slice none 0 0, .slice none 0 0, .int .i64 0, .int .i64 0, .slice none 0 0, .slice none 0 0] 32 (0, 0))) := Lib.hid (blk_alloc (blk_new _ _) _)
  have h2 : Hid (((w1.alloc (.cells #[.int .i64 0, .slice none 0 0, .slice none 0 0, .slice none 0 0, .slice none 0 0, .slice none 0 0, .int .i64 0, .int .i64 0, .slice none 0 0, .slice none 0 0] 32)).alloc (.cells #[.int .i64 0, .slice none 0 0, .slice none 0 0, .slice none 0 0, .slice none 0 0, .slice none 0 0, .int .i64 0, .int .i64 0, .slice none 0 0, .slice none 0 0] 38)).heap[w1.heap.size + 1]? = some (.cells #[.int .i64 0, .slice none 0 0, .slice none 0 0, .slice none 0 0, .slice none 0 0, .slice none 0 0, .int .i64 0, .int .i64 0, .slice none 0 0, .slice none 0 0] 38 (0, 0))) := Lib.hid (by rw [show w1.heap.size + 1 = (w1.alloc (.cells #[.int .i64 0, .slice none 0 0, .slice none 0 0, .slice none 0 0, .slice none 0 0, .slice none 0 0, .int .i64 0, .int .i64 0, .slice none 0 0, .slice none 0 0] 32)).heap.size by simp [go_sem]]; exact blk_new _ _)
  have b12 := Lib.hid (((Below.refl w1.heap.size w1).alloc (Nat.le_refl _) (.cells #[.int .i64 0, .slice none 0 0, .slice none 0 0, .slice none 0 0, .slice none 0 0, .slice none 0 0, .int .i64 0, .int .i64 0, .slice none 0 0, .slice none 0 0] 32)).alloc (by simp [go_sem]) (.cells #[.int .i64 0, .slice none 0 0, .slice none 0 0, .slice none 0 0, .slice none 0 0, .slice none 0 0, .int .i64 0, .int .i64 0, .slice none 0 0, .slice none 0 0] 38))
  go_wp2_with (first
    | (refine row_event (t := 32) (s := 5) (u := 26) rfl rfl rfl rfl rfl h1.out (by kernel_rfl) rfl (all10 rfl rfl rfl) ?_; intro wd hd ned bd zd; have HD := Lib.hid hd; have h2d := Lib.hid ((ned _ (by omega)).trans h2.out); have b1d := Lib.hid (bd _ _ b12.out (Nat.le_refl _)); clear hd ned bd zd h1 h2 b12)
    | (refine row_event (t := 38) (s := 6) (u := 27) rfl rfl rfl rfl rfl h2d.out (by kernel_rfl) rfl (all10 rfl rfl rfl) ?_; intro we he nee be ze; have HE := Lib.hid ((nee _ (by omega)).trans HD.out); have b1e := Lib.hid (be _ _ b1d.out (by omega)); clear he nee be ze h2d b1d HD)
    | ((with_reducible refine gate_dst (N := 28) rfl ?_); (try (refine gate_guard (by rfl) ?_; dsimp only)); refine load_event (N := 28) rfl rfl rfl rfl [.int .i64 0, .slice none 0 0, .slice A2 0 c2, .slice A3 ls.length c3, .slice none 0 0, .slice A5 0 c5, .int .i64 0, .int .i64 0, .slice none 0 0, .slice none 0 0] _ (row_cells HE.out) Tryd.underlying32 rfl (by kernel_rfl) ?_)
    | (go_at_call 16; refine hold ?_))
  refine Lib.hid ?_
  have hse := b1e.out.size
  have HBe := Lib.hid (HB1.out.trans (b1e.out.mono hs1))
  have hsw := HBe.out.size
  have HTe := Lib.hid (HT.out.below HBe.out (Nat.le_refl _))
  have HCe := Lib.hid (Kd.C_below HCl.out HBe.out)
  have HIe := Lib.hid (Kd.C_below HC3.out b1e.out)
  have hS := Stock_any we 0 0 0 place none A2 A3 none A5 none none 0 0 0 0 0 0 0 c2 c3 0 c5 0 0 (itemsK ls ls.length) HIe.out HL3.out (by rw [HIL.out]; omega) HWF.out
  rw [HIL.out] at hS
  refine hS.mono ?_
  rintro e wf ⟨v, d, rfl, hp, hw, R, Bf⟩
  have HGd := Lib.hid (sums_good ls place h HV.out hp hw)
  have HLd := Lib.hid (show (d.map toRow).length = (stockK (itemsK ls ls.length) place ls.length).length by rw [List.length_map, hp.length_eq])
  clear hS hp hw
  generalize d.map toRow = rows at *
  obtain ⟨RA, rc, re, rl, RC⟩ := Kd.R_reads R
  subst re
  have HRC := Lib.hid RC
  have bf := Lib.hid Bf
  have hsf := bf.out.size
  have hrl := HGd.out.len
  clear R rl RC Bf HCl HC3 HB1 b1e HT
  go_wp2_with fail
  go_loopw [8, 9, 10] (fun x y i wr => ∃ k : Nat, k ≤ rows.length ∧ i = .int .i64 k ∧ x = .int .i64 (cs rows k) ∧ y = .int .i64 (vs rows k) ∧ Hid (Below wf.heap.size wf wr)) (fun _ _ i _ => rows.length - (intOf i).toNat)
  case atStart => exact ⟨0, Nat.zero_le _, rfl, rfl, rfl, Lib.hid (Below.refl _ _)⟩
  case round =>
    obtain ⟨k, hk, rfl, rfl, rfl, M⟩ := hrel
    by_cases hlt : k < rows.length
    · obtain ⟨ra, cc, e0, hK, hcs⟩ := at_row HRC.out z84 k hlt
      subst e0
      obtain rfl := k84_open hK
      clear hK
      have HCS := Lib.hid (fun (W : World) (b : Below wf.heap.size wf W) => cells_below hcs b)
      clear hcs
      have hb := csvs_bnd HGd.out k hk
      have hps := HGd.out.pos _ (List.getElem_mem hlt)
      have hc1 := Lib.hid (cs_succ rows k hlt)
      have hv1 := Lib.hid (vs_succ rows k hlt)
      have x3 : wr.cell? ⟨(ra.add (k * 5)).block, (ra.add (k * 5)).off + 3, none⟩ = some (.int .i64 rows[k].f3) := HCS.out wr M.out 3 _ rfl
      have hw1 : wrap64 (cs rows k + rows[k].f3) = cs rows k + rows[k].f3 := wrapI (by omega)
      have hw2 : wrap64 (vs rows k + rows[k].f4) = vs rows k + rows[k].f4 := wrapI (by omega)
      have Hw1 := Lib.hid hw1
      have Hw2 := Lib.hid hw2
      clear hw1 hw2
      have hn1 : ¬ rows[k].f3 < 1 := by omega
      go_wp2_with fail
      refine wp_region_noPanic ?_
      refine RegH.start (S := fun w => w = wr.drew) (f := Tryd.f8) (k := 11) (n := 16) (a' := ⟨#[_, _, _, _, _, _, _, _, _, _, _, _, _, _, _, _, _, _, _, _, _, _, _, _, _, _, _, _, _, _, _, _, _, _, _, _, _, _, _, _, _, _, _, _, _, _, _, _, _, _, _, _, _, _, _, _, _, _, _, _, _, _, _, _, _, _, _, _, _, _, _, _, _, _, _, _, _, _, _, _, _, _, _, _, _, _, _, _, _, _, _, _, _, _, _, _, _, _, _, _, _, _, _, _, _, _, _, _, _, _, _, _, _, _, _, _, _, _, _, _, _, _, _, _, _, _, _, _, _, _, _, _, _, _, _, _, _, _, _, _, _, _, _, _, _, _, _, _, _, _, _, _, _, _, _, _, _, _, _, _, _, _, _, _, _, _, _, _, _, _, _, _, _, _, _, _, _, _, _, _, _, _, _, _, _, _, _, _, _, _, _, _, _, _, _, _, _, _, _, _, _, _, _, _], _⟩) (by kernel_rfl) (by kernel_rfl) (by kernel_rfl) rfl (by kernel_rfl) ?_
      refine sreg11 (fun _ _ _ _ _ h => h) _ _ _ _ _ _ _ _ _ _ _ _ _ _ _ _ _ _ _ _ _ _ _ _ _ _ _ _ _ _ _ _ _ _ _ _ _ _ _ _ _ _ _ _ _ _ _ _ _ _ _ _ _ _ _ _ _ _ _ _ _ _ _ _ _ _ _ _ _ _ _ _ _ _ _ _ _ _ _ _ _ _ _ _ _ _ _ _ _ _ _ _ _ _ _ _ _ _ _ _ _ _ _ _ _ _ _ _ _ _ _ _ _ _ _ _ _ _ _ _ _ _ _ _ _ _ _ _ _ _ _ _ _ _ _ _ _ _ _ _ _ _ _ _ _ _ _ _ _ _ _ _ _ _ _ _ _ _ _ _ _ _ _ _ _ _ _ _ _ _ _ _ _ _ _ _ _ _ _ _ _ _ _ _ _ _ _ _ _ _ _ _ _ _ _ _ _ _ _ _ _ (i := k) (n := rows.length) (cap := rc) (ar := ra) (p := ra.add (k * 5)) (C := cs rows k) (V := vs rows k) (u3 := rows[k].f3) (u4 := rows[k].f4) hlt rfl (HCS.out _ (M.out.trans (((Below.refl _ _).drew).mono M.out.size)) 3 _ rfl) (HCS.out _ (M.out.trans (((Below.refl _ _).drew).mono M.out.size)) 4 _ rfl) ?_
      refine NoPanic.normal ?_
      rw [Hw1.out, Hw2.out]
      have M1 := Lib.hid (M.out.trans (((Below.refl wr.heap.size wr).drew).mono M.out.size))
      clear x3 M
      by_cases hk0 : k = 0
      · go_wp2_with fail
        go_roundw
        case rel => exact ⟨k + 1, by omega, by go_num, by rw [hc1.out], by rw [hv1.out], M1⟩
        case measure => simp [intOf]; omega
      · obtain ⟨m, hm⟩ : ∃ m, k = m + 1 := ⟨k - 1, by omega⟩
        have hord := HGd.out.ord m (by omega)
        obtain ⟨ra2, cc2, e2, hK2, hcs2⟩ := at_row HRC.out z84 m (by omega)
        injection e2 with e2
        subst e2
        obtain rfl := k84_open hK2
        clear hK2
        have HCA := Lib.hid (fun (W : World) (b : Below wf.heap.size wf W) => cells_below hcs2 b)
        clear hcs2
        have hord2 : ltR rows[m] rows[k] := by
          have : rows[m + 1]'(by omega) = rows[k] := by congr 1; omega
          rw [← this]; exact hord
        clear hord
        generalize rows[k] = rb at *
        obtain ⟨ra', hra'⟩ : ∃ x, rows[m] = x := ⟨_, rfl⟩
        simp only [hra'] at hord2 HCA
        clear hra'
        have HO := Lib.hid hord2
        have Hm := Lib.hid hm
        clear hord2 hm
        go_wp2_with fail
        refine wp_region_noPanic ?_
        refine RegH.start (S := Below wr.drew.drew.heap.size wr.drew.drew) (f := Tryd.f8) (k := 13) (n := 13) (a' := ⟨#[_, _, _, _, _, _, _, _, _, _, _, _, _, _, _, _, _, _, _, _, _, _, _, _, _, _, _, _, _, _, _, _, _, _, _, _, _, _, _, _, _, _, _, _, _, _, _, _, _, _, _, _, _, _, _, _, _, _, _, _, _, _, _, _, _, _, _, _, _, _, _, _, _, _, _, _, _, _, _, _, _, _, _, _, _, _, _, _, _, _, _, _, _, _, _, _, _, _, _, _, _, _, _, _, _, _, _, _, _, _, _, _, _, _, _, _, _, _, _, _, _, _, _, _, _, _, _, _, _, _, _, _, _, _, _, _, _, _, _, _, _, _, _, _, _, _, _, _, _, _, _, _, _, _, _, _, _, _, _, _, _, _, _, _, _, _, _, _, _, _, _, _, _, _, _, _, _, _, _, _, _, _, _, _, _, _, _, _, _, _, _, _, _, _, _, _, _, _, _, _, _, _, _, _], _⟩) (by kernel_rfl) (by kernel_rfl) (by kernel_rfl) rfl (by kernel_rfl) ?_
        refine sreg13 (fun _ _ _ _ _ h => h) _ _ _ _ _ _ _ _ _ _ _ _ _ _ _ _ _ _ _ _ _ _ _ _ _ _ _ _ _ _ _ _ _ _ _ _ _ _ _ _ _ _ _ _ _ _ _ _ _ _ _ _ _ _ _ _ _ _ _ _ _ _ _ _ _ _ _ _ _ _ _ _ _ _ _ _ _ _ _ _ _ _ _ _ _ _ _ _ _ _ _ _ _ _ _ _ _ _ _ _ _ _ _ _ _ _ _ _ _ _ _ _ _ _ _ _ _ _ _ _ _ _ _ _ _ _ _ _ _ _ _ _ _ _ _ _ _ _ _ _ _ _ _ _ _ _ _ _ _ _ _ _ _ _ _ _ _ _ _ _ _ _ _ _ _ _ _ _ _ _ _ _ _ _ _ _ _ _ _ _ _ _ _ _ _ _ _ _ _ _ _ _ _ _ _ _ _ _ _ _ _ _ _ (i := m) (k := k) (n := rows.length) (cap := rc) (ar := ra) (p := ra.add (m * 5)) (q := ra.add (k * 5)) ra' rb Hm.out hlt (by omega) rfl rfl (HCA.out _ (M1.out.trans (((Below.refl _ _).drew).mono M1.out.size))) (HCS.out _ (M1.out.trans (((Below.refl _ _).drew).mono M1.out.size))) ?_
        intro ba bb w13 B13 hba hbb
        refine NoPanic.normal ?_
        have M2 := Lib.hid ((M1.out.trans (((Below.refl wr.drew.heap.size wr.drew).drew).mono M1.out.size)).trans (B13.mono (show wf.heap.size ≤ wr.drew.drew.heap.size from M1.out.size)))
        have a0 : w13.cell? ⟨ba, 0, none⟩ = some (.int .i64 ra'.f0) := blk_cell hba 0
        have a1 : w13.cell? ⟨ba, 1, none⟩ = some (.int .i64 ra'.f1) := blk_cell hba 1
        have a2 : w13.cell? ⟨ba, 2, none⟩ = some (.int .i64 ra'.f2) := blk_cell hba 2
        have b0 : w13.cell? ⟨bb, 0, none⟩ = some (.int .i64 rb.f0) := blk_cell hbb 0
        have b1 : w13.cell? ⟨bb, 1, none⟩ = some (.int .i64 rb.f1) := blk_cell hbb 1
        have b2 : w13.cell? ⟨bb, 2, none⟩ = some (.int .i64 rb.f2) := blk_cell hbb 2
        clear M1 B13 hba hbb
        have hor := HO.out
        unfold ltR at hor
        rcases hor with h0 | ⟨h0, h1 | ⟨h1, h2⟩⟩
        · have d1 : decide (rb.f0 < ra'.f0) = false := decide_eq_false (by omega)
          have d2 : (ra'.f0 == rb.f0) = false := beq_eq_false_iff_ne.mpr (by omega)
          go_wp2_with fail
          go_roundw
          case rel => exact ⟨k + 1, by omega, by go_num, by rw [hc1.out], by rw [hv1.out], M2⟩
          case measure => simp [intOf]; omega
        · have d1 : decide (rb.f0 < ra'.f0) = false := decide_eq_false (by omega)
          have d2 : (ra'.f0 == rb.f0) = true := beq_iff_eq.mpr h0
          have d3 : decide (rb.f1 < ra'.f1) = false := decide_eq_false (by omega)
          have d4 : (ra'.f1 == rb.f1) = false := beq_eq_false_iff_ne.mpr (by omega)
          have H0 := Lib.hid h0
          clear h0
          go_wp2_with fail
          go_roundw
          case rel => exact ⟨k + 1, by omega, by go_num, by rw [hc1.out], by rw [hv1.out], M2⟩
          case measure => simp [intOf]; omega
        · have d1 : decide (rb.f0 < ra'.f0) = false := decide_eq_false (by omega)
          have d2 : (ra'.f0 == rb.f0) = true := beq_iff_eq.mpr h0
          have d3 : decide (rb.f1 < ra'.f1) = false := decide_eq_false (by omega)
          have d4 : (ra'.f1 == rb.f1) = true := beq_iff_eq.mpr h1
          have d5 : decide (rb.f2 ≤ ra'.f2) = false := decide_eq_false (by omega)
          have H0 := Lib.hid h0
          have H1 := Lib.hid h1
          clear h0 h1
          go_wp2_with fail
          go_roundw
          case rel => exact ⟨k + 1, by omega, by go_num, by rw [hc1.out], by rw [hv1.out], M2⟩
          case measure => simp [intOf]; omega
    · have hkl : k = rows.length := by omega
      subst hkl
      have hcn : cs rows rows.length = cnt87 ls place ls.length := by unfold cs; rw [List.take_length]; exact HGd.out.csum
      have hvn : vs rows rows.length = vol87 ls place ls.length := by unfold vs; rw [List.take_length]; exact HGd.out.vsum
      rw [hcn, hvn]
      clear hcn hvn hlt hk
      have Hvb := Lib.hid (vol87_bnd HV.out place)
      have hcN := cnt87_bnd ls place ls.length
      have hvN := Hvb.out ls.length (Nat.le_refl _)
      have HM0 := M
      go_wp2_with fail
      go_loopw [8, 9, 13] (fun x y i wr => ∃ k : Nat, k ≤ ls.length ∧ i = .int .i64 k ∧ x = .int .i64 (cnt87 ls place ls.length - cnt87 ls place k) ∧ y = .int .i64 (vol87 ls place ls.length - vol87 ls place k) ∧ Hid (Below wf.heap.size wf wr)) (fun _ _ i _ => ls.length - (intOf i).toNat)
      case atStart => exact ⟨0, Nat.zero_le _, rfl, by simp [cnt87], by simp [vol87], M⟩
      case round =>
        obtain ⟨k, hk, rfl, rfl, rfl, M⟩ := hrel
        by_cases hlt : k < ls.length
        · obtain ⟨al, cc, e0, hK, hcs⟩ := at_row HCe.out z87 k hlt
          subst e0
          obtain rfl := k87_open hK
          clear hK
          have HCS := Lib.hid (fun (W : World) (b : Below wf.heap.size wf W) => cells_below hcs (bf.out.trans (b.mono hsf)))
          clear hcs
          have hck := cnt87_bnd ls place k
          have hvk := Hvb.out k hk
          have hs3 := HV.out _ (List.getElem_mem hlt)
          have hc1 := Lib.hid (cnt87_succ ls place k hlt)
          have hv1 := Lib.hid (vol87_succ ls place k hlt)
          have HONE := Lib.hid (HGd.out.one k hlt)
          generalize ls[k] = s at *
          have x4 : wr.cell? ⟨(al.add (k * 5)).block, (al.add (k * 5)).off + 4, none⟩ = some (.int .i64 s.f4) := HCS.out wr M.out 4 _ rfl
          by_cases hpl : s.f4 = place
          · have hpd : (s.f4 != place) = false := bne_eq_false_iff_eq.mpr hpl
            have HPL := Lib.hid hpl
            clear hpl
            go_wp2_with fail
            refine wp_region_noPanic ?_
            refine RegH.start (S := fun w => w = wr.drew) (f := Tryd.f8) (k := 20) (n := 12) (a' := ⟨#[_, _, _, _, _, _, _, _, _, _, _, _, _, _, _, _, _, _, _, _, _, _, _, _, _, _, _, _, _, _, _, _, _, _, _, _, _, _, _, _, _, _, _, _, _, _, _, _, _, _, _, _, _, _, _, _, _, _, _, _, _, _, _, _, _, _, _, _, _, _, _, _, _, _, _, _, _, _, _, _, _, _, _, _, _, _, _, _, _, _, _, _, _, _, _, _, _, _, _, _, _, _, _, _, _, _, _, _, _, _, _, _, _, _, _, _, _, _, _, _, _, _, _, _, _, _, _, _, _, _, _, _, _, _, _, _, _, _, _, _, _, _, _, _, _, _, _, _, _, _, _, _, _, _, _, _, _, _, _, _, _, _, _, _, _, _, _, _, _, _, _, _, _, _, _, _, _, _, _, _, _, _, _, _, _, _, _, _, _, _, _, _, _, _, _, _, _, _, _, _, _, _, _, _], _⟩) (by kernel_rfl) (by kernel_rfl) (by kernel_rfl) rfl (by kernel_rfl) ?_
            refine sreg20 (fun _ _ _ _ _ h => h) _ _ _ _ _ _ _ _ _ _ _ _ _ _ _ _ _ _ _ _ _ _ _ _ _ _ _ _ _ _ _ _ _ _ _ _ _ _ _ _ _ _ _ _ _ _ _ _ _ _ _ _ _ _ _ _ _ _ _ _ _ _ _ _ _ _ _ _ _ _ _ _ _ _ _ _ _ _ _ _ _ _ _ _ _ _ _ _ _ _ _ _ _ _ _ _ _ _ _ _ _ _ _ _ _ _ _ _ _ _ _ _ _ _ _ _ _ _ _ _ _ _ _ _ _ _ _ _ _ _ _ _ _ _ _ _ _ _ _ _ _ _ _ _ _ _ _ _ _ _ _ _ _ _ _ _ _ _ _ _ _ _ _ _ _ _ _ _ _ _ _ _ _ _ _ _ _ _ _ _ _ _ _ _ _ _ _ _ _ _ _ _ _ _ _ _ _ _ _ _ _ (i := k) (ln := ls.length) (c := c) (al := al) (p := al.add (k * 5)) (C := cnt87 ls place ls.length - cnt87 ls place k) (V := vol87 ls place ls.length - vol87 ls place k) (u3 := s.f3) hlt rfl (HCS.out _ (M.out.trans (((Below.refl _ _).drew).mono M.out.size)) 3 _ rfl) ?_
            refine NoPanic.normal ?_
            rw [show wrap64 (cnt87 ls place ls.length - cnt87 ls place k - 1) = cnt87 ls place ls.length - cnt87 ls place (k + 1) from by rw [hc1.out, if_pos HPL.out, wrapI (by omega)]; omega, show wrap64 (vol87 ls place ls.length - vol87 ls place k - wrap64 s.f3) = vol87 ls place ls.length - vol87 ls place (k + 1) from by rw [hv1.out, if_pos HPL.out, wrapI (n := s.f3) (by omega), wrapI (by omega)]; omega]
            have M1 := Lib.hid (M.out.trans (((Below.refl wr.heap.size wr).drew).mono M.out.size))
            clear x4 M
            go_wp2_with fail
            go_loopw [14, 15] (fun x i wq => ∃ j : Nat, j ≤ rows.length ∧ i = .int .i64 j ∧ x = .int .i64 (fnd rows s j) ∧ Hid (Below wf.heap.size wf wq)) (fun _ i _ => rows.length - (intOf i).toNat)
            case atStart => exact ⟨0, Nat.zero_le _, rfl, rfl, M1⟩
            case round =>
              obtain ⟨j, hj, rfl, rfl, MJ⟩ := hrel
              by_cases hjl : j < rows.length
              · obtain ⟨ra, cc, e0, hK, hcs⟩ := at_row HRC.out z84 j hjl
                subst e0
                obtain rfl := k84_open hK
                clear hK
                have HCR := Lib.hid (fun (W : World) (b : Below wf.heap.size wf W) => cells_below hcs b)
                clear hcs
                have hfb := fnd_bnd rows s j
                have hfs := Lib.hid (fnd_succ rows s j hjl)
                generalize rows[j] = r at *
                have MD := Lib.hid (MJ.out.trans (((Below.refl wr.heap.size wr).drew).mono MJ.out.size))
                have HR0 := Lib.hid (HCR.out _ MD.out)
                have HS0 := Lib.hid (HCS.out _ MD.out)
                cases hb0 : decide (r.f0 = s.f0) with
                | false =>
                  have Hmt := Lib.hid (show matchB s r = false by unfold matchB; rw [hb0]; rfl)
                  have Hb0 := Lib.hid hb0
                  clear hb0
                  go_wp2_with fail
                  refine wp_region_noPanic ?_
                  refine RegH.start (S := fun w => w = wr.drew) (f := Tryd.f8) (k := 25) (n := 39) (a' := ⟨#[_, _, _, _, _, _, _, _, _, _, _, _, _, _, _, _, _, _, _, _, _, _, _, _, _, _, _, _, _, _, _, _, _, _, _, _, _, _, _, _, _, _, _, _, _, _, _, _, _, _, _, _, _, _, _, _, _, _, _, _, _, _, _, _, _, _, _, _, _, _, _, _, _, _, _, _, _, _, _, _, _, _, _, _, _, _, _, _, _, _, _, _, _, _, _, _, _, _, _, _, _, _, _, _, _, _, _, _, _, _, _, _, _, _, _, _, _, _, _, _, _, _, _, _, _, _, _, _, _, _, _, _, _, _, _, _, _, _, _, _, _, _, _, _, _, _, _, _, _, _, _, _, _, _, _, _, _, _, _, _, _, _, _, _, _, _, _, _, _, _, _, _, _, _, _, _, _, _, _, _, _, _, _, _, _, _, _, _, _, _, _, _, _, _, _, _, _, _, _, _, _, _, _, _], _⟩) (by kernel_rfl) (by kernel_rfl) (by kernel_rfl) rfl (by kernel_rfl) ?_
                  refine sreg25a (fun _ _ _ _ _ h => h) _ _ _ _ _ _ _ _ _ _ _ _ _ _ _ _ _ _ _ _ _ _ _ _ _ _ _ _ _ _ _ _ _ _ _ _ _ _ _ _ _ _ _ _ _ _ _ _ _ _ _ _ _ _ _ _ _ _ _ _ _ _ _ _ _ _ _ _ _ _ _ _ _ _ _ _ _ _ _ _ _ _ _ _ _ _ _ _ _ _ _ _ _ _ _ _ _ _ _ _ _ _ _ _ _ _ _ _ _ _ _ _ _ _ _ _ _ _ _ _ _ _ _ _ _ _ _ _ _ _ _ _ _ _ _ _ _ _ _ _ _ _ _ _ _ _ _ _ _ _ _ _ _ _ _ _ _ _ _ _ _ _ _ _ _ _ _ _ _ _ _ _ _ _ _ _ _ _ _ _ _ _ _ _ _ _ _ _ _ _ _ _ _ _ _ _ _ _ _ _ _ (i := k) (j := j) (n := rows.length) (cap := rc) (ln := ls.length) (c := c) (ar := ra) (al := al) (p := al.add (k * 5)) (q := ra.add (j * 5)) (r0 := r.f0) (r1 := r.f1) (r2 := r.f2) (s0 := s.f0) (s1 := s.f1) (s2 := s.f2) (b2 := false) hlt hjl rfl rfl (HR0.out 0 _ rfl) (HR0.out 1 _ rfl) (HR0.out 2 _ rfl) (HS0.out 0 _ rfl) (HS0.out 1 _ rfl) (HS0.out 2 _ rfl) Hb0.out ?_
                  refine NoPanic.normal ?_
                  go_wp2_with fail
                  go_roundw
                  case rel => exact ⟨j + 1, by omega, by go_num, by rw [hfs.out, if_neg (by rw [Hmt.out]; exact Bool.false_ne_true), Int.add_zero], MD⟩
                  case measure => simp [intOf]; omega
                | true =>
                  cases hb1 : decide (r.f1 = mx 0 (mn s.f1 1073741824)) with
                  | false =>
                    have Hmt := Lib.hid (show matchB s r = false by unfold matchB clampL; rw [hb0, hb1]; rfl)
                    have Hb0 := Lib.hid hb0
                    have Hb1 := Lib.hid hb1
                    clear hb0 hb1
                    go_wp2_with fail
                    refine wp_region_noPanic ?_
                    refine RegH.start (S := fun w => w = wr.drew) (f := Tryd.f8) (k := 25) (n := 39) (a' := ⟨#[_, _, _, _, _, _, _, _, _, _, _, _, _, _, _, _, _, _, _, _, _, _, _, _, _, _, _, _, _, _, _, _, _, _, _, _, _, _, _, _, _, _, _, _, _, _, _, _, _, _, _, _, _, _, _, _, _, _, _, _, _, _, _, _, _, _, _, _, _, _, _, _, _, _, _, _, _, _, _, _, _, _, _, _, _, _, _, _, _, _, _, _, _, _, _, _, _, _, _, _, _, _, _, _, _, _, _, _, _, _, _, _, _, _, _, _, _, _, _, _, _, _, _, _, _, _, _, _, _, _, _, _, _, _, _, _, _, _, _, _, _, _, _, _, _, _, _, _, _, _, _, _, _, _, _, _, _, _, _, _, _, _, _, _, _, _, _, _, _, _, _, _, _, _, _, _, _, _, _, _, _, _, _, _, _, _, _, _, _, _, _, _, _, _, _, _, _, _, _, _, _, _, _, _], _⟩) (by kernel_rfl) (by kernel_rfl) (by kernel_rfl) rfl (by kernel_rfl) ?_
                    refine sreg25b (fun _ _ _ _ _ h => h) _ _ _ _ _ _ _ _ _ _ _ _ _ _ _ _ _ _ _ _ _ _ _ _ _ _ _ _ _ _ _ _ _ _ _ _ _ _ _ _ _ _ _ _ _ _ _ _ _ _ _ _ _ _ _ _ _ _ _ _ _ _ _ _ _ _ _ _ _ _ _ _ _ _ _ _ _ _ _ _ _ _ _ _ _ _ _ _ _ _ _ _ _ _ _ _ _ _ _ _ _ _ _ _ _ _ _ _ _ _ _ _ _ _ _ _ _ _ _ _ _ _ _ _ _ _ _ _ _ _ _ _ _ _ _ _ _ _ _ _ _ _ _ _ _ _ _ _ _ _ _ _ _ _ _ _ _ _ _ _ _ _ _ _ _ _ _ _ _ _ _ _ _ _ _ _ _ _ _ _ _ _ _ _ _ _ _ _ _ _ _ _ _ _ _ _ _ _ _ _ _ (i := k) (j := j) (n := rows.length) (cap := rc) (ln := ls.length) (c := c) (ar := ra) (al := al) (p := al.add (k * 5)) (q := ra.add (j * 5)) (r0 := r.f0) (r1 := r.f1) (r2 := r.f2) (s0 := s.f0) (s1 := s.f1) (s2 := s.f2) (b2 := false) hlt hjl rfl rfl (HR0.out 0 _ rfl) (HR0.out 1 _ rfl) (HR0.out 2 _ rfl) (HS0.out 0 _ rfl) (HS0.out 1 _ rfl) (HS0.out 2 _ rfl) Hb0.out Hb1.out ?_
                    refine NoPanic.normal ?_
                    go_wp2_with fail
                    go_roundw
                    case rel => exact ⟨j + 1, by omega, by go_num, by rw [hfs.out, if_neg (by rw [Hmt.out]; exact Bool.false_ne_true), Int.add_zero], MD⟩
                    case measure => simp [intOf]; omega
                  | true =>
                    cases hb2 : decide (r.f2 = s.f2) with
                    | false =>
                      have Hmt := Lib.hid (show matchB s r = false by unfold matchB clampL; rw [hb0, hb1, hb2]; rfl)
                      have Hb0 := Lib.hid hb0
                      have Hb1 := Lib.hid hb1
                      have Hb2 := Lib.hid hb2
                      clear hb0 hb1 hb2
                      go_wp2_with fail
                      refine wp_region_noPanic ?_
                      refine RegH.start (S := fun w => w = wr.drew) (f := Tryd.f8) (k := 25) (n := 39) (a' := ⟨#[_, _, _, _, _, _, _, _, _, _, _, _, _, _, _, _, _, _, _, _, _, _, _, _, _, _, _, _, _, _, _, _, _, _, _, _, _, _, _, _, _, _, _, _, _, _, _, _, _, _, _, _, _, _, _, _, _, _, _, _, _, _, _, _, _, _, _, _, _, _, _, _, _, _, _, _, _, _, _, _, _, _, _, _, _, _, _, _, _, _, _, _, _, _, _, _, _, _, _, _, _, _, _, _, _, _, _, _, _, _, _, _, _, _, _, _, _, _, _, _, _, _, _, _, _, _, _, _, _, _, _, _, _, _, _, _, _, _, _, _, _, _, _, _, _, _, _, _, _, _, _, _, _, _, _, _, _, _, _, _, _, _, _, _, _, _, _, _, _, _, _, _, _, _, _, _, _, _, _, _, _, _, _, _, _, _, _, _, _, _, _, _, _, _, _, _, _, _, _, _, _, _, _, _], _⟩) (by kernel_rfl) (by kernel_rfl) (by kernel_rfl) rfl (by kernel_rfl) ?_
                      refine sreg25c (fun _ _ _ _ _ h => h) _ _ _ _ _ _ _ _ _ _ _ _ _ _ _ _ _ _ _ _ _ _ _ _ _ _ _ _ _ _ _ _ _ _ _ _ _ _ _ _ _ _ _ _ _ _ _ _ _ _ _ _ _ _ _ _ _ _ _ _ _ _ _ _ _ _ _ _ _ _ _ _ _ _ _ _ _ _ _ _ _ _ _ _ _ _ _ _ _ _ _ _ _ _ _ _ _ _ _ _ _ _ _ _ _ _ _ _ _ _ _ _ _ _ _ _ _ _ _ _ _ _ _ _ _ _ _ _ _ _ _ _ _ _ _ _ _ _ _ _ _ _ _ _ _ _ _ _ _ _ _ _ _ _ _ _ _ _ _ _ _ _ _ _ _ _ _ _ _ _ _ _ _ _ _ _ _ _ _ _ _ _ _ _ _ _ _ _ _ _ _ _ _ _ _ _ _ _ _ _ _ (i := k) (j := j) (n := rows.length) (cap := rc) (ln := ls.length) (c := c) (ar := ra) (al := al) (p := al.add (k * 5)) (q := ra.add (j * 5)) (r0 := r.f0) (r1 := r.f1) (r2 := r.f2) (s0 := s.f0) (s1 := s.f1) (s2 := s.f2) (b2 := false) hlt hjl rfl rfl (HR0.out 0 _ rfl) (HR0.out 1 _ rfl) (HR0.out 2 _ rfl) (HS0.out 0 _ rfl) (HS0.out 1 _ rfl) (HS0.out 2 _ rfl) Hb0.out Hb1.out Hb2.out ?_
                      refine NoPanic.normal ?_
                      go_wp2_with fail
                      go_roundw
                      case rel => exact ⟨j + 1, by omega, by go_num, by rw [hfs.out, if_neg (by rw [Hmt.out]; exact Bool.false_ne_true), Int.add_zero], MD⟩
                      case measure => simp [intOf]; omega
                    | true =>
                      have Hmt := Lib.hid (show matchB s r = true by unfold matchB clampL; rw [hb0, hb1, hb2]; rfl)
                      have Hb0 := Lib.hid hb0
                      have Hb1 := Lib.hid hb1
                      have Hb2 := Lib.hid hb2
                      clear hb0 hb1 hb2
                      go_wp2_with fail
                      refine wp_region_noPanic ?_
                      refine RegH.start (S := fun w => w = wr.drew) (f := Tryd.f8) (k := 25) (n := 39) (a' := ⟨#[_, _, _, _, _, _, _, _, _, _, _, _, _, _, _, _, _, _, _, _, _, _, _, _, _, _, _, _, _, _, _, _, _, _, _, _, _, _, _, _, _, _, _, _, _, _, _, _, _, _, _, _, _, _, _, _, _, _, _, _, _, _, _, _, _, _, _, _, _, _, _, _, _, _, _, _, _, _, _, _, _, _, _, _, _, _, _, _, _, _, _, _, _, _, _, _, _, _, _, _, _, _, _, _, _, _, _, _, _, _, _, _, _, _, _, _, _, _, _, _, _, _, _, _, _, _, _, _, _, _, _, _, _, _, _, _, _, _, _, _, _, _, _, _, _, _, _, _, _, _, _, _, _, _, _, _, _, _, _, _, _, _, _, _, _, _, _, _, _, _, _, _, _, _, _, _, _, _, _, _, _, _, _, _, _, _, _, _, _, _, _, _, _, _, _, _, _, _, _, _, _, _, _, _], _⟩) (by kernel_rfl) (by kernel_rfl) (by kernel_rfl) rfl (by kernel_rfl) ?_
                      refine sreg25c (fun _ _ _ _ _ h => h) _ _ _ _ _ _ _ _ _ _ _ _ _ _ _ _ _ _ _ _ _ _ _ _ _ _ _ _ _ _ _ _ _ _ _ _ _ _ _ _ _ _ _ _ _ _ _ _ _ _ _ _ _ _ _ _ _ _ _ _ _ _ _ _ _ _ _ _ _ _ _ _ _ _ _ _ _ _ _ _ _ _ _ _ _ _ _ _ _ _ _ _ _ _ _ _ _ _ _ _ _ _ _ _ _ _ _ _ _ _ _ _ _ _ _ _ _ _ _ _ _ _ _ _ _ _ _ _ _ _ _ _ _ _ _ _ _ _ _ _ _ _ _ _ _ _ _ _ _ _ _ _ _ _ _ _ _ _ _ _ _ _ _ _ _ _ _ _ _ _ _ _ _ _ _ _ _ _ _ _ _ _ _ _ _ _ _ _ _ _ _ _ _ _ _ _ _ _ _ _ _ (i := k) (j := j) (n := rows.length) (cap := rc) (ln := ls.length) (c := c) (ar := ra) (al := al) (p := al.add (k * 5)) (q := ra.add (j * 5)) (r0 := r.f0) (r1 := r.f1) (r2 := r.f2) (s0 := s.f0) (s1 := s.f1) (s2 := s.f2) (b2 := true) hlt hjl rfl rfl (HR0.out 0 _ rfl) (HR0.out 1 _ rfl) (HR0.out 2 _ rfl) (HS0.out 0 _ rfl) (HS0.out 1 _ rfl) (HS0.out 2 _ rfl) Hb0.out Hb1.out Hb2.out ?_
                      refine NoPanic.normal ?_
                      go_wp2_with fail
                      go_roundw
                      case rel => exact ⟨j + 1, by omega, by go_num, by rw [hfs.out, if_pos Hmt.out], MD⟩
                      case measure => simp [intOf]; omega
              · have hjl2 : j = rows.length := by omega
                subst hjl2
                have hf1 : fnd rows s rows.length = 1 := by unfold fnd; rw [List.take_length, HONE.out HPL.out]; rfl
                rw [hf1]
                clear hf1 hjl hj
                go_wp2_with fail
                go_roundw
                case rel => exact ⟨k + 1, by omega, by go_num, rfl, rfl, MJ⟩
                case measure => simp [intOf]; omega
          · have hpd : (s.f4 != place) = true := bne_iff_ne.mpr hpl
            have HPL := Lib.hid hpl
            clear hpl
            go_wp2_with fail
            go_roundw
            case rel => exact ⟨k + 1, by omega, by go_num, by rw [hc1.out, if_neg HPL.out, Int.add_zero], by rw [hv1.out, if_neg HPL.out, Int.add_zero], M⟩
            case measure => simp [intOf]; omega
        · have hkl : k = ls.length := by omega
          subst hkl
          rw [Int.sub_self, Int.sub_self]
          have hsr := M.out.size
          clear hlt hk HM0
          have Mw := Lib.hid (bf.out.trans (M.out.mono hsf))
          have hTX := Text_any wr (HTe.out.below Mw.out (Nat.le_refl _)) [] none none none none 0 0 0 0 0 0 0 0 0 0 0 0 0 0 0 0 (nil_C2 _ _) (fun x hx => by cases hx) 0 0 0 place none A2 A3 none A5 none none 0 0 0 0 0 0 0 c2 c3 0 c5 0 0 (itemsK ls ls.length) (Kd.C_below HIe.out Mw.out) HL3.out (by rw [HIL.out]; omega) HWF.out
          rw [HIL.out] at hTX
          go_wp2_with (first
            | ((with_reducible refine gate_dst (N := 174) rfl ?_); (try (refine gate_guard (by rfl) ?_; dsimp only)); refine load_event (N := 174) rfl rfl rfl rfl [.int .i64 0, .slice none 0 0, .slice A2 0 c2, .slice A3 ls.length c3, .slice none 0 0, .slice A5 0 c5, .int .i64 0, .int .i64 0, .slice none 0 0, .slice none 0 0] _ (row_cells (blk_below HE.out Mw.out)) Tryd.underlying32 rfl (by kernel_rfl) ?_)
            | (go_at_call 18; refine hold ?_))
          refine Lib.hid ?_
          refine hTX.mono ?_
          rintro e wt ⟨d2', hp2, hw2, rfl, Bt⟩
          have hlen2 : (d2'.map toRow).length = rows.length := by rw [List.length_map, hp2.length_eq, HLd.out]
          have hfit := rows_fit (d := d2') (place := place) HWF.out (by rw [HIL.out]; exact hp2)
          have hsz2 := textK_size (c := []) (fun x hx => by cases hx) (d2'.map toRow) hfit (d2'.map toRow).length
          have hnl := nl_all (d2'.map toRow)
          rw [hlen2] at hnl hsz2
          rw [hlen2]
          have Bt2 := Lib.hid (Mw.out.trans (Bt.mono Mw.out.size))
          clear hp2 hw2 hfit Bt Mw M hTX
          generalize textK [] (d2'.map toRow) rows.length = tx at *
          have HNL := Lib.hid hnl
          clear hnl
          have htx : tx.size ≤ 120000 := by omega
          go_wp2_with fail
          go_loopw [17, 18] (fun x i wq => ∃ k : Nat, k ≤ tx.size ∧ i = .int .i64 k ∧ x = .int .i64 (nl tx k) ∧ Hid (Below we.heap.size we wq)) (fun _ i _ => tx.size - (intOf i).toNat)
          case atStart => exact ⟨0, Nat.zero_le _, rfl, rfl, Bt2⟩
          case round =>
            obtain ⟨k, hk, rfl, rfl, MK⟩ := hrel
            by_cases hlt : k < tx.size
            · have hnb := nl_bnd tx k
              have hns := Lib.hid (nl_succ tx k hlt)
              by_cases h10 : (tx[k].toNat : Int) = 10
              · have h10' : ((tx[k].toNat : Int) == 10) = true := beq_iff_eq.mpr h10
                have H10 := Lib.hid h10
                go_wp2_with fail
                go_roundw
                case rel => exact ⟨k + 1, by omega, by go_num, by rw [hns.out, if_pos H10.out], MK⟩
                case measure => simp [intOf]; omega
              · have h10' : ((tx[k].toNat : Int) == 10) = false := beq_eq_false_iff_ne.mpr h10
                have H10 := Lib.hid h10
                go_wp2_with fail
                go_roundw
                case rel => exact ⟨k + 1, by omega, by go_num, by rw [hns.out, if_neg H10.out, Int.add_zero], MK⟩
                case measure => simp [intOf]; omega
            · have hkl : k = tx.size := by omega
              subst hkl
              rw [HNL.out]
              have hsk := MK.out.size
              clear hlt hk
              go_wp2_with (go_at_call 9; refine hold ?_)
              refine Lib.hid ?_
              refine (awake_any wr (HTe.out.below MK.out (Nat.le_refl _))).mono ?_
              rintro e wk ⟨rfl, Bk⟩
              go_wp2_with fail
              go_ret
              exact ⟨rfl, HBe.out.trans ((MK.out.trans (Bk.mono hsk)).mono hsw)⟩
theorem sumWalk (A : Option Addr) (c : Nat) (ls : List S87) (place : Int) (w : World) (hC : Kd.C k87 w A ls.length ls) (hc : ls.length ≤ c) (hG : ∀ y ∈ ls, ((-9223372036854775808 ≤ y.f0 ∧ y.f0 ≤ 9223372036854775807) ∧ (-9223372036854775808 ≤ y.f1 ∧ y.f1 ≤ 9223372036854775807) ∧ (-9223372036854775808 ≤ y.f2 ∧ y.f2 ≤ 9223372036854775807) ∧ (0 ≤ y.f3 ∧ y.f3 ≤ 4294967295) ∧ (-9223372036854775808 ≤ y.f4 ∧ y.f4 ≤ 9223372036854775807))) (ht : Tab w) : Calls Tryd.prog 8 #[.slice A ls.length c, .int .i64 place] w fun e w' => e = .returned (.bool true) ∧ Below w.heap.size w w' := by
  by_cases h : ls.length ≤ 100
  · exact sumWalk2 A c ls place w hC hc hG ht h
  · exact sumWalk1 A c ls place w hC hc hG ht h
#print axioms sumWalk
end Go.Proofs.YtnhflmihjegaiaaDoor
