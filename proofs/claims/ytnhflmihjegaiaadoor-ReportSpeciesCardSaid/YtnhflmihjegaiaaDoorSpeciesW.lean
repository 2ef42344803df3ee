/- ReportSpecies: the walk. -/
import Derived.Test.YtnhflmihjegaiaaDoorAwkB
import Derived.Test.YtnhflmihjegaiaaDoorSpcA
import Derived.Test.YtnhflmihjegaiaaDoorSpcR
import Derived.Test.YtnhflmihjegaiaaDoorPx7
namespace Go.Proofs.YtnhflmihjegaiaaDoor
open Go.RowKit Go.Shelf Go.Proofs.YtnhflmihjegaiaaDoorW.PrintWords P
attribute [local go_sem high] eqA42
set_option linter.unusedSimpArgs false
set_option linter.unusedVariables false

theorem nil_C' {α : Type} (d : Kd α) (w : World) : Kd.C d w none 0 [] := ⟨rfl, Nat.zero_le _, fun h => absurd h (Nat.lt_irrefl _)⟩
theorem wide_go (l : List S47) (hl : l.length ≤ 100000) : ∀ (m i : Nat), i + m = l.length → sawmilllaw64_wide.l0 (m + 1) l (i : Int) = some ((l.drop i).any wideG)
  | 0, i, h => by
    unfold sawmilllaw64_wide.l0
    rw [if_neg (by omega), List.drop_of_length_le (by omega)]
    rfl
  | m + 1, i, h => by
    have hi : i < l.length := by omega
    have hr : rd_T47 l (i : Int) = l[i] := by
      unfold rd_T47
      rw [Int.toNat_natCast, List.getD_eq_getElem?_getD, List.getElem?_eq_getElem hi]
      rfl
    have hw : wrap64 ((i : Int) + 1) = ((i + 1 : Nat) : Int) := by unfold wrap64; omega
    have ih := wide_go l hl m (i + 1) (by omega)
    conv => lhs; unfold sawmilllaw64_wide.l0
    rw [if_pos (by omega), if_pos (by omega), hr, hw, ih, List.drop_eq_getElem_cons hi, List.any_cons]
    unfold wideG
    by_cases h0 : l[i].f2.f0 > 18014398509481984
    · rw [if_pos h0]; simp [h0]
    rw [if_neg h0]
    by_cases h1 : l[i].f2.f1 > 18014398509481984
    · rw [if_pos h1]; simp [h1]
    rw [if_neg h1]
    by_cases h2 : l[i].f2.f2 > 18014398509481984
    · rw [if_pos h2]; simp [h2]
    rw [if_neg h2]
    by_cases h3 : l[i].f2.f3 > 18014398509481984
    · rw [if_pos h3]; simp [h3]
    rw [if_neg h3]
    by_cases h4 : l[i].f2.f4 > 18014398509481984
    · rw [if_pos h4]; simp [h4]
    rw [if_neg h4]
    by_cases h5 : l[i].f2.f4 < -18014398509481984
    · rw [if_pos h5]; simp [h5]
    rw [if_neg h5]
    simp only [decide_eq_false h0, decide_eq_false h1, decide_eq_false h2, decide_eq_false h3, decide_eq_false h4, decide_eq_false h5, Bool.false_or]
theorem wide_any (w : World) (A : Option Addr) (c : Nat) (l : List S47) (hC : Kd.C k47 w A l.length l) (hc : l.length ≤ c) (hl : l.length ≤ 100000) : Calls Tryd.prog 13 #[.slice A l.length c] w fun e w' => e = .returned (.bool (wideB l)) ∧ Below w.heap.size w w' :=
  sawmilllaw64_wide.calls (l.length + 1) A c l (wideB l) w hC hc (wide_go l hl l.length 0 (by omega))

set_option maxRecDepth 100000 in
set_option maxHeartbeats 4000000 in
theorem spWalk1 (A : Option Addr) (c : Nat) (l : List S47) (w : World) (hC : Kd.C k47 w A l.length l) (hc : l.length ≤ c) (ht : Tab w) (h : ¬ l.length ≤ 40) : Calls Tryd.prog 3 #[.slice A l.length c] w fun e w' => e = .returned (.bool true) ∧ Below w.heap.size w w' := by
  have hA := awake_any w ht
  have h2 : (l.length : Int) > 40 := by omega
  go_enter Tryd.func3, Tryd.ntmps3
  go_wp2_with (go_at_call 9; refine hA.mono ?_; rintro e w1 ⟨rfl, B1⟩)
  go_ret
  exact ⟨rfl, B1⟩
/-- The memory behind the calls. -/
structure SW (wE wr : World) (b5 b7 : Nat) (y s : S42) : Prop where
  h5 : wr.heap[b5]? = some (.cells #[.int .i64 y.f0, .int .i64 y.f1, .int .i64 y.f2, .int .i64 y.f3, .int .i64 y.f4] 42 (0, 0))
  h7 : wr.heap[b7]? = some (.cells #[.int .i64 s.f0, .int .i64 s.f1, .int .i64 s.f2, .int .i64 s.f3, .int .i64 s.f4] 42 (0, 0))
  bl : Below wE.heap.size wE wr
theorem SW.below {wE wr w1 : World} {b5 b7 : Nat} {y s : S42} (h : SW wE wr b5 b7 y s) (b : Below wr.heap.size wr w1) : SW wE w1 b5 b7 y s := ⟨blk_below h.h5 b, blk_below h.h7 b, h.bl.trans (b.mono h.bl.size)⟩
set_option maxRecDepth 100000 in
set_option maxHeartbeats 4000000 in
theorem spWalk2 (A : Option Addr) (c : Nat) (l : List S47) (w : World) (hC : Kd.C k47 w A l.length l) (hc : l.length ≤ c) (ht : Tab w) (h : l.length ≤ 40) : Calls Tryd.prog 3 #[.slice A l.length c] w fun e w' => e = .returned (.bool true) ∧ Below w.heap.size w w' := by
  have hu32 := Tryd.underlying32
  have hu38 := Tryd.underlying38
  have hu42 := Tryd.underlying42
  have hu47 := Tryd.underlying47
  have HT := Lib.hid ht
  have HCl := Lib.hid hC
  have hM := mill_any w none A none 0 c 0 [] l [] (nil_C' _ _) hC (nil_C' _ _) (fun ad e _ => by cases e) (fun ad e hp => by subst e; exact Kd.C_lt hC hp (by decide)) (fun ad e _ => by cases e) (by decide) (by omega) (by decide)
  clear ht hC
  go_enter Tryd.func3, Tryd.ntmps3
  go_wp2_with (go_at_call 10; refine hold ?_)
  refine Lib.hid ?_
  refine hM.mono ?_
  rintro e w1 ⟨v2, v3, v5, u2, u3, u5, rfl, M⟩
  clear hM
  obtain ⟨A2, c2, e2, l2, C2⟩ := Kd.R_reads M.r2
  obtain ⟨A3, c3, e3, l3, C3⟩ := Kd.R_reads M.r3
  obtain ⟨A5, c5, e5, l5, C5⟩ := Kd.R_reads M.r5
  obtain ⟨D2, d2, f2, m2, G2⟩ := Kd.R_reads M.q2
  obtain ⟨D3, d3, f3, m3, G3⟩ := Kd.R_reads M.q3
  obtain ⟨D5, d5, f5, m5, G5⟩ := Kd.R_reads M.q5
  replace e2 : v2 = .slice A2 l.length c2 := by rw [e2, List.length_map]
  replace e3 : v3 = .slice A3 0 c3 := e3
  replace e5 : v5 = .slice A5 0 c5 := e5
  replace f2 : u2 = .slice D2 l.length d2 := by rw [f2, List.length_map]
  replace f3 : u3 = .slice D3 0 d3 := f3
  replace f5 : u5 = .slice D5 0 d5 := f5
  subst e2 e3 e5 f2 f3 f5
  have HC2 := Lib.hid C2
  have HB1 := Lib.hid M.bl
  have hs1 := HB1.out.size
  clear M C2 C3 C5 G2 G3 G5 l2 l3 l5 m2 m3 m5
  have h1 : Hid (((w1.alloc (.cells #[.int .i64 0, .slice none 0 0, .slice none 0 0, .slice none 0 0, .slice none 0 0, .slice none 0 0, .int .i64 0, .int .i64 0, .slice none 0 0, .slice none 0 0] 32)).alloc (.cells #[.int .i64 0, .slice none 0 0, .slice none 0 0, .slice none 0 0, .slice none 0 0, .slice none 0 0, .int .i64 0, .int .i64 0, .slice none 0 0, .slice none 0 0] 38)).heap[w1.heap.size]? = some (.cells #[.int .i64 0, .slice none 0 0, .slice none 0 0, .slice none 0 0, .slice none 0 0, .slice none 0 0, .int .i64 0, .int .i64 0, .slice none 0 0, .slice none 0 0] 32 (0, 0))) := Lib.hid (blk_alloc (blk_new _ _) _)
  have h2 : Hid (((w1.alloc (.cells #[.int .i64 0, .slice none 0 0, .slice none 0 0, .slice none 0 0, .slice none 0 0, .slice none 0 0, .int .i64 0, .int .i64 0, .slice none 0 0, .slice none 0 0] 32)).alloc (.cells #[.int .i64 0, .slice none 0 0, .slice none 0 0, .slice none 0 0, .slice none 0 0, .slice none 0 0, .int .i64 0, .int .i64 0, .slice none 0 0, .slice none 0 0] 38)).heap[w1.heap.size + 1]? = some (.cells #[.int .i64 0, .slice none 0 0, .slice none 0 0, .slice none 0 0, .slice none 0 0, .slice none 0 0, .int .i64 0, .int .i64 0, .slice none 0 0, .slice none 0 0] 38 (0, 0))) := Lib.hid (by rw [show w1.heap.size + 1 = (w1.alloc (.cells #[.int .i64 0, .slice none 0 0, .slice none 0 0, .slice none 0 0, .slice none 0 0, .slice none 0 0, .int .i64 0, .int .i64 0, .slice none 0 0, .slice none 0 0] 32)).heap.size by simp [go_sem]]; exact blk_new _ _)
  have b12 := Lib.hid (((Below.refl w1.heap.size w1).alloc (Nat.le_refl _) (.cells #[.int .i64 0, .slice none 0 0, .slice none 0 0, .slice none 0 0, .slice none 0 0, .slice none 0 0, .int .i64 0, .int .i64 0, .slice none 0 0, .slice none 0 0] 32)).alloc (by simp [go_sem]) (.cells #[.int .i64 0, .slice none 0 0, .slice none 0 0, .slice none 0 0, .slice none 0 0, .slice none 0 0, .int .i64 0, .int .i64 0, .slice none 0 0, .slice none 0 0] 38))
  go_wp2_with (first
    | (refine row_event (t := 32) (s := 3) (u := 22) rfl rfl rfl rfl rfl h1.out (by kernel_rfl) rfl (all10 rfl rfl rfl) ?_; intro wd hd ned bd zd; have HD := Lib.hid hd; have h2d := Lib.hid ((ned _ (by omega)).trans h2.out); have b1d := Lib.hid (bd _ _ b12.out (Nat.le_refl _)); clear hd ned bd zd h1 h2 b12)
    | (refine row_event (t := 38) (s := 4) (u := 23) rfl rfl rfl rfl rfl h2d.out (by kernel_rfl) rfl (all10 rfl rfl rfl) ?_; intro we he nee be ze; have HE := Lib.hid ((nee _ (by omega)).trans HD.out); have b1e := Lib.hid (be _ _ b1d.out (by omega)); clear he nee be ze h2d b1d HD)
    | ((with_reducible refine gate_dst (N := 25) rfl ?_); (try (refine gate_guard (by rfl) ?_; dsimp only)); refine load_event (N := 25) rfl rfl rfl rfl [.int .i64 0, .slice none 0 0, .slice A2 l.length c2, .slice A3 0 c3, .slice none 0 0, .slice A5 0 c5, .int .i64 0, .int .i64 0, .slice none 0 0, .slice none 0 0] _ (row_cells HE.out) Tryd.underlying32 rfl (by kernel_rfl) ?_)
    | (go_at_call 11; refine hold ?_))
  refine Lib.hid ?_
  have hse := b1e.out.size
  have HBe := Lib.hid (HB1.out.trans (b1e.out.mono hs1))
  have hsw := HBe.out.size
  have HTe := Lib.hid (HT.out.below HBe.out (Nat.le_refl _))
  have HCe := Lib.hid (Kd.C_below HCl.out HBe.out)
  have HGe := Lib.hid (Kd.C_below HC2.out b1e.out)
  have hRF := fun (sp : ByteArray) (W : World) (h : Kd.C k111 W A2 (l.map logOf).length (l.map logOf)) => Recovery_any W 0 0 0 sp none A2 A3 none A5 none none 0 0 0 0 0 0 0 c2 c3 0 c5 0 0 (l.map logOf) h (by rw [List.length_map]; omega)
  simp only [List.length_map, recF_map] at hRF
  have HRF := Lib.hid hRF
  clear hRF HCl HC2 HB1 b1e HT
  refine (HRF.out ⟨#[]⟩ we (by have := HGe.out; rwa [List.length_map] at this)).mono ?_
  rintro e wf ⟨rfl, Bf⟩
  have bf := Lib.hid Bf
  have hsf := bf.out.size
  clear Bf
  obtain ⟨ra, hra⟩ : ∃ r, recS l ⟨#[]⟩ = r := ⟨_, rfl⟩
  rw [hra]
  obtain ⟨y, er⟩ := ra
  have HRA := Lib.hid hra
  clear hra
  by_cases he : er = 0
  · have he2 : (er != 0) = false := by simp [he]
    subst he
    go_wp2_with (first
      | ((with_reducible refine gate_dst (N := 5) rfl ?_); refine copy_event rfl rfl rfl rfl rfl rfl info42 [.int .i64 y.f0, .int .i64 y.f1, .int .i64 y.f2, .int .i64 y.f3, .int .i64 y.f4] rfl rfl rfl (by simp [Value.oneCell']) ?_; intro xb4 wh hxb4 hbk4 Bh hzh; subst hxb4; have H4 := Lib.hid hbk4; have bh := Lib.hid (bf.out.trans (Bh.mono hsf)); have hsh := bh.out.size; have h7 : Hid ((wh.alloc (.cells #[.int .i64 0, .int .i64 0, .int .i64 0, .int .i64 0, .int .i64 0] 42)).heap[wh.heap.size]? = some (.cells #[.int .i64 0, .int .i64 0, .int .i64 0, .int .i64 0, .int .i64 0] 42 (0, 0))) := Lib.hid (blk_new _ _); have HSW : Hid (SW we (wh.alloc (.cells #[.int .i64 0, .int .i64 0, .int .i64 0, .int .i64 0, .int .i64 0] 42)) wf.heap.size wh.heap.size y zeroY) := Lib.hid ⟨blk_alloc H4.out _, h7.out, bh.out.alloc hsh _⟩; have hzz : wf.heap.size < wh.heap.size := (by omega); clear hbk4 Bh hzh))
    have hsh2 : we.heap.size ≤ wh.heap.size := hsh
    generalize wh.alloc (.cells #[.int .i64 0, .int .i64 0, .int .i64 0, .int .i64 0, .int .i64 0] 42) = wl at *
    rw [← partK_zero l] at HSW
    clear H4 h7
    have HNB : Hid (wf.heap.size ≠ wh.heap.size ∧ we.heap.size ≤ wh.heap.size) := Lib.hid ⟨by omega, hsh2⟩
    clear hzz
    generalize wf.heap.size = b5 at *
    generalize wh.heap.size = b7 at *
    go_loopw [8] (fun i wr => ∃ k : Nat, k ≤ l.length ∧ i = .int .i64 k ∧ Hid (SW we wr b5 b7 y (partK l k))) (fun i _ => l.length - (intOf i).toNat)
    case atStart => exact ⟨0, Nat.zero_le _, rfl, HSW⟩
    case round =>
      obtain ⟨k, hk, rfl, M⟩ := hrel
      by_cases hlt : k < l.length
      · obtain ⟨ad, cs, e0, hK, hcs⟩ := at_row (Kd.C_below HCe.out M.out.bl) z47 k hlt
        subst e0
        obtain rfl := k47_open hK
        clear hK
        have x0 : wr.cell? (ad.add (k * 7)) = some (.string l[k].f0) := hcs 0 _ rfl
        clear hcs
        have hwide := fun he => round_wide HRA.out h hlt he
        have hok := fun h1 h2 h3 h4 => round_ok HRA.out hlt h1 h2 h3 h4
        have HWD := Lib.hid hwide
        have HOK := Lib.hid hok
        have HSAME := Lib.hid (partK_same l k hlt)
        clear hwide hok
        have HG : Hid (∀ j (hj : j < l.length), ∃ g, l[j] = g) := Lib.hid (fun j hj => ⟨_, rfl⟩)
        obtain ⟨g, hg⟩ : ∃ g, l[k] = g := ⟨_, rfl⟩
        rw [hg] at x0 HWD HOK HSAME
        have Hgk := Lib.hid hg
        clear hg
        obtain ⟨s, hs⟩ : ∃ s, partK l k = s := ⟨_, rfl⟩
        rw [hs] at M HOK HWD HSAME
        clear hs
        obtain ⟨ne, hne⟩ : ∃ b, (!g.f0.toList.isEmpty) = b := ⟨_, rfl⟩
        go_wp2_with fail
        have Hne := Lib.hid hne
        clear hne
        go_loopw [9, 10] (fun b i wq => ∃ j : Nat, j ≤ k ∧ i = .int .i64 j ∧ b = .bool (ne && !seenB l j g) ∧ Hid (Below wr.heap.size wr wq)) (fun _ i _ => k - (intOf i).toNat)
        case atStart => exact ⟨0, Nat.zero_le _, rfl, congrArg Value.bool (by simp [seenB]), Lib.hid (Below.refl _ _)⟩
        case round =>
          obtain ⟨j, hj, rfl, rfl, B⟩ := hrel
          have x0q := (B.out.cell (World.block_lt_of_cell? _ _ x0)).trans x0
          by_cases hjk : j < k
          · obtain ⟨ad2, cs2, e1, hK, hcs⟩ := at_row (Kd.C_below HCe.out (M.out.below B.out).bl) z47 j (by omega)
            injection e1 with e1
            subst e1
            obtain rfl := k47_open hK
            clear hK
            have x1 : wr.cell? (ad.add (j * 7)) = some (.string l[j].f0) := hcs 0 _ rfl
            clear hcs
            have hss := Lib.hid (seenB_succ l j (by omega) g)
            generalize l[j] = gj at *
            generalize hb : (ne && !seenB l j g) = b at *
            have Hb := Lib.hid hb
            clear hb
            cases b with
            | false =>
              go_wp2_with fail
              refine wp_region_noPanic ?_
              refine RegH.start (S := fun w => w = wr.drew) (f := Tryd.f3) (k := 15) (n := 15) (a' := ⟨#[_, _, _, _, _, _, _, _, _, _, _, _, _, _, _, _, _, _, _, _, _, _, _, _, _, _, _, _, _, _, _, _, _, _, _, _, _, _, _, _, _, _, _, _, _, _, _, _, _, _, _, _, _, _, _, _, _, _, _, _, _, _, _, _, _, _, _, _, _, _, _, _, _, _, _, _, _, _, _, _, _, _, _, _, _, _, _, _, _, _, _, _, _, _, _, _, _, _, _, _, _, _, _, _, _, _, _, _, _, _, _, _, _, _, _, _], _⟩) (by kernel_rfl) (by kernel_rfl) (by kernel_rfl) rfl (by kernel_rfl) ?_
              refine reg15f (fun _ _ _ _ _ h => h) _ _ _ _ _ _ _ _ _ _ _ _ _ _ _ _ _ _ _ _ _ _ _ _ _ _ _ _ _ _ _ _ _ _ _ _ _ _ _ _ _ _ _ _ _ _ _ _ _ _ _ _ _ _ _ _ _ _ _ _ _ _ _ _ _ _ _ _ _ _ _ _ _ _ _ _ _ _ _ _ _ _ _ _ _ _ _ _ _ _ _ _ _ _ _ _ _ _ _ _ _ _ _ _ _ _ _ _ _ _ _ _ _ (k := k) (j := j) (len := l.length) (c := c) (ad := ad) (p := ad.add (j * 7)) (q := ad.add (k * 7)) (x := gj.f0) (y := g.f0) (by omega) hlt rfl rfl x1 x0q ?_
              refine NoPanic.normal ?_
              go_wp2_with fail
              go_roundw
              case rel => exact ⟨j + 1, by omega, by go_num, congrArg Value.bool (by rw [hss.out]; have := Hb.out; cases ne <;> cases h1 : seenB l j g <;> simp_all), Lib.hid (B.out.trans (((Below.refl _ _).drew).mono B.out.size))⟩
              case measure => simp [intOf]; omega
            | true =>
              go_wp2_with fail
              refine wp_region_noPanic ?_
              refine RegH.start (S := fun w => w = wr.drew) (f := Tryd.f3) (k := 15) (n := 15) (a' := ⟨#[_, _, _, _, _, _, _, _, _, _, _, _, _, _, _, _, _, _, _, _, _, _, _, _, _, _, _, _, _, _, _, _, _, _, _, _, _, _, _, _, _, _, _, _, _, _, _, _, _, _, _, _, _, _, _, _, _, _, _, _, _, _, _, _, _, _, _, _, _, _, _, _, _, _, _, _, _, _, _, _, _, _, _, _, _, _, _, _, _, _, _, _, _, _, _, _, _, _, _, _, _, _, _, _, _, _, _, _, _, _, _, _, _, _, _, _], _⟩) (by kernel_rfl) (by kernel_rfl) (by kernel_rfl) rfl (by kernel_rfl) ?_
              refine reg15t (fun _ _ _ _ _ h => h) _ _ _ _ _ _ _ _ _ _ _ _ _ _ _ _ _ _ _ _ _ _ _ _ _ _ _ _ _ _ _ _ _ _ _ _ _ _ _ _ _ _ _ _ _ _ _ _ _ _ _ _ _ _ _ _ _ _ _ _ _ _ _ _ _ _ _ _ _ _ _ _ _ _ _ _ _ _ _ _ _ _ _ _ _ _ _ _ _ _ _ _ _ _ _ _ _ _ _ _ _ _ _ _ _ _ _ _ _ _ _ _ _ (k := k) (j := j) (len := l.length) (c := c) (ad := ad) (p := ad.add (j * 7)) (q := ad.add (k * 7)) (x := gj.f0) (y := g.f0) (by omega) hlt rfl rfl x1 x0q ?_
              refine NoPanic.normal ?_
              go_wp2_with fail
              go_roundw
              case rel => exact ⟨j + 1, by omega, by go_num, congrArg Value.bool (by rw [hss.out]; show (!(gj.f0.toList == g.f0.toList)) = (ne && !(seenB l j g || (gj.f0.toList == g.f0.toList))); have := Hb.out; cases (gj.f0.toList == g.f0.toList) <;> cases ne <;> cases h1 : seenB l j g <;> simp_all), Lib.hid (B.out.trans (((Below.refl _ _).drew).mono B.out.size))⟩
              case measure => simp [intOf]; omega
          · have hkj : k = j := by omega
            subst hkj
            have M2 := Lib.hid (M.out.below B.out)
            have hs2 := M2.out.bl.size
            clear M B x0 HG
            generalize hb : (ne && !seenB l k g) = b at *
            have Hb := Lib.hid hb
            clear hb
            by_cases hE : g.f0.toList = []
            · go_wp2_with (go_at_call 9; refine hold ?_)
              refine Lib.hid ?_
              refine (awake_any wr (HTe.out.below M2.out.bl (Nat.le_refl _))).mono ?_
              rintro e wk ⟨rfl, Bk⟩
              go_wp2_with fail
              go_ret
              exact ⟨rfl, HBe.out.trans ((M2.out.bl.trans (Bk.mono hs2)).mono hsw)⟩
            · have hE' : g.f0.toList.isEmpty = false := by cases h : g.f0.toList with | nil => exact absurd h hE | cons a b => rfl
              cases b with
              | false =>
                have Hsn : Hid (seenB l k g = true) := Lib.hid (by
                  have h1 := Hb.out
                  rw [← Hne.out, hE'] at h1
                  simpa using h1)
                go_wp2_with fail
                go_roundw
                case rel => exact ⟨k + 1, by omega, by go_num, by rw [HSAME.out Hsn.out]; exact M2⟩
                case measure => simp [intOf]; omega
              | true =>
                have Hsn : Hid (seenB l k g = false) := Lib.hid (by
                  have h1 := Hb.out
                  rw [← Hne.out, hE'] at h1
                  simpa using h1)
                have M2d := M2.out.below ((Below.refl wr.heap.size wr).drew)
                have hrr := fun (W : World) (b : Below wr.drew.heap.size wr.drew W) => HRF.out g.f0 W (by have := Kd.C_below HGe.out (M2d.below b).bl; rwa [List.length_map] at this)
                obtain ⟨ry, hry⟩ : ∃ r, recS l g.f0 = r := ⟨_, rfl⟩
                simp only [hry] at hrr
                rw [hry] at HOK HWD
                clear hry
                obtain ⟨y2, f2⟩ := ry
                have hadd := fun W => Add_any s y2 W
                obtain ⟨rn, hrn⟩ : ∃ r, addY s y2 = r := ⟨_, rfl⟩
                simp only [hrn] at hadd
                have HWD2 := Lib.hid (show f2 ≠ 0 ∨ rn.2 ≠ 0 → wideB l = true from fun h => HWD.out (by rw [← hrn] at h; exact h))
                have HOK2 := Lib.hid (show seenB l k g = false → g.f0.toList ≠ [] → f2 = 0 → rn.2 = 0 → rn.1 = partK l (k + 1) from fun h1 h2 h3 h4 => by rw [← hrn] at h4 ⊢; exact HOK.out h1 h2 h3 h4)
                clear hrn HWD HOK
                obtain ⟨n, g2⟩ := rn
                have HAD := Lib.hid hadd
                have HRR := Lib.hid hrr
                have HM2 := Lib.hid M2d
                clear hadd hrr M2d
                go_wp2_with fail
                refine wp_region_noPanic ?_
                refine RegH.start (S := Below wr.drew.heap.size wr.drew) (f := Tryd.f3) (k := 19) (n := 13) (a' := ⟨#[_, _, _, _, _, _, _, _, _, _, _, _, _, _, _, _, _, _, _, _, _, _, _, _, _, _, _, _, _, _, _, _, _, _, _, _, _, _, _, _, _, _, _, _, _, _, _, _, _, _, _, _, _, _, _, _, _, _, _, _, _, _, _, _, _, _, _, _, _, _, _, _, _, _, _, _, _, _, _, _, _, _, _, _, _, _, _, _, _, _, _, _, _, _, _, _, _, _, _, _, _, _, _, _, _, _, _, _, _, _, _, _, _, _, _, _], _⟩) (by kernel_rfl) (by kernel_rfl) (by kernel_rfl) rfl (by kernel_rfl) ?_
                refine reg19 (fun _ _ _ _ _ h => h) _ _ _ _ _ _ _ _ _ _ _ _ _ _ _ _ _ _ _ _ _ _ _ _ _ _ _ _ _ _ _ _ _ _ _ _ _ _ _ _ _ _ _ _ _ _ _ _ _ _ _ _ _ _ _ _ _ _ _ _ _ _ _ _ _ _ _ _ _ _ _ _ _ _ _ _ _ _ _ _ _ _ _ _ _ _ _ _ _ _ _ _ _ _ _ _ _ _ _ _ _ _ _ _ _ _ _ _ _ _ _ _ _ _ (b3 := w1.heap.size) (k := k) (len := l.length) (c := c) (ad := ad) (p := ad.add (k * 7)) (x := g.f0) (cs := [.int .i64 0, .slice none 0 0, .slice A2 l.length c2, .slice A3 0 c3, .slice none 0 0, .slice A5 0 c5, .int .i64 0, .int .i64 0, .slice none 0 0, .slice none 0 0]) y2 f2 hlt rfl x0q (blk_below HE.out HM2.out.bl) rfl HRR.out ?_
                intro nb wj Bj hbk6 hnb
                refine NoPanic.normal ?_
                have H6 := Lib.hid hbk6
                have M4 := Lib.hid (HM2.out.below Bj)
                have hs4 := M4.out.bl.size
                clear hbk6 Bj M2 HM2 HRR x0q hnb
                go_wp2_with (first
                  | ((with_reducible refine gate_dst (N := 88) rfl ?_); (try (refine gate_guard (by rfl) ?_; dsimp only)); refine load_event (N := 88) rfl rfl rfl rfl [.int .i64 s.f0, .int .i64 s.f1, .int .i64 s.f2, .int .i64 s.f3, .int .i64 s.f4] _ (row_cells M4.out.h7) Tryd.underlying42 rfl (by kernel_rfl) ?_)
                  | ((with_reducible refine gate_dst (N := 89) rfl ?_); (try (refine gate_guard (by rfl) ?_; dsimp only)); refine load_event (N := 89) rfl rfl rfl rfl [.int .i64 y2.f0, .int .i64 y2.f1, .int .i64 y2.f2, .int .i64 y2.f3, .int .i64 y2.f4] _ (row_cells H6.out) Tryd.underlying42 rfl (by kernel_rfl) ?_)
                  | (go_at_call 12; refine hold ?_))
                refine Lib.hid ?_
                refine (HAD.out _).mono ?_
                rintro e wm ⟨rfl, Bm⟩
                have M5 := Lib.hid (M4.out.below Bm)
                have hs5 := M5.out.bl.size
                clear Bm M4 H6 HAD
                have COPY13 : Hid True := Lib.hid trivial
                by_cases hf2 : f2 = 0
                · by_cases hg2 : g2 = 0
                  · have HN := Lib.hid (HOK2.out Hsn.out hE hf2 hg2)
                    have hf3 : (f2 != 0) = false := by simp [hf2]
                    have hg3 : (g2 != 0) = false := by simp [hg2]
                    go_wp2_with (first
                      | ((with_reducible refine gate_dst (N := 13) rfl ?_); refine copy_event rfl rfl rfl rfl rfl rfl info42 [.int .i64 n.f0, .int .i64 n.f1, .int .i64 n.f2, .int .i64 n.f3, .int .i64 n.f4] rfl rfl rfl (by simp [Value.oneCell']) ?_; intro xb7 wn hxb7 hbk7 Bn hzn; subst hxb7; have H7 := Lib.hid hbk7; have M6 := Lib.hid (M5.out.below Bn); have hs6 := M6.out.bl.size; clear hbk7 Bn hzn M5)
                      | ((with_reducible refine gate_dst (N := 109) rfl ?_); (try (refine gate_guard (by rfl) ?_; dsimp only)); refine load_event (N := 109) rfl rfl rfl rfl [.int .i64 n.f0, .int .i64 n.f1, .int .i64 n.f2, .int .i64 n.f3, .int .i64 n.f4] _ (row_cells H7.out) Tryd.underlying42 rfl (by kernel_rfl) ?_)
                      | (refine row_event (t := 42) (s := 7) (u := 109) rfl rfl rfl rfl rfl M6.out.h7 (by kernel_rfl) rfl (by simp [Value.oneCell']) ?_; intro wp hp7 np bp zp; have M7 : Hid (SW we wp b5 b7 y n) := Lib.hid ⟨(np _ HNB.out.1).trans M6.out.h5, hp7, bp _ _ M6.out.bl HNB.out.2⟩; clear hp7 np bp zp M6 H7))
                    go_roundw
                    case rel => exact ⟨k + 1, by omega, by go_num, by rw [← HN.out]; exact M7⟩
                    case measure => simp [intOf]; omega
                  · have HWIDE := Lib.hid (HWD2.out (Or.inr hg2))
                    have hf3 : (f2 != 0) = false := by simp [hf2]
                    have hg3 : (g2 != 0) = true := by simp [hg2]
                    have hlen : (l.length : Int) > 0 := by omega
                    go_wp2_with (first
                      | ((with_reducible refine gate_dst (N := 13) rfl ?_); refine copy_event rfl rfl rfl rfl rfl rfl info42 [.int .i64 n.f0, .int .i64 n.f1, .int .i64 n.f2, .int .i64 n.f3, .int .i64 n.f4] rfl rfl rfl (by simp [Value.oneCell']) ?_; intro xb7 wn hxb7 hbk7 Bn hzn; subst hxb7; have M6 := Lib.hid (M5.out.below Bn); have hs6 := M6.out.bl.size; clear hbk7 Bn hzn M5)
                      | (go_at_call 13; refine hold ?_))
                    refine Lib.hid ?_
                    refine (wide_any wn _ c l (Kd.C_below HCe.out M6.out.bl) hc (by omega)).mono ?_
                    rintro e wo ⟨rfl, Bo⟩
                    rw [HWIDE.out]
                    have bo := Lib.hid (M6.out.bl.trans (Bo.mono M6.out.bl.size))
                    have hso := bo.out.size
                    clear Bo
                    go_wp2_with (go_at_call 9; refine hold ?_)
                    refine Lib.hid ?_
                    refine (awake_any wo (HTe.out.below bo.out (Nat.le_refl _))).mono ?_
                    rintro e wk ⟨rfl, Bk⟩
                    go_wp2_with fail
                    go_ret
                    exact ⟨rfl, HBe.out.trans ((bo.out.trans (Bk.mono hso)).mono hsw)⟩
                · have HWIDE := Lib.hid (HWD2.out (Or.inl hf2))
                  have hf3 : (f2 != 0) = true := by simp [hf2]
                  have hlen : (l.length : Int) > 0 := by omega
                  go_wp2_with (first
                    | ((with_reducible refine gate_dst (N := 13) rfl ?_); refine copy_event rfl rfl rfl rfl rfl rfl info42 [.int .i64 n.f0, .int .i64 n.f1, .int .i64 n.f2, .int .i64 n.f3, .int .i64 n.f4] rfl rfl rfl (by simp [Value.oneCell']) ?_; intro xb7 wn hxb7 hbk7 Bn hzn; subst hxb7; have M6 := Lib.hid (M5.out.below Bn); have hs6 := M6.out.bl.size; clear hbk7 Bn hzn M5)
                    | (go_at_call 13; refine hold ?_))
                  refine Lib.hid ?_
                  refine (wide_any wn _ c l (Kd.C_below HCe.out M6.out.bl) hc (by omega)).mono ?_
                  rintro e wo ⟨rfl, Bo⟩
                  rw [HWIDE.out]
                  have bo := Lib.hid (M6.out.bl.trans (Bo.mono M6.out.bl.size))
                  have hso := bo.out.size
                  clear Bo
                  go_wp2_with (go_at_call 9; refine hold ?_)
                  refine Lib.hid ?_
                  refine (awake_any wo (HTe.out.below bo.out (Nat.le_refl _))).mono ?_
                  rintro e wk ⟨rfl, Bk⟩
                  go_wp2_with fail
                  go_ret
                  exact ⟨rfl, HBe.out.trans ((bo.out.trans (Bk.mono hso)).mono hsw)⟩
      · have hkl : k = l.length := by omega
        subst hkl
        rw [partK_all HRA.out] at M
        have hs2 := M.out.bl.size
        clear hlt hk
        go_wp2_with (first
          | ((with_reducible refine gate_dst (N := 110) rfl ?_); (try (refine gate_guard (by rfl) ?_; dsimp only)); refine load_event (N := 110) rfl rfl rfl rfl [.int .i64 y.f0, .int .i64 y.f1, .int .i64 y.f2, .int .i64 y.f3, .int .i64 y.f4] _ (row_cells M.out.h7) Tryd.underlying42 rfl (by kernel_rfl) ?_)
          | ((with_reducible refine gate_dst (N := 111) rfl ?_); (try (refine gate_guard (by rfl) ?_; dsimp only)); refine load_event (N := 111) rfl rfl rfl rfl [.int .i64 y.f0, .int .i64 y.f1, .int .i64 y.f2, .int .i64 y.f3, .int .i64 y.f4] _ (row_cells M.out.h5) Tryd.underlying42 rfl (by kernel_rfl) ?_)
          | (go_at_call 9; refine hold ?_))
        refine Lib.hid ?_
        refine (awake_any wr (HTe.out.below M.out.bl (Nat.le_refl _))).mono ?_
        rintro e wk ⟨rfl, Bk⟩
        go_wp2_with fail
        go_ret
        exact ⟨rfl, HBe.out.trans ((M.out.bl.trans (Bk.mono hs2)).mono hsw)⟩
  · have he2 : (er != 0) = true := by simp [he]
    have hz := recGoS_err ⟨#[]⟩ l zeroY (by show (recS l ⟨#[]⟩).2 ≠ 0; rw [HRA.out]; exact he)
    have hz2 : y = zeroY := by
      have := HRA.out
      unfold recS at this
      rw [this] at hz
      exact hz
    subst hz2
    go_wp2_with (first
      | ((with_reducible refine gate_dst (N := 5) rfl ?_); refine copy_event rfl rfl rfl rfl rfl rfl info42 [.int .i64 0, .int .i64 0, .int .i64 0, .int .i64 0, .int .i64 0] rfl rfl rfl (by simp [Value.oneCell']) ?_; intro xb4 wh hxb4 hbk4 Bh hzh; subst hxb4; have H4 := Lib.hid hbk4; have bh := Lib.hid (bf.out.trans (Bh.mono hsf)); have hsh := bh.out.size; clear hbk4 Bh)
      | ((with_reducible refine gate_dst (N := 31) rfl ?_); (try (refine gate_guard (by rfl) ?_; dsimp only)); refine load_event (N := 31) rfl rfl rfl rfl [.int .i64 0, .int .i64 0, .int .i64 0, .int .i64 0, .int .i64 0] _ (row_cells H4.out) Tryd.underlying42 rfl (by kernel_rfl) ?_)
      | (go_at_call 9; refine hold ?_))
    refine Lib.hid ?_
    refine (awake_any wh (HTe.out.below bh.out (Nat.le_refl _))).mono ?_
    rintro e wk ⟨rfl, Bk⟩
    go_wp2_with fail
    go_ret
    exact ⟨rfl, HBe.out.trans ((bh.out.trans (Bk.mono hsh)).mono hsw)⟩
theorem spWalk (A : Option Addr) (c : Nat) (l : List S47) (w : World) (hC : Kd.C k47 w A l.length l) (hc : l.length ≤ c) (ht : Tab w) : Calls Tryd.prog 3 #[.slice A l.length c] w fun e w' => e = .returned (.bool true) ∧ Below w.heap.size w w' := by
  by_cases h : l.length ≤ 40
  · exact spWalk2 A c l w hC hc ht h
  · exact spWalk1 A c l w hC hc ht h
#print axioms spWalk
end Go.Proofs.YtnhflmihjegaiaaDoor
