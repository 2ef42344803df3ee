/- awake, whatever the memory: the walk. -/
import Derived.Test.YtnhflmihjegaiaaDoorAwkA
import Derived.Test.YtnhflmihjegaiaaDoorPx1
import Derived.Test.YtnhflmihjegaiaaDoorMillE
import Derived.Test.YtnhflmihjegaiaaDoorPx2
namespace Go.Proofs.YtnhflmihjegaiaaDoor
open Go.RowKit Go.Shelf Go.Proofs.YtnhflmihjegaiaaDoorW.PrintWords P
attribute [local go_sem high] eqA42 eqA84
set_option linter.unusedSimpArgs false
set_option linter.unusedVariables false

theorem cells_below {W W' : World} {p : Addr} {cs : List Value} (h : ∀ j v, cs[j]? = some v → W.cell? (p.add j) = some v) (b : Below W.heap.size W W') : ∀ j v, cs[j]? = some v → W'.cell? (p.add j) = some v :=
  fun j v hv => (b.cell (World.block_lt_of_cell? _ _ (h j v hv))).trans (h j v hv)
set_option maxRecDepth 100000 in
set_option maxHeartbeats 4000000 in
theorem awake_any (w : World) (ht : Tab w) : Calls Tryd.prog 9 #[] w fun e w' => e = .returned (.bool true) ∧ Below w.heap.size w w' := by
  have hu32 := Tryd.underlying32
  have hu38 := Tryd.underlying38
  have hu42 := Tryd.underlying42
  have hu47 := Tryd.underlying47
  have hu55 := Tryd.underlying55
  have hu87 := Tryd.underlying87
  have HT := Lib.hid ht
  clear ht
  go_enter Tryd.func9, Tryd.ntmps9
  go_wp2_with (go_at_call 10; refine hold ?_)
  refine Lib.hid ?_
  have B1 := (Below.refl w.heap.size w).alloc (Nat.le_refl _) (.cells #[.int .i64 0, .int .i64 2000, .int .i64 2, .int .u32 5, .int .i64 1, .int .i64 0, .int .i64 2000, .int .i64 1, .int .u32 3, .int .i64 1, .int .i64 0, .int .i64 2000, .int .i64 2, .int .u32 7, .int .i64 1, .int .i64 0, .int .i64 0, .int .i64 0, .int .u32 0, .int .i64 2] 87)
  have C1 := aw_C87 w
  have z1 : (w.alloc (.cells #[.int .i64 0, .int .i64 2000, .int .i64 2, .int .u32 5, .int .i64 1, .int .i64 0, .int .i64 2000, .int .i64 1, .int .u32 3, .int .i64 1, .int .i64 0, .int .i64 2000, .int .i64 2, .int .u32 7, .int .i64 1, .int .i64 0, .int .i64 0, .int .i64 0, .int .u32 0, .int .i64 2] 87)).heap.size = w.heap.size + 1 := by simp [go_sem]
  generalize w.alloc (.cells #[.int .i64 0, .int .i64 2000, .int .i64 2, .int .u32 5, .int .i64 1, .int .i64 0, .int .i64 2000, .int .i64 1, .int .u32 3, .int .i64 1, .int .i64 0, .int .i64 2000, .int .i64 2, .int .u32 7, .int .i64 1, .int .i64 0, .int .i64 0, .int .i64 0, .int .u32 0, .int .i64 2] 87) = wa at *
  have B2 := (Below.refl wa.heap.size wa).alloc (Nat.le_refl _) (.cells #[.string ⟨#[112, 105, 110, 101]⟩, .bool true, .int .i64 9, .int .i64 5, .int .i64 3, .int .i64 1, .int .i64 7] 47)
  have C2 := aw_C47 wa
  have z2 : (wa.alloc (.cells #[.string ⟨#[112, 105, 110, 101]⟩, .bool true, .int .i64 9, .int .i64 5, .int .i64 3, .int .i64 1, .int .i64 7] 47)).heap.size = w.heap.size + 1 + 1 := by simp [go_sem, z1]
  generalize wa.alloc (.cells #[.string ⟨#[112, 105, 110, 101]⟩, .bool true, .int .i64 9, .int .i64 5, .int .i64 3, .int .i64 1, .int .i64 7] 47) = wb at *
  have B3 := (Below.refl wb.heap.size wb).alloc (Nat.le_refl _) (.cells #[.int .i64 50, .bool false, .int .i64 20, .bool true, .int .i64 10, .bool false, .int .i64 50, .bool false] 55)
  have C3 := aw_C55 wb
  have z3 : (wb.alloc (.cells #[.int .i64 50, .bool false, .int .i64 20, .bool true, .int .i64 10, .bool false, .int .i64 50, .bool false] 55)).heap.size = w.heap.size + 1 + 1 + 1 := by simp [go_sem, z2]
  generalize wb.alloc (.cells #[.int .i64 50, .bool false, .int .i64 20, .bool true, .int .i64 10, .bool false, .int .i64 50, .bool false] 55) = wc at *
  rw [z1] at C2
  rw [z2] at C3
  have HBc := Lib.hid (B1.trans ((B2.mono (by omega)).trans (B3.mono (by omega))))
  refine (mill_any wc _ _ _ 4 1 4 awL awG awO (Kd.C_below (Kd.C_below C1 B2) B3) (Kd.C_below C2 B3) C3 (fun ad e _ => by injection e with e; subst e; show w.heap.size < _; omega) (fun ad e _ => by injection e with e; subst e; show w.heap.size + 1 < _; omega) (fun ad e _ => by injection e with e; subst e; show w.heap.size + 1 + 1 < _; omega) (by decide) (by decide) (by decide)).mono ?_
  rintro e w1 ⟨v2, v3, v5, u2, u3, u5, rfl, M⟩
  clear B1 B2 B3 C1 C2 C3
  obtain ⟨A2, c2, e2, l2, C2⟩ := Kd.R_reads M.r2
  obtain ⟨A3, c3, e3, l3, C3⟩ := Kd.R_reads M.r3
  obtain ⟨A5, c5, e5, l5, C5⟩ := Kd.R_reads M.r5
  obtain ⟨D2, d2, f2, _⟩ := Kd.R_reads M.q2
  obtain ⟨D3, d3, f3, _⟩ := Kd.R_reads M.q3
  obtain ⟨D5, d5, f5, _⟩ := Kd.R_reads M.q5
  replace e2 : v2 = .slice A2 1 c2 := e2
  replace e3 : v3 = .slice A3 4 c3 := e3
  replace e5 : v5 = .slice A5 4 c5 := e5
  replace f2 : u2 = .slice D2 1 d2 := f2
  replace f3 : u3 = .slice D3 4 d3 := f3
  replace f5 : u5 = .slice D5 4 d5 := f5
  subst e2 e3 e5 f2 f3 f5
  have HC2 : Hid (Kd.C k111 w1 A2 1 (awG.map logOf)) := Lib.hid C2
  have HC3 : Hid (Kd.C k100 w1 A3 4 (itemsK awL 4)) := Lib.hid C3
  have HC5 : Hid (Kd.C k116 w1 A5 4 (awO.map ordOf)) := Lib.hid C5
  have HB1 := Lib.hid (HBc.out.trans (M.bl.mono (by omega)))
  have hs1 := HB1.out.size
  change 1 ≤ c2 at l2
  change 4 ≤ c3 at l3
  change 4 ≤ c5 at l5
  clear M C2 C3 C5 HBc z1 z2 z3
  have h1 : Hid (((w1.alloc (.cells #[.int .i64 0, .slice none 0 0, .slice none 0 0, .slice none 0 0, .slice none 0 0, .slice none 0 0, .int .i64 0, .int .i64 0, .slice none 0 0, .slice none 0 0] 32)).alloc (.cells #[.int .i64 0, .slice none 0 0, .slice none 0 0, .slice none 0 0, .slice none 0 0, .slice none 0 0, .int .i64 0, .int .i64 0, .slice none 0 0, .slice none 0 0] 38)).heap[w1.heap.size]? = some (.cells #[.int .i64 0, .slice none 0 0, .slice none 0 0, .slice none 0 0, .slice none 0 0, .slice none 0 0, .int .i64 0, .int .i64 0, .slice none 0 0, .slice none 0 0] 32 (0, 0))) := Lib.hid (blk_alloc (blk_new _ _) _)
  have h2 : Hid (((w1.alloc (.cells #[.int .i64 0, .slice none 0 0, .slice none 0 0, .slice none 0 0, .slice none 0 0, .slice none 0 0, .int .i64 0, .int .i64 0, .slice none 0 0, .slice none 0 0] 32)).alloc (.cells #[.int .i64 0, .slice none 0 0, .slice none 0 0, .slice none 0 0, .slice none 0 0, .slice none 0 0, .int .i64 0, .int .i64 0, .slice none 0 0, .slice none 0 0] 38)).heap[w1.heap.size + 1]? = some (.cells #[.int .i64 0, .slice none 0 0, .slice none 0 0, .slice none 0 0, .slice none 0 0, .slice none 0 0, .int .i64 0, .int .i64 0, .slice none 0 0, .slice none 0 0] 38 (0, 0))) := Lib.hid (by rw [show w1.heap.size + 1 = (w1.alloc (.cells #[.int .i64 0, .slice none 0 0, .slice none 0 0, .slice none 0 0, .slice none 0 0, .slice none 0 0, .int .i64 0, .int .i64 0, .slice none 0 0, .slice none 0 0] 32)).heap.size by simp [go_sem]]; exact blk_new _ _)
  have b12 := Lib.hid (((Below.refl w1.heap.size w1).alloc (Nat.le_refl _) (.cells #[.int .i64 0, .slice none 0 0, .slice none 0 0, .slice none 0 0, .slice none 0 0, .slice none 0 0, .int .i64 0, .int .i64 0, .slice none 0 0, .slice none 0 0] 32)).alloc (by simp [go_sem]) (.cells #[.int .i64 0, .slice none 0 0, .slice none 0 0, .slice none 0 0, .slice none 0 0, .slice none 0 0, .int .i64 0, .int .i64 0, .slice none 0 0, .slice none 0 0] 38))
  go_wp2_with (first
    | (refine row_event (t := 32) (s := 1) (u := 23) rfl rfl rfl rfl rfl h1.out (by kernel_rfl) rfl (all10 rfl rfl rfl) ?_; intro wd hd ned bd zd; have HD := Lib.hid hd; have h2d := Lib.hid ((ned _ (by omega)).trans h2.out); have b1d := Lib.hid (bd _ _ b12.out (Nat.le_refl _)); clear hd ned bd zd h1 h2 b12)
    | (refine row_event (t := 38) (s := 2) (u := 24) rfl rfl rfl rfl rfl h2d.out (by kernel_rfl) rfl (all10 rfl rfl rfl) ?_; intro we he nee be ze; have HE := Lib.hid ((nee _ (by omega)).trans HD.out); have b1e := Lib.hid (be _ _ b1d.out (by omega)); clear he nee be ze h2d b1d HD)
    | ((with_reducible refine gate_dst (N := 25) rfl ?_); (try (refine gate_guard (by rfl) ?_; dsimp only)); refine load_event (N := 25) rfl rfl rfl rfl [.int .i64 0, .slice none 0 0, .slice A2 1 c2, .slice A3 4 c3, .slice none 0 0, .slice A5 4 c5, .int .i64 0, .int .i64 0, .slice none 0 0, .slice none 0 0] _ (row_cells HE.out) Tryd.underlying32 rfl (by kernel_rfl) ?_)
    | (go_at_call 16; refine hold ?_))
  refine Lib.hid ?_
  have hse := b1e.out.size
  have C2 := Kd.C_below HC2.out b1e.out
  have C3 := Kd.C_below HC3.out b1e.out
  have C5 := Kd.C_below HC5.out b1e.out
  have HBe := Lib.hid (HB1.out.trans (b1e.out.mono hs1))
  have HTe := Lib.hid (HT.out.below HBe.out (Nat.le_refl _))
  have hBe := HBe.out.size
  have G2 := Lib.hid C2
  have G3 := Lib.hid C3
  have G5 := Lib.hid C5
  clear C2 C3 C5 HC2 HC3 HC5 HB1 b1e HT
  refine (Stock_any we 0 0 0 1 none A2 A3 none A5 none none 0 1 0 4 0 0 0 c2 c3 0 c5 0 0 (itemsK awL 4) G3.out l3 (by decide) aw_wf).mono ?_
  rintro e wf ⟨v, d, rfl, hp, hw, R, Bf⟩
  rw [aw_rows hp hw] at R
  obtain ⟨RA, rc, re, rl, RC⟩ := Kd.R_reads R
  replace re : v = .slice RA 2 rc := re
  subst re
  obtain ⟨ra, rcs, e0, rK, rcell⟩ := at_row RC z84 0 (by decide)
  obtain rfl := k84_open rK
  obtain ⟨rb, rds, e1, rL, rdell⟩ := at_row RC z84 1 (by decide)
  obtain rfl := k84_open rL
  subst e0
  injection e1 with e1
  subst e1
  have HR0 := Lib.hid rcell
  have HR1 := Lib.hid rdell
  have HF := Lib.hid (blk_below HE.out Bf)
  have HBf := Lib.hid Bf
  have hsf := Bf.size
  clear hp hw R rl RC rK rL rcell rdell Bf
  go_wp2_with (first
    | ((with_reducible refine gate_dst (N := 28) rfl ?_); (try (refine gate_guard (by rfl) ?_; dsimp only)); refine load_event (N := 28) rfl rfl rfl rfl [.int .i64 0, .slice none 0 0, .slice A2 1 c2, .slice A3 4 c3, .slice none 0 0, .slice A5 4 c5, .int .i64 0, .int .i64 0, .slice none 0 0, .slice none 0 0] _ (row_cells HF.out) Tryd.underlying32 rfl (by kernel_rfl) ?_)
    | (go_at_call 11; refine hold ?_))
  refine Lib.hid ?_
  refine (Recovery_any wf 0 0 0 ⟨#[112, 105, 110, 101]⟩ none A2 A3 none A5 none none 0 4 0 4 0 0 0 c2 c3 0 c5 0 0 (awG.map logOf) (Kd.C_below G2.out HBf.out) (by decide)).mono ?_
  rintro e wg ⟨rfl, Bg⟩
  rw [aw_pine]
  have HR0g := Lib.hid (cells_below HR0.out Bg)
  have HR1g := Lib.hid (cells_below HR1.out Bg)
  have hbg := Lib.hid (HBf.out.trans (Bg.mono hsf))
  have hsg := hbg.out.size
  clear Bg
  go_wp2_with (first
    | ((with_reducible refine gate_dst (N := 4) rfl ?_); refine copy_event rfl rfl rfl rfl rfl rfl info42 [.int .i64 9, .int .i64 5, .int .i64 3, .int .i64 1, .int .i64 7] rfl rfl rfl (by simp [Value.oneCell']) ?_; intro xb4 wh hxb4 hbk4 Bh hzh; subst hxb4; have H4 := Lib.hid hbk4; have hbh := Lib.hid (hbg.out.trans (Bh.mono hsg)); have HH := Lib.hid (blk_below HE.out hbh.out); have HR0h := Lib.hid (cells_below HR0g.out Bh); have HR1h := Lib.hid (cells_below HR1g.out Bh); clear hbk4 Bh HR0g HR1g)
    | ((with_reducible refine gate_dst (N := 33) rfl ?_); (try (refine gate_guard (by rfl) ?_; dsimp only)); refine load_event (N := 33) rfl rfl rfl rfl [.int .i64 0, .slice none 0 0, .slice A2 1 c2, .slice A3 4 c3, .slice none 0 0, .slice A5 4 c5, .int .i64 0, .int .i64 0, .slice none 0 0, .slice none 0 0] _ (row_cells HH.out) Tryd.underlying32 rfl (by kernel_rfl) ?_)
    | (go_at_call 11; refine hold ?_))
  refine Lib.hid ?_
  have hsh := hbh.out.size
  refine (Recovery_any wh 0 0 0 ⟨#[111, 97, 107]⟩ none A2 A3 none A5 none none 0 4 0 4 0 0 0 c2 c3 0 c5 0 0 (awG.map logOf) (Kd.C_below G2.out hbh.out) (by decide)).mono ?_
  rintro e wi ⟨rfl, Bi⟩
  rw [aw_oak]
  have HR0i := Lib.hid (cells_below HR0h.out Bi)
  have HR1i := Lib.hid (cells_below HR1h.out Bi)
  have H4i := Lib.hid (blk_below H4.out Bi)
  have hbi := Lib.hid (hbh.out.trans (Bi.mono hsh))
  have hsi := hbi.out.size
  clear Bi H4 hbg HF HH
  go_wp2_with (first
    | ((with_reducible refine gate_dst (N := 6) rfl ?_); refine copy_event rfl rfl rfl rfl rfl rfl info42 [.int .i64 0, .int .i64 0, .int .i64 0, .int .i64 0, .int .i64 0] rfl rfl rfl (by simp [Value.oneCell']) ?_; intro xb6 wj hxb6 hbk6 Bj hzj; subst hxb6; have H6 := Lib.hid hbk6; have H4j := Lib.hid (blk_below H4i.out Bj); have hbj := Lib.hid (hbi.out.trans (Bj.mono hsi)); have HJ := Lib.hid (blk_below HE.out hbj.out); have HR0j := Lib.hid (cells_below HR0i.out Bj); have HR1j := Lib.hid (cells_below HR1i.out Bj); have hsj := hbj.out.size; clear hbk6 Bj HR0i HR1i)
    | ((with_reducible refine gate_dst (N := 43) rfl ?_); (try (refine gate_guard (by rfl) ?_; dsimp only)); refine load_event (N := 43) rfl rfl rfl rfl [.int .i64 0, .int .i64 2000, .int .i64 1, .int .i64 1, .int .i64 3] _ (HR0j.out) Tryd.underlying84 rfl (by kernel_rfl) ?_)
    | ((with_reducible refine gate_dst (N := 50) rfl ?_); (try (refine gate_guard (by rfl) ?_; dsimp only)); refine load_event (N := 50) rfl rfl rfl rfl [.int .i64 0, .int .i64 2000, .int .i64 2, .int .i64 2, .int .i64 12] _ (HR1j.out) Tryd.underlying84 rfl (by kernel_rfl) ?_)
    | ((with_reducible refine gate_dst (N := 58) rfl ?_); (try (refine gate_guard (by rfl) ?_; dsimp only)); refine load_event (N := 58) rfl rfl rfl rfl [.int .i64 0, .slice none 0 0, .slice A2 1 c2, .slice A3 4 c3, .slice none 0 0, .slice A5 4 c5, .int .i64 0, .int .i64 0, .slice none 0 0, .slice none 0 0] _ (row_cells (blk_alloc HJ.out _)) Tryd.underlying32 rfl (by kernel_rfl) ?_)
    | (go_at_call 18; refine hold ?_))
  refine Lib.hid ?_
  have C60 := aw_C60 wj
  rw [hzj] at C60
  have Bk := (Below.refl wj.heap.size wj).alloc (Nat.le_refl _) (.cells #[.string ⟨#[112, 108, 97, 110, 107]⟩, .int .i64 0, .int .i64 0, .int .i64 0, .int .i64 0, .slice none 0 0, .slice none 0 0] 60)
  generalize wj.alloc (.cells #[.string ⟨#[112, 108, 97, 110, 107]⟩, .int .i64 0, .int .i64 0, .int .i64 0, .int .i64 0, .slice none 0 0, .slice none 0 0] 60) = wk at *
  have hbk := Lib.hid (hbj.out.trans (Bk.mono hsj))
  have hsk := hbk.out.size
  have H4k := Lib.hid (blk_below H4j.out Bk)
  have H6k := Lib.hid (blk_below H6.out Bk)
  clear Bk H4j H6 HJ
  refine (Text_any wk (HTe.out.below hbk.out (Nat.le_refl _)) awC _ none none none 1 0 0 0 0 0 0 0 0 0 0 0 0 0 0 0 C60 aw_names 0 0 0 1 none A2 A3 none A5 none none 0 1 0 4 0 0 0 c2 c3 0 c5 0 0 (itemsK awL 4) (Kd.C_below G3.out hbk.out) l3 (by decide) aw_wf).mono ?_
  rintro e wl ⟨d, hp, hw, rfl, Bl⟩
  have htx : textK awC (d.map toRow) (d.map toRow).length = ⟨#[112, 108, 97, 110, 107, 32, 50, 48, 48, 48, 32, 49, 32, 49, 32, 51, 10, 112, 108, 97, 110, 107, 32, 50, 48, 48, 48, 32, 50, 32, 50, 32, 49, 50, 10]⟩ := by
    rw [aw_rows hp hw]
    exact aw_text
  rw [htx]
  clear htx
  have hbl := Lib.hid (hbk.out.trans (Bl.mono hsk))
  have hsl := hbl.out.size
  have H4l := Lib.hid (blk_below H4k.out Bl)
  have H6l := Lib.hid (blk_below H6k.out Bl)
  have HL := Lib.hid (blk_below HE.out hbl.out)
  clear hp hw Bl H4k H6k C60
  have m4 : wl.cell? ⟨wg.heap.size, 1, none⟩ = some (.int .i64 5) := blk_cell H4l.out 1
  have n0 : wl.cell? ⟨wi.heap.size, 0, none⟩ = some (.int .i64 0) := blk_cell H6l.out 0
  have n1 : wl.cell? ⟨wi.heap.size, 1, none⟩ = some (.int .i64 0) := blk_cell H6l.out 1
  have n2 : wl.cell? ⟨wi.heap.size, 2, none⟩ = some (.int .i64 0) := blk_cell H6l.out 2
  have n3 : wl.cell? ⟨wi.heap.size, 3, none⟩ = some (.int .i64 0) := blk_cell H6l.out 3
  have n4 : wl.cell? ⟨wi.heap.size, 4, none⟩ = some (.int .i64 0) := blk_cell H6l.out 4
  go_wp2_with (first
    | ((with_reducible refine gate_dst (N := 81) rfl ?_); (try (refine gate_guard (by rfl) ?_; dsimp only)); refine load_event (N := 81) rfl rfl rfl rfl [.int .i64 0, .slice none 0 0, .slice A2 1 c2, .slice A3 4 c3, .slice none 0 0, .slice A5 4 c5, .int .i64 0, .int .i64 0, .slice none 0 0, .slice none 0 0] _ (row_cells HL.out) Tryd.underlying32 rfl (by kernel_rfl) ?_)
    | (go_at_call 14; refine hold ?_))
  refine Lib.hid ?_
  refine (Open_any wl 0 0 0 none A2 A3 none A5 none none 0 1 4 0 0 0 0 c2 c3 0 c5 0 0 (awO.map ordOf) (Kd.C_below G5.out hbl.out) l5 (by decide)).mono ?_
  rintro e wm ⟨v, rfl, R, Bm⟩
  rw [aw_open] at R
  obtain ⟨RA, rc2, re, rl, RC⟩ := Kd.R_reads R
  replace re : v = .slice RA 3 rc2 := re
  subst re
  have CI := aw_I3 wm
  have Bn := (Below.refl wm.heap.size wm).alloc (Nat.le_refl _) (.cells #[.int .i64 2, .int .i64 0, .int .i64 3] 3)
  have RCn := Kd.C_below RC Bn
  have hbm := Lib.hid (hbl.out.trans (Bm.mono hsl))
  have hsm := hbm.out.size
  have hbn := Lib.hid (hbm.out.trans (Bn.mono hsm))
  have hsn := hbn.out.size
  have HI := aw_ints _ RA _ rc2 3 RCn rl CI (Nat.le_refl _)
  clear R RC Bm Bn CI RCn m4 n0 n1 n2 n3 n4 H4l H6l HL
  go_wp2_with (go_at_call 21; refine HI.mono ?_; rintro e wn ⟨rfl, Bz⟩)
  go_ret
  exact ⟨rfl, HBe.out.trans ((hbn.out.trans (Bz.mono hsn)).mono hBe)⟩
#print axioms awake_any
end Go.Proofs.YtnhflmihjegaiaaDoor
