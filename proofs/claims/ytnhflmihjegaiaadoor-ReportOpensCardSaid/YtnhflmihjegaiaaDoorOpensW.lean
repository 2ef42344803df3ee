/- ReportOpens: the drawn region, the walk. (gen_opens.py) -/
import Derived.Test.YtnhflmihjegaiaaDoorRefO
import Derived.Test.YtnhflmihjegaiaaDoorOpenG
import Derived.Test.YtnhflmihjegaiaaDoorAwkB
namespace Go.Proofs.YtnhflmihjegaiaaDoor
open Go Go.Proofs Go.RowKit Go.Shelf Go.Proofs.YtnhflmihjegaiaaDoorW.PrintWords P Reg
set_option linter.unusedSimpArgs false
set_option linter.unusedVariables false
set_option maxRecDepth 100000
set_option maxHeartbeats 4000000

theorem rd116_ord (os : List S55) (i : Int) : (rd_T116 (os.map ordOf) i).f0.f10 = (rd_T117 (os.map ordOf1) i).f0.f10 ∧ (rd_T116 (os.map ordOf) i).f1 = (rd_T117 (os.map ordOf1) i).f1 := by
  unfold rd_T116 rd_T117
  rw [List.getD_eq_getElem?_getD, List.getD_eq_getElem?_getD, List.getElem?_map, List.getElem?_map]
  cases os[i.toNat]? <;> exact ⟨rfl, rfl⟩
theorem openS_ref {os : List S55} {xs : List Nat} (h : OpenS (os.map ordOf) xs) : xs = refO (dueR (os.map ordOf1)) (shR (os.map ordOf1)) os.length := by
  obtain ⟨h1, h2⟩ := refO_good (dueR (os.map ordOf1)) (shR (os.map ordOf1)) os.length
  have hd : dueO (os.map ordOf) = dueR (os.map ordOf1) := funext fun i => (rd116_ord os (i : Int)).1
  refine befN_unique (dueR (os.map ordOf1)) _ _ (fun i => ?_) ?_ h2
  · rw [h.1, h1]
    unfold opK
    rw [List.mem_filter, List.mem_range, List.length_map]
    unfold shR
    rw [← (rd116_ord os (i : Int)).2]
    simp
  · rw [← hd]
    exact h.2
theorem ints_self (xs : List Int) (h : xs.length ≤ 1000000) : ∀ (m j k : Nat), j + m = xs.length → m + 1 ≤ k → sawmilllaw64_ints.l0 k xs xs (j : Int) = some true
  | 0, j, k, hj, hk => by
    obtain ⟨k, rfl⟩ : ∃ q, k = q + 1 := ⟨k - 1, by omega⟩
    unfold sawmilllaw64_ints.l0
    rw [if_neg (by omega)]
  | m + 1, j, k, hj, hk => by
    obtain ⟨k, rfl⟩ : ∃ q, k = q + 1 := ⟨k - 1, by omega⟩
    unfold sawmilllaw64_ints.l0
    rw [if_pos (by omega), if_pos (by omega), if_pos (by omega), if_pos rfl, show wrap64 ((j : Int) + 1) = ((j + 1 : Nat) : Int) by unfold wrap64; omega]
    exact ints_self xs h m (j + 1) k (by omega) (by omega)
theorem ints_eq (w : World) (A0 A1 : Option Addr) (c0 c1 : Nat) (xs : List Int) (h : xs.length ≤ 1000000) (h0 : Kd.C (Kd.int .i64) w A0 xs.length xs) (e0 : xs.length ≤ c0) (h1 : Kd.C (Kd.int .i64) w A1 xs.length xs) (e1 : xs.length ≤ c1) :
    Calls Tryd.prog 21 #[.slice A0 xs.length c0, .slice A1 xs.length c1] w fun e w' => e = .returned (.bool true) ∧ Below w.heap.size w w' :=
  (sawmilllaw64_ints.calls (xs.length + 1) A0 c0 xs A1 c1 xs true w h0 e0 h1 e1 (by
    unfold sawmilllaw64_ints.f
    rw [if_pos rfl]
    exact ints_self xs h xs.length 0 (xs.length + 1) (by omega) (Nat.le_refl _))).mono fun e w' h => ⟨h.1, h.2.below⟩

theorem oreg4 {Q : Exit → Act → World → Prop} (hQ : ∀ c (a : Act) d v w, Q (.panic c) (a.put d v) w → Q (.panic c) a w) (x0 x1 x2 x5 x6 x7 x8 x9 x10 x11 x12 x13 x14 x15 x16 x17 x18 x19 x20 x21 : Value) (wa : World) {B c2 c3 c5 d2 d3 d5 len : Nat} {A2 A3 A5 D2 D3 D5 : Option Addr} (os : List S55) (hlen : os.length = len) (hl : len ≤ 100)
    (hs : wa.heap[B]? = some (.cells #[.int .i64 0, .slice none 0 0, .slice A2 0 c2, .slice A3 0 c3, .slice none 0 0, .slice A5 len c5, .int .i64 0, .int .i64 0, .slice none 0 0, .slice none 0 0] 32 (0, 0))) (ht : wa.heap[B + 1]? = some (.cells #[.int .i64 0, .slice none 0 0, .slice D2 0 d2, .slice D3 0 d3, .slice none 0 0, .slice D5 len d5, .int .i64 0, .int .i64 0, .slice none 0 0, .slice none 0 0] 38 (0, 0)))
    (hC : Kd.C k116 wa A5 len (os.map ordOf)) (hcl : len ≤ c5) (hD : Kd.C k117 wa D5 len (os.map ordOf1)) (hdl : len ≤ d5) (hTab : Tab wa)
    (hq : ∀ v1 v2 w, Below wa.heap.size wa w → Q .normal ⟨#[x0, x1, (.bool true), (.pointer (some ⟨B, 0, none⟩)), (.pointer (some ⟨B + 1, 0, none⟩)), x5, x6, x7, x8, x9, x10, x11, x12, x13, (.agg #[.int .i64 0, .slice none 0 0, .slice A2 0 c2, .slice A3 0 c3, .slice none 0 0, .slice A5 len c5, .int .i64 0, .int .i64 0, .slice none 0 0, .slice none 0 0]), (v1), (.agg #[.int .i64 0, .slice none 0 0, .slice D2 0 d2, .slice D3 0 d3, .slice none 0 0, .slice D5 len d5, .int .i64 0, .int .i64 0, .slice none 0 0, .slice none 0 0]), (v2), (.bool true), (.bool true), (.bool true), (.bool true)], []⟩ w) :
    wpAnyH Tryd.prog .any (R Tryd.f7 4) Q (Below wa.heap.size wa) 9 (L 9 0) ⟨#[x0, x1, x2, (.pointer (some ⟨B, 0, none⟩)), (.pointer (some ⟨B + 1, 0, none⟩)), x5, x6, x7, x8, x9, x10, x11, x12, x13, x14, x15, x16, x17, x18, x19, x20, x21], []⟩ wa := by
  have b0 := Below.refl wa.heap.size wa
  refine RegH.take 0 14 (.agg #[.int .i64 0, .slice none 0 0, .slice A2 0 c2, .slice A3 0 c3, .slice none 0 0, .slice A5 len c5, .int .i64 0, .int .i64 0, .slice none 0 0, .slice none 0 0]) hQ b0 (fun w b => loadR (s := 3) (by kernel_rfl) (by kernel_rfl) [.int .i64 0, .slice none 0 0, .slice A2 0 c2, .slice A3 0 c3, .slice none 0 0, .slice A5 len c5, .int .i64 0, .int .i64 0, .slice none 0 0, .slice none 0 0] _ (row_cells (blk_below hs b)) Tryd.underlying32 rfl (by kernel_rfl)) ?_
  refine RegH.take 2 16 (.agg #[.int .i64 0, .slice none 0 0, .slice D2 0 d2, .slice D3 0 d3, .slice none 0 0, .slice D5 len d5, .int .i64 0, .int .i64 0, .slice none 0 0, .slice none 0 0]) hQ b0 (fun w b => loadR (s := 4) (by kernel_rfl) (by kernel_rfl) [.int .i64 0, .slice none 0 0, .slice D2 0 d2, .slice D3 0 d3, .slice none 0 0, .slice D5 len d5, .int .i64 0, .int .i64 0, .slice none 0 0, .slice none 0 0] _ (row_cells (blk_below ht b)) Tryd.underlying38 rfl (by kernel_rfl)) ?_
  refine RegH.any1 1 (enter 15 14 #[.agg #[.int .i64 0, .slice none 0 0, .slice A2 0 c2, .slice A3 0 c3, .slice none 0 0, .slice A5 len c5, .int .i64 0, .int .i64 0, .slice none 0 0, .slice none 0 0]] ?_)
  have hA := Open_all wa 0 0 0 none A2 A3 none A5 none none 0 0 0 0 0 0 0 c2 c3 0 c5 0 0 (os.map ordOf) (by rw [List.length_map, hlen]; exact hC) (by rw [List.length_map, hlen]; exact hcl) (by rw [List.length_map]; omega)
  rw [List.length_map, hlen] at hA
  refine hA.mono ?_
  rintro e w5 ⟨v1, rfl, xs1, hX, R1, B5⟩
  refine ⟨_, rfl, B5, ?_⟩
  have hs5 := B5.size
  refine RegH.any1 3 (enter 17 22 #[.agg #[.int .i64 0, .slice none 0 0, .slice D2 0 d2, .slice D3 0 d3, .slice none 0 0, .slice D5 len d5, .int .i64 0, .int .i64 0, .slice none 0 0, .slice none 0 0]] ?_)
  have hB := refOpen_any w5 0 0 0 none D2 D3 none D5 none none 0 0 0 0 0 0 0 d2 d3 0 d5 0 0 (os.map ordOf1) (by rw [List.length_map, hlen]; exact Kd.C_below hD B5) (by rw [List.length_map, hlen]; exact hdl) (by rw [List.length_map]; omega)
  rw [List.length_map, hlen] at hB
  refine hB.mono ?_
  rintro e w6 ⟨v2, rfl, R2, B6⟩
  have hE := openS_ref hX
  rw [hlen] at hE
  rw [← hE] at R2
  have B6' := B5.trans (B6.mono hs5)
  refine ⟨_, rfl, B6', ?_⟩
  have hs6 := B6'.size
  obtain ⟨E1, f1, g1, q1, C1⟩ := Kd.R_reads (Kd.R_below R1 (B6.mono (Nat.le_refl _)))
  obtain ⟨E2, f2, g2, q2, C2⟩ := Kd.R_reads R2
  have hxl : (ints xs1).length ≤ 1000000 := by
    have := hX.len
    rw [ints_length]
    rw [List.length_map, hlen] at this
    omega
  subst g1 g2
  refine RegH.any1 4 (enter 18 21 #[.slice E1 (ints xs1).length f1, .slice E2 (ints xs1).length f2] ?_)
  refine (ints_eq w6 E1 E2 f1 f2 (ints xs1) hxl C1 q1 C2 q2).mono ?_
  rintro e w7 ⟨rfl, B7⟩
  have B7' := B6'.trans (B7.mono hs6)
  have hs7 := B7'.size
  refine ⟨_, rfl, B7', ?_⟩
  refine RegH.take 5 19 (.bool true) hQ B7' (fun _ _ => by kernel_rfl) ?_
  refine RegH.any1 6 (enter 20 9 #[] ?_)
  refine (awake_any w7 (hTab.below B7' (Nat.le_refl _))).mono ?_
  rintro e w8 ⟨rfl, B8⟩
  have B8' := B7'.trans (B8.mono hs7)
  refine ⟨_, rfl, B8', ?_⟩
  refine RegH.take 7 21 (.bool true) hQ B8' (fun _ _ => by kernel_rfl) ?_
  refine RegH.take 8 2 (.bool true) hQ B8' (fun _ _ => by kernel_rfl) ?_
  exact RegH.same (l' := L 9 9) (wpAnyH_done (by kernel_rfl) (hq (.slice E1 (ints xs1).length f1) (.slice E2 (ints xs1).length f2) _ B8') 0)

theorem nil_C3 {α : Type} (d : Kd α) (w : World) : Kd.C d w none 0 [] := ⟨rfl, Nat.zero_le _, fun h => absurd h (Nat.lt_irrefl _)⟩
theorem opsWalk1 (A : Option Addr) (c : Nat) (os : List S55) (w : World) (hC : Kd.C k55 w A os.length os) (ht : Tab w) (h : ¬ os.length ≤ 100) : Calls Tryd.prog 7 #[.slice A os.length c] w fun e w' => e = .returned (.bool true) ∧ Below w.heap.size w w' := by
  have hA := awake_any w ht
  have h2 : (os.length : Int) > 100 := by omega
  go_enter Tryd.func7, Tryd.ntmps7
  go_wp2_with (go_at_call 9; refine hA.mono ?_; rintro e w1 ⟨rfl, B1⟩)
  go_ret
  exact ⟨rfl, B1⟩
theorem opsWalk2 (A : Option Addr) (c : Nat) (os : List S55) (w : World) (hC : Kd.C k55 w A os.length os) (ht : Tab w) (h : os.length ≤ 100) : Calls Tryd.prog 7 #[.slice A os.length c] w fun e w' => e = .returned (.bool true) ∧ Below w.heap.size w w' := by
  have hu32 := Tryd.underlying32
  have hu38 := Tryd.underlying38
  have HT := Lib.hid ht
  have hM := mill_any w none none A 0 0 c [] [] os (nil_C3 _ _) (nil_C3 _ _) hC (fun ad e _ => by cases e) (fun ad e _ => by cases e) (fun ad e hp => by subst e; exact Kd.C_lt hC hp (by decide)) (by decide) (by decide) (by omega)
  clear ht hC
  go_enter Tryd.func7, Tryd.ntmps7
  go_wp2_with (go_at_call 10; refine hold ?_)
  refine Lib.hid ?_
  refine hM.mono ?_
  rintro e w1 ⟨v2, v3, v5, u2, u3, u5, rfl, M⟩
  clear hM
  obtain ⟨A2, c2, e2, l2, C2⟩ := Kd.R_reads M.r2
  obtain ⟨A3, c3, e3, l3, C3⟩ := Kd.R_reads M.r3
  obtain ⟨A5, c5, e5, l5, C5⟩ := Kd.R_reads M.r5
  obtain ⟨D2, d2, f2, m2, G2⟩ := Kd.R_reads M.q2
  obtain ⟨D3, d3, f3, m3, G3⟩ := Kd.R_reads M.q3
  obtain ⟨D5, d5, f5, m5, G5⟩ := Kd.R_reads M.q5
  replace e2 : v2 = .slice A2 0 c2 := e2
  replace e3 : v3 = .slice A3 0 c3 := e3
  replace e5 : v5 = .slice A5 os.length c5 := by rw [e5, List.length_map]
  replace f2 : u2 = .slice D2 0 d2 := f2
  replace f3 : u3 = .slice D3 0 d3 := f3
  replace f5 : u5 = .slice D5 os.length d5 := by rw [f5, List.length_map]
  subst e2 e3 e5 f2 f3 f5
  rw [List.length_map] at l5 m5 C5 G5
  have HC5 := Lib.hid C5
  have HG5 := Lib.hid G5
  have HL5 := Lib.hid l5
  have HM5 := Lib.hid m5
  have HB1 := Lib.hid M.bl
  have hs1 := HB1.out.size
  clear M C2 C3 C5 G2 G3 G5 l2 l3 l5 m2 m3 m5
  have h1 : Hid ((((w1.alloc (.cells #[.int .i64 0, .slice none 0 0, .slice none 0 0, .slice none 0 0, .slice none 0 0, .slice none 0 0, .int .i64 0, .int .i64 0, .slice none 0 0, .slice none 0 0] 32)).alloc (.cells #[.int .i64 0, .slice none 0 0, .slice none 0 0, .slice none 0 0, .slice none 0 0, .slice none 0 0, .int .i64 0, .int .i64 0, .slice none 0 0, .slice none 0 0] 38))).heap[w1.heap.size]? = some (.cells #[.int .i64 0, .slice none 0 0, .slice none 0 0, .slice none 0 0, .slice none 0 0, .slice none 0 0, .int .i64 0, .int .i64 0, .slice none 0 0, .slice none 0 0] 32 (0, 0))) := Lib.hid (blk_alloc (blk_new _ _) _)
  have h2 : Hid ((((w1.alloc (.cells #[.int .i64 0, .slice none 0 0, .slice none 0 0, .slice none 0 0, .slice none 0 0, .slice none 0 0, .int .i64 0, .int .i64 0, .slice none 0 0, .slice none 0 0] 32)).alloc (.cells #[.int .i64 0, .slice none 0 0, .slice none 0 0, .slice none 0 0, .slice none 0 0, .slice none 0 0, .int .i64 0, .int .i64 0, .slice none 0 0, .slice none 0 0] 38))).heap[w1.heap.size + 1]? = some (.cells #[.int .i64 0, .slice none 0 0, .slice none 0 0, .slice none 0 0, .slice none 0 0, .slice none 0 0, .int .i64 0, .int .i64 0, .slice none 0 0, .slice none 0 0] 38 (0, 0))) := Lib.hid (by rw [show w1.heap.size + 1 = (w1.alloc (.cells #[.int .i64 0, .slice none 0 0, .slice none 0 0, .slice none 0 0, .slice none 0 0, .slice none 0 0, .int .i64 0, .int .i64 0, .slice none 0 0, .slice none 0 0] 32)).heap.size by simp [go_sem]]; exact blk_new _ _)
  have b12 := Lib.hid (((Below.refl w1.heap.size w1).alloc (Nat.le_refl _) (.cells #[.int .i64 0, .slice none 0 0, .slice none 0 0, .slice none 0 0, .slice none 0 0, .slice none 0 0, .int .i64 0, .int .i64 0, .slice none 0 0, .slice none 0 0] 32)).alloc (by simp [go_sem]) (.cells #[.int .i64 0, .slice none 0 0, .slice none 0 0, .slice none 0 0, .slice none 0 0, .slice none 0 0, .int .i64 0, .int .i64 0, .slice none 0 0, .slice none 0 0] 38))
  go_wp2_with (first
    | (refine row_event (t := 32) (s := 3) (u := 12) rfl rfl rfl rfl rfl h1.out (by kernel_rfl) rfl (all10 rfl rfl rfl) ?_; intro wd hd ned bd zd; have HD := Lib.hid hd; have h2d := Lib.hid ((ned _ (by omega)).trans h2.out); have b1d := Lib.hid (bd _ _ b12.out (Nat.le_refl _)); clear hd ned bd zd h1 h2 b12)
    | (refine row_event (t := 38) (s := 4) (u := 13) rfl rfl rfl rfl rfl h2d.out (by kernel_rfl) rfl (all10 rfl rfl rfl) ?_; intro we he nee be ze; have HE := Lib.hid ((nee _ (by omega)).trans HD.out); have HF := Lib.hid he; have b1e := Lib.hid (be _ _ b1d.out (by omega)); clear he nee be ze h2d b1d HD))
  have HBe := Lib.hid (HB1.out.trans (b1e.out.mono hs1))
  have HTe := Lib.hid (HT.out.below HBe.out (Nat.le_refl _))
  have HCe := Lib.hid (Kd.C_below HC5.out b1e.out)
  have HGe := Lib.hid (Kd.C_below HG5.out b1e.out)
  refine wp_region_noPanic ?_
  refine RegH.start (S := Below we.drew.heap.size we.drew) (f := Tryd.f7) (k := 4) (n := 9) (a' := ⟨#[_, _, _, _, _, _, _, _, _, _, _, _, _, _, _, _, _, _, _, _, _, _], _⟩) (by kernel_rfl) (by kernel_rfl) (by kernel_rfl) rfl (by kernel_rfl) ?_
  refine oreg4 (fun _ _ _ _ _ h => h) _ _ _ _ _ _ _ _ _ _ _ _ _ _ _ _ _ _ _ _ we.drew os rfl h HE.out HF.out (Kd.C_below HCe.out (Below.drew (Below.refl _ _))) HL5.out (Kd.C_below HGe.out (Below.drew (Below.refl _ _))) HM5.out (HTe.out.below (B := we.heap.size) (Below.drew (Below.refl _ _)) (Nat.le_refl _)) ?_
  intro y1 y2 wz Bz
  refine NoPanic.normal ?_
  have Bf := HBe.out.trans ((((Below.refl we.heap.size we).drew).trans Bz).mono HBe.out.size)
  go_wp2_with fail
  go_ret
  exact ⟨rfl, Bf⟩
theorem opsWalk (A : Option Addr) (c : Nat) (os : List S55) (w : World) (hC : Kd.C k55 w A os.length os) (ht : Tab w) : Calls Tryd.prog 7 #[.slice A os.length c] w fun e w' => e = .returned (.bool true) ∧ Below w.heap.size w w' := by
  by_cases h : os.length ≤ 100
  · exact opsWalk2 A c os w hC ht h
  · exact opsWalk1 A c os w hC ht h
#print axioms opsWalk
end Go.Proofs.YtnhflmihjegaiaaDoor
