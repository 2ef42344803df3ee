/- ReportRecovers: Recovery returns the specified yield, or the error, for at most 100 logs and any species. Condition: the library's table of the powers of ten is as laid. -/
import Derived.Test.YtnhflmihjegaiaaDoorAwkB
import Derived.Test.YtnhflmihjegaiaaDoorRecD
namespace Go.Proofs.YtnhflmihjegaiaaDoor
open Go.RowKit Go.Shelf Go.Proofs.YtnhflmihjegaiaaDoorW.PrintWords P
attribute [local go_sem high] eqA42
set_option linter.unusedSimpArgs false
set_option linter.unusedVariables false

theorem nil_C {α : Type} (d : Kd α) (w : World) : Kd.C d w none 0 [] := ⟨rfl, Nat.zero_le _, fun h => absurd h (Nat.lt_irrefl _)⟩
set_option maxRecDepth 100000 in
set_option maxHeartbeats 4000000 in
theorem recWalk1 (A : Option Addr) (c : Nat) (l : List S47) (sp : ByteArray) (w : World) (hC : Kd.C k47 w A l.length l) (ht : Tab w) (h : ¬ l.length ≤ 100) : Calls Tryd.prog 6 #[.slice A l.length c, .string sp] w fun e w' => e = .returned (.bool true) ∧ Below w.heap.size w w' := by
  have hA := awake_any w ht
  have h2 : (l.length : Int) > 100 := by omega
  go_enter Tryd.func6, Tryd.ntmps6
  go_wp2_with (go_at_call 9; refine hA.mono ?_; rintro e w1 ⟨rfl, B1⟩)
  go_ret
  exact ⟨rfl, B1⟩
set_option maxRecDepth 100000 in
set_option maxHeartbeats 4000000 in
theorem recWalk2 (A : Option Addr) (c : Nat) (l : List S47) (sp : ByteArray) (w : World) (hC : Kd.C k47 w A l.length l) (ht : Tab w) (h : l.length ≤ 100) : Calls Tryd.prog 6 #[.slice A l.length c, .string sp] w fun e w' => e = .returned (.bool true) ∧ Below w.heap.size w w' := by
  have hu32 := Tryd.underlying32
  have hu38 := Tryd.underlying38
  have hu42 := Tryd.underlying42
  have HT := Lib.hid ht
  have hM := mill_any w none A none 0 c 0 [] l [] (nil_C _ _) hC (nil_C _ _) (fun ad e _ => by cases e) (fun ad e hp => by subst e; exact Kd.C_lt hC hp (by decide)) (fun ad e _ => by cases e) (by decide) (by omega) (by decide)
  clear ht hC
  go_enter Tryd.func6, Tryd.ntmps6
  go_wp2_with (go_at_call 10; refine hold ?_)
  refine Lib.hid ?_
  refine hM.mono ?_
  rintro e w1 ⟨v2, v3, v5, u2, u3, u5, rfl, M⟩
  clear hM
  obtain ⟨A2, c2, e2, l2, C2⟩ := Kd.R_reads M.r2
  obtain ⟨A3, c3, e3, l3, C3⟩ := Kd.R_reads M.r3
  obtain ⟨A5, c5, e5, l5, C5⟩ := Kd.R_reads M.r5
  obtain ⟨D2, d2, f2, m2, G2⟩ := Kd.R_reads M.q2
  obtain ⟨D3, d3, f3, m3, G3⟩ := Kd.R_reads M.q3
  obtain ⟨D5, d5, f5, m5, G5⟩ := Kd.R_reads M.q5
  replace e2 : v2 = .slice A2 l.length c2 := by rw [e2, List.length_map]
  replace e3 : v3 = .slice A3 0 c3 := e3
  replace e5 : v5 = .slice A5 0 c5 := e5
  replace f2 : u2 = .slice D2 l.length d2 := by rw [f2, List.length_map]
  replace f3 : u3 = .slice D3 0 d3 := f3
  replace f5 : u5 = .slice D5 0 d5 := f5
  subst e2 e3 e5 f2 f3 f5
  have HC2 := Lib.hid C2
  have HG2 := Lib.hid G2
  have HG3 : Hid (Kd.C k101 w1 D3 0 []) := Lib.hid G3
  have HG5 : Hid (Kd.C k117 w1 D5 0 []) := Lib.hid G5
  have Hm2 := Lib.hid m2
  have HB1 := Lib.hid M.bl
  have hs1 := HB1.out.size
  clear M C2 C3 C5 G2 G3 G5 l2 l3 l5 m2
  have h1 : Hid (((w1.alloc (.cells #[.int .i64 0, .slice none 0 0, .slice none 0 0, .slice none 0 0, .slice none 0 0, .slice none 0 0, .int .i64 0, .int .i64 0, .slice none 0 0, .slice none 0 0] 32)).alloc (.cells #[.int .i64 0, .slice none 0 0, .slice none 0 0, .slice none 0 0, .slice none 0 0, .slice none 0 0, .int .i64 0, .int .i64 0, .slice none 0 0, .slice none 0 0] 38)).heap[w1.heap.size]? = some (.cells #[.int .i64 0, .slice none 0 0, .slice none 0 0, .slice none 0 0, .slice none 0 0, .slice none 0 0, .int .i64 0, .int .i64 0, .slice none 0 0, .slice none 0 0] 32 (0, 0))) := Lib.hid (blk_alloc (blk_new _ _) _)
  have h2 : Hid (((w1.alloc (.cells #[.int .i64 0, .slice none 0 0, .slice none 0 0, .slice none 0 0, .slice none 0 0, .slice none 0 0, .int .i64 0, .int .i64 0, .slice none 0 0, .slice none 0 0] 32)).alloc (.cells #[.int .i64 0, .slice none 0 0, .slice none 0 0, .slice none 0 0, .slice none 0 0, .slice none 0 0, .int .i64 0, .int .i64 0, .slice none 0 0, .slice none 0 0] 38)).heap[w1.heap.size + 1]? = some (.cells #[.int .i64 0, .slice none 0 0, .slice none 0 0, .slice none 0 0, .slice none 0 0, .slice none 0 0, .int .i64 0, .int .i64 0, .slice none 0 0, .slice none 0 0] 38 (0, 0))) := Lib.hid (by rw [show w1.heap.size + 1 = (w1.alloc (.cells #[.int .i64 0, .slice none 0 0, .slice none 0 0, .slice none 0 0, .slice none 0 0, .slice none 0 0, .int .i64 0, .int .i64 0, .slice none 0 0, .slice none 0 0] 32)).heap.size by simp [go_sem]]; exact blk_new _ _)
  have b12 := Lib.hid (((Below.refl w1.heap.size w1).alloc (Nat.le_refl _) (.cells #[.int .i64 0, .slice none 0 0, .slice none 0 0, .slice none 0 0, .slice none 0 0, .slice none 0 0, .int .i64 0, .int .i64 0, .slice none 0 0, .slice none 0 0] 32)).alloc (by simp [go_sem]) (.cells #[.int .i64 0, .slice none 0 0, .slice none 0 0, .slice none 0 0, .slice none 0 0, .slice none 0 0, .int .i64 0, .int .i64 0, .slice none 0 0, .slice none 0 0] 38))
  go_wp2_with (first
    | (refine row_event (t := 32) (s := 5) (u := 18) rfl rfl rfl rfl rfl h1.out (by kernel_rfl) rfl (all10 rfl rfl rfl) ?_; intro wd hd ned bd zd; have HD := Lib.hid hd; have h2d := Lib.hid ((ned _ (by omega)).trans h2.out); have b1d := Lib.hid (bd _ _ b12.out (Nat.le_refl _)); clear hd ned bd zd h1 h2 b12)
    | (refine row_event (t := 38) (s := 6) (u := 19) rfl rfl rfl rfl rfl h2d.out (by kernel_rfl) rfl (all10 rfl rfl rfl) ?_; intro we he nee be ze; have HE := Lib.hid ((nee _ (by omega)).trans HD.out); have HF := Lib.hid he; have b1e := Lib.hid (be _ _ b1d.out (by omega)); clear he nee be ze h2d b1d HD)
    | ((with_reducible refine gate_dst (N := 21) rfl ?_); (try (refine gate_guard (by rfl) ?_; dsimp only)); refine load_event (N := 21) rfl rfl rfl rfl [.int .i64 0, .slice none 0 0, .slice A2 l.length c2, .slice A3 0 c3, .slice none 0 0, .slice A5 0 c5, .int .i64 0, .int .i64 0, .slice none 0 0, .slice none 0 0] _ (row_cells HE.out) Tryd.underlying32 rfl (by kernel_rfl) ?_)
    | (go_at_call 11; refine hold ?_))
  refine Lib.hid ?_
  have hse := b1e.out.size
  have hR := Recovery_any we 0 0 0 sp none A2 A3 none A5 none none 0 0 0 0 0 0 0 c2 c3 0 c5 0 0 (l.map logOf) (Kd.C_below HC2.out b1e.out) (by rw [List.length_map]; omega)
  rw [List.length_map, recF_map] at hR
  refine hR.mono ?_
  rintro e wf ⟨rfl, Bf⟩
  have bf := Lib.hid (b1e.out.trans (Bf.mono hse))
  have hsf := bf.out.size
  have HFf := Lib.hid (blk_below HF.out Bf)
  have HQF := fun (W : World) (h : Kd.C k112 W D2 (l.map logOf1).length (l.map logOf1)) => refRecovery_any W 0 0 0 sp none D2 D3 none D5 none none 0 0 0 0 0 0 0 d2 d3 0 d5 0 0 (l.map logOf1) h (by rw [List.length_map]; omega)
  simp only [List.length_map, recT_map] at HQF
  clear hR Bf HE HF
  generalize recS l sp = ry at *
  obtain ⟨y, er⟩ := ry
  go_wp2_with (first
    | ((with_reducible refine gate_dst (N := 7) rfl ?_); refine copy_event rfl rfl rfl rfl rfl rfl info42 [.int .i64 y.f0, .int .i64 y.f1, .int .i64 y.f2, .int .i64 y.f3, .int .i64 y.f4] rfl rfl rfl (by simp [Value.oneCell']) ?_; intro xb4 wh hxb4 hbk4 Bh hzh; subst hxb4; have H4 := Lib.hid hbk4; have bh := Lib.hid (bf.out.trans (Bh.mono hsf)); have HH := Lib.hid (blk_below HFf.out Bh); have hsh := bh.out.size; clear hbk4 Bh hzh)
    | ((with_reducible refine gate_dst (N := 27) rfl ?_); (try (refine gate_guard (by rfl) ?_; dsimp only)); refine load_event (N := 27) rfl rfl rfl rfl [.int .i64 0, .slice none 0 0, .slice D2 l.length d2, .slice D3 0 d3, .slice none 0 0, .slice D5 0 d5, .int .i64 0, .int .i64 0, .slice none 0 0, .slice none 0 0] _ (row_cells HH.out) Tryd.underlying38 rfl (by kernel_rfl) ?_)
    | (go_at_call 20; refine hold ?_))
  refine Lib.hid ?_
  have hQ := HQF wh (by have := Kd.C_below HG2.out bh.out; rwa [List.length_map] at this)
  refine hQ.mono ?_
  rintro e wi ⟨rfl, Bi⟩
  have bi := Lib.hid (bh.out.trans (Bi.mono hsh))
  have hsi := bi.out.size
  have H4i := Lib.hid (blk_below H4.out Bi)
  clear hQ HQF Bi H4 HH HFf
  go_wp2_with (first
    | ((with_reducible refine gate_dst (N := 9) rfl ?_); refine copy_event rfl rfl rfl rfl rfl rfl info42 [.int .i64 y.f0, .int .i64 y.f1, .int .i64 y.f2, .int .i64 y.f3, .int .i64 y.f4] rfl rfl rfl (by simp [Value.oneCell']) ?_; intro xb6 wj hxb6 hbk6 Bj hzj; subst hxb6; have H6 := Lib.hid hbk6; have H4j := Lib.hid (blk_below H4i.out Bj); have bj := Lib.hid (bi.out.trans (Bj.mono hsi)); have hsj := bj.out.size; clear hbk6 Bj hzj)
    | ((with_reducible refine gate_dst (N := 32) rfl ?_); refine load_event (N := 32) rfl rfl rfl rfl [.int .i64 y.f0, .int .i64 y.f1, .int .i64 y.f2, .int .i64 y.f3, .int .i64 y.f4] _ (row_cells H4j.out) Tryd.underlying42 rfl (by kernel_rfl) ?_)
    | ((with_reducible refine gate_dst (N := 33) rfl ?_); refine load_event (N := 33) rfl rfl rfl rfl [.int .i64 y.f0, .int .i64 y.f1, .int .i64 y.f2, .int .i64 y.f3, .int .i64 y.f4] _ (row_cells H6.out) Tryd.underlying42 rfl (by kernel_rfl) ?_)
    | (go_at_call 9; refine hold ?_))
  refine Lib.hid ?_
  have HBj := Lib.hid (HB1.out.trans (bj.out.mono hs1))
  have hsw := HBj.out.size
  refine (awake_any wj (HT.out.below HBj.out (Nat.le_refl _))).mono ?_
  rintro e wk ⟨rfl, Bk⟩
  go_wp2_with fail
  go_ret
  exact ⟨rfl, HBj.out.trans (Bk.mono hsw)⟩
theorem recWalk (A : Option Addr) (c : Nat) (l : List S47) (sp : ByteArray) (w : World) (hC : Kd.C k47 w A l.length l) (ht : Tab w) : Calls Tryd.prog 6 #[.slice A l.length c, .string sp] w fun e w' => e = .returned (.bool true) ∧ Below w.heap.size w w' := by
  by_cases h : l.length ≤ 100
  · exact recWalk2 A c l sp w hC ht h
  · exact recWalk1 A c l sp w hC ht h
#print axioms recWalk
end Go.Proofs.YtnhflmihjegaiaaDoor
