/- The chapter's examples: awake returns true, whatever the memory. -/
import Derived.Test.YtioglhaofcmebaaAwakeR
import Derived.Deep.RegionHeld3
namespace Go.Proofs.Ytioglhaofcmebaa.P.Ext
open Go.RowKit Go.Proofs.YtioglhaofcmebaaW.PrintWords Go.Proofs.Ytioglhaofcmebaa P Reg
set_option linter.unusedSimpArgs false
set_option linter.unusedVariables false

def sawmilllaw03_awake.f : Option Bool := some true

theorem litG (W : World) (g : Nat) (xs : List S23) (cs : Array Value) (hcs : (flat xs).toArray = cs) (hm : xs.length ≤ 1000) (hg : g = W.heap.size) : SpC (W.alloc (.cells cs 23)) (some ⟨g, 0, none⟩) xs := by
  subst hg; exact litS W xs cs hcs hm

set_option maxRecDepth 100000 in
set_option maxHeartbeats 4000000 in
theorem awake_any (w : World) : Calls Try.prog 15 #[] w fun e w' => e = .returned (.bool true) ∧ Below w.heap.size w w' := by
  have hu23 := Try.underlying23
  have B := (Below.refl w.heap.size w).alloc (Nat.le_refl _) (.cells #[.int .i64 5, .int .i64 8, .int .i64 1, .int .i64 3, .int .i64 7, .int .i64 7, .int .i64 3, .int .i64 4, .int .i64 6, .int .i64 9] 23)
  have Ca := litS w la #[.int .i64 5, .int .i64 8, .int .i64 1, .int .i64 3, .int .i64 7, .int .i64 7, .int .i64 3, .int .i64 4, .int .i64 6, .int .i64 9] rfl (by simp [la])
  have hsz : (w.alloc (.cells #[.int .i64 5, .int .i64 8, .int .i64 1, .int .i64 3, .int .i64 7, .int .i64 7, .int .i64 3, .int .i64 4, .int .i64 6, .int .i64 9] 23)).heap.size = w.heap.size + 1 := by simp
  go_enter Try.func15, Try.ntmps15
  go_wp2_with fail
  generalize w.alloc (.cells #[.int .i64 5, .int .i64 8, .int .i64 1, .int .i64 3, .int .i64 7, .int .i64 7, .int .i64 3, .int .i64 4, .int .i64 6, .int .i64 9] 23) = wa at *
  have HB := Lib.hid B
  have hbs := B.size
  clear B
  obtain ⟨g, hg⟩ : ∃ g, g = w.heap.size := ⟨_, rfl⟩
  rw [← hg] at Ca hsz ⊢
  rw [← hsz]
  have Hg := Lib.hid hg
  clear hg
  have HCa := Lib.hid Ca
  have Bl := (Below.refl wa.heap.size wa).alloc (Nat.le_refl _) (.cells #[.int .i64 0, .int .i64 2, .int .i64 5, .int .i64 8, .int .i64 10, .int .i64 13] 23)
  refine (span_Longest.calls 100 _ 3 [⟨0, 2⟩, ⟨5, 8⟩, ⟨10, 13⟩] 5 8 true _ (litG _ _ _ _ rfl (by simp) (by simp)) (by simp) g1).mono ?_
  rintro e w1 ⟨rfl, B1⟩
  have B1' := Bl.trans (B1.mono (by simp))
  clear Bl B1
  have C1 := Kd.C_below HCa.out B1'
  have HB1 := Lib.hid (HB.out.trans (B1'.mono hbs))
  have hs1 := B1'.size
  clear B1' HCa Ca
  have Bs := (Below.refl w1.heap.size w1).alloc (Nat.le_refl _) (.cells #[.int .i64 5, .int .i64 8] 23)
  have s0 : (w1.alloc (.cells #[.int .i64 5, .int .i64 8] 23)).cell? ⟨w1.heap.size, 0, none⟩ = some (.int .i64 5) := (World.cell?_alloc_at _ _ _ 0 rfl).trans rfl
  have s1 : (w1.alloc (.cells #[.int .i64 5, .int .i64 8] 23)).cell? ⟨w1.heap.size, 1, none⟩ = some (.int .i64 8) := (World.cell?_alloc_at _ _ _ 1 rfl).trans rfl
  have C2 := Kd.C_below C1 Bs
  have HB2 := Lib.hid (HB1.out.trans (Bs.mono HB1.out.size))
  clear C1 Bs
  go_wp2_with fail
  generalize w1.alloc (.cells #[.int .i64 5, .int .i64 8] 23) = w2 at *
  generalize w1.heap.size = gs at *
  clear HB1
  have C7 : SpC w2 (some ⟨g, 4, none⟩) [⟨7, 7⟩] := SpC_part (xs := [⟨5, 8⟩, ⟨1, 3⟩]) (ys := [⟨7, 7⟩]) (zs := [⟨3, 4⟩, ⟨6, 9⟩]) C2
  refine (span_Longest.calls 100 _ 3 [⟨7, 7⟩] 0 0 false _ C7 (by simp) g2).mono ?_
  rintro e w3 ⟨rfl, B⟩
  clear C7
  have HB3 := Lib.hid (HB2.out.trans (B.mono HB2.out.size))
  have C3 := Kd.C_below C2 B
  replace s0 := (B.cell (World.block_lt_of_cell? _ _ s0)).trans s0
  replace s1 := (B.cell (World.block_lt_of_cell? _ _ s1)).trans s1
  clear B C2 HB2
  -- REGION
  have Bl := ((Below.refl w3.heap.size w3).alloc (Nat.le_refl _) (.cells #[.int .i64 0, .int .i64 0] 23))
  replace s0 := (Bl.cell (World.block_lt_of_cell? _ _ s0)).trans s0
  replace s1 := (Bl.cell (World.block_lt_of_cell? _ _ s1)).trans s1
  have C4' := Kd.C_below C3 Bl
  have HB4' := Lib.hid (HB3.out.trans (Bl.mono HB3.out.size))
  clear Bl C3 HB3
  go_wp2_with fail
  generalize w3.alloc (.cells #[.int .i64 0, .int .i64 0] 23) = w4 at *
  have Bl := (Below.refl w4.heap.size w4).drew
  have C4 := Kd.C_below C4' Bl
  have HB4 := Lib.hid (HB4'.out.trans (Bl.mono HB4'.out.size))
  replace s0 := (Bl.cell (World.block_lt_of_cell? _ _ s0)).trans s0
  replace s1 := (Bl.cell (World.block_lt_of_cell? _ _ s1)).trans s1
  clear Bl C4' HB4'
  refine wp_region_noPanic ?_
  refine Reg.start (f := Try.f15) (k := 4) (n := 87) (a' := F [_, _, _, _, _, _, _, _, _, _, _, _, _, _, _, _, _, _, _, _, _, _, _, _, _, _] 112) (by kernel_rfl) (by kernel_rfl) (by kernel_rfl) rfl (by kernel_rfl) ?_
  refine region4 (fun _ _ _ _ _ h => h) g gs _ _ _ _ _ _ _ _ _ _ _ _ _ _ _ _ _ _ _ _ _ _ _ C4 s0 s1 ?_
  intro y38 y41 y54 y56 y57 y60 y66 y68 y69 y72 y78 y87 w5 B5
  refine NoPanic.normal ?_
  unfold F
  go_wp2
  go_ret
  exact ⟨rfl, HB4.out.trans (B5.mono HB4.out.size)⟩

theorem sawmilllaw03_awake.calls (r : Bool) (w : World) (h : sawmilllaw03_awake.f = some r) : Calls Try.prog 15 #[] w fun e w' => e = .returned (.bool r) ∧ Below w.heap.size w w' := by
  unfold sawmilllaw03_awake.f at h
  cases h
  exact awake_any w

end Go.Proofs.Ytioglhaofcmebaa.P.Ext
