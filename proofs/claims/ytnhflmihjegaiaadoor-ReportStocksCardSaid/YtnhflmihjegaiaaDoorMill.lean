/- sawmilllaw64.mill, whatever the memory: the two states' rows. -/
import Derived.Test.YtnhflmihjegaiaaDoorMillR6
import Derived.Lib.Hide
import Derived.Test.YtnhflmihjegaiaaDoorMillE
import Derived.Deep.RegionHeld3
import Derived.Test.YtnhflmihjegaiaaDoorMillR7
import Derived.Test.YtnhflmihjegaiaaDoorMillR11
import Derived.Test.YtnhflmihjegaiaaDoorMillR12
import Derived.Test.YtnhflmihjegaiaaDoorMillR16
import Derived.Test.YtnhflmihjegaiaaDoorMillR17
namespace Go.Proofs.YtnhflmihjegaiaaDoor
open Go.RowKit Go.Proofs.YtnhflmihjegaiaaDoorW.PrintWords P
set_option linter.unusedSimpArgs false
set_option linter.unusedVariables false

def itemsK (l : List S87) (k : Nat) : List S100 := (l.take k).mapIdx (fun i s => itemOf s (i : Int))
def itemsK1 (l : List S87) (k : Nat) : List S101 := (l.take k).mapIdx (fun i s => itemOf1 s (i : Int))
theorem itemsK_succ (l : List S87) (k : Nat) (h : k < l.length) : itemsK l (k + 1) = itemsK l k ++ [itemOf l[k] (k : Int)] := by
  unfold itemsK
  rw [List.take_add_one, List.getElem?_eq_getElem h]
  simp only [Option.toList_some, List.mapIdx_append, List.length_take, Nat.min_eq_left (Nat.le_of_lt h)]
  simp
theorem itemsK1_succ (l : List S87) (k : Nat) (h : k < l.length) : itemsK1 l (k + 1) = itemsK1 l k ++ [itemOf1 l[k] (k : Int)] := by
  unfold itemsK1
  rw [List.take_add_one, List.getElem?_eq_getElem h]
  simp only [Option.toList_some, List.mapIdx_append, List.length_take, Nat.min_eq_left (Nat.le_of_lt h)]
  simp
theorem itemsK_len (l : List S87) (k : Nat) (h : k ≤ l.length) : (itemsK l k).length = k := by simp [itemsK, Nat.min_eq_left h]
theorem itemsK1_len (l : List S87) (k : Nat) (h : k ≤ l.length) : (itemsK1 l k).length = k := by simp [itemsK1, Nat.min_eq_left h]
theorem MI.start (w : World) : MI w.heap.size w ((((w.alloc (.cells #[.int .i64 0, .slice none 0 0, .slice none 0 0, .slice none 0 0, .slice none 0 0, .slice none 0 0, .int .i64 0, .int .i64 0, .slice none 0 0, .slice none 0 0] 32)).alloc (.cells #[.int .i64 0, .slice none 0 0, .slice none 0 0, .slice none 0 0, .slice none 0 0, .slice none 0 0, .int .i64 0, .int .i64 0, .slice none 0 0, .slice none 0 0] 38)).alloc (.cells #[.int .i64 0, .slice none 0 0, .slice none 0 0, .slice none 0 0, .slice none 0 0, .slice none 0 0, .int .i64 0, .int .i64 0, .slice none 0 0, .slice none 0 0] 32)).alloc (.cells #[.int .i64 0, .slice none 0 0, .slice none 0 0, .slice none 0 0, .slice none 0 0, .slice none 0 0, .int .i64 0, .int .i64 0, .slice none 0 0, .slice none 0 0] 38)) (.slice none 0 0) (.slice none 0 0) (.slice none 0 0) (.slice none 0 0) (.slice none 0 0) (.slice none 0 0) [] [] [] [] [] [] := by
  generalize ho : Obj.cells #[.int .i64 0, .slice none 0 0, .slice none 0 0, .slice none 0 0, .slice none 0 0, .slice none 0 0, .int .i64 0, .int .i64 0, .slice none 0 0, .slice none 0 0] 32 = o32
  generalize hp : Obj.cells #[.int .i64 0, .slice none 0 0, .slice none 0 0, .slice none 0 0, .slice none 0 0, .slice none 0 0, .int .i64 0, .int .i64 0, .slice none 0 0, .slice none 0 0] 38 = o38
  have s1 : (w.alloc o32).heap.size = w.heap.size + 1 := by simp [go_sem]
  have s2 : ((w.alloc o32).alloc o38).heap.size = w.heap.size + 1 + 1 := by simp [go_sem]
  have s3 : (((w.alloc o32).alloc o38).alloc o32).heap.size = w.heap.size + 1 + 1 + 1 := by simp [go_sem]
  refine ⟨?_, ?_, ?_, ?_, Kd.R_nil _ _ _ _ _, Kd.R_nil _ _ _ _ _, Kd.R_nil _ _ _ _ _, Kd.R_nil _ _ _ _ _, Kd.R_nil _ _ _ _ _, Kd.R_nil _ _ _ _ _, ?_⟩
  · rw [ho]; exact blk_alloc (by rw [← s2]; exact blk_new _ _) _
  · rw [hp]; rw [← s3]; exact blk_new _ _
  · rw [ho]; exact blk_alloc (blk_alloc (blk_alloc (blk_new _ _) _) _) _
  · rw [hp]; exact blk_alloc (blk_alloc (by rw [← s1]; exact blk_new _ _) _) _
  · exact ((((Below.refl w.heap.size w).alloc (by omega) _).alloc (by omega) _).alloc (by omega) _).alloc (by omega) _

set_option maxRecDepth 100000 in
set_option maxHeartbeats 4000000 in
theorem mill_any (w : World) (A0 A1 A2 : Option Addr) (c0 c1 c2 : Nat) (ls : List S87) (gs : List S47) (os : List S55) (hC0 : Kd.C k87 w A0 ls.length ls) (hC1 : Kd.C k47 w A1 gs.length gs) (hC2 : Kd.C k55 w A2 os.length os)
    (hb0 : ∀ ad, A0 = some ad → 0 < ls.length → ad.block < w.heap.size) (hb1 : ∀ ad, A1 = some ad → 0 < gs.length → ad.block < w.heap.size) (hb2 : ∀ ad, A2 = some ad → 0 < os.length → ad.block < w.heap.size) (hl0 : ls.length ≤ 100000) (hl1 : gs.length ≤ 100000) (hl2 : os.length ≤ 100000) :
    Calls Tryd.prog 10 #[.slice A0 ls.length c0, .slice A1 gs.length c1, .slice A2 os.length c2] w fun e w' => ∃ v2 v3 v5 u2 u3 u5, e = .returned (.tuple #[.agg #[.int .i64 0, .slice none 0 0, v2, v3, .slice none 0 0, v5, .int .i64 0, .int .i64 0, .slice none 0 0, .slice none 0 0], .agg #[.int .i64 0, .slice none 0 0, u2, u3, .slice none 0 0, u5, .int .i64 0, .int .i64 0, .slice none 0 0, .slice none 0 0]]) ∧ MO w.heap.size w w' v2 v3 v5 u2 u3 u5 (gs.map logOf) (itemsK ls ls.length) (os.map ordOf) (gs.map logOf1) (itemsK1 ls ls.length) (os.map ordOf1) := by
  have hu32 := Tryd.underlying32
  have hu38 := Tryd.underlying38
  have hu57 := Tryd.underlying57
  have hu22 := Tryd.underlying22
  have hu50 := Tryd.underlying50
  have HM := Lib.hid (MI.start w)
  go_enter Tryd.func10, Tryd.ntmps10
  go_wp2_with fail
  generalize ((((w.alloc (.cells #[.int .i64 0, .slice none 0 0, .slice none 0 0, .slice none 0 0, .slice none 0 0, .slice none 0 0, .int .i64 0, .int .i64 0, .slice none 0 0, .slice none 0 0] 32)).alloc (.cells #[.int .i64 0, .slice none 0 0, .slice none 0 0, .slice none 0 0, .slice none 0 0, .slice none 0 0, .int .i64 0, .int .i64 0, .slice none 0 0, .slice none 0 0] 38)).alloc (.cells #[.int .i64 0, .slice none 0 0, .slice none 0 0, .slice none 0 0, .slice none 0 0, .slice none 0 0, .int .i64 0, .int .i64 0, .slice none 0 0, .slice none 0 0] 32)).alloc (.cells #[.int .i64 0, .slice none 0 0, .slice none 0 0, .slice none 0 0, .slice none 0 0, .slice none 0 0, .int .i64 0, .int .i64 0, .slice none 0 0, .slice none 0 0] 38)) = w0 at *
  go_loopw [10] (fun i wr => ∃ k : Nat, k ≤ ls.length ∧ i = .int .i64 k ∧ ∃ va ub, Hid (MI w.heap.size w wr (.slice none 0 0) va (.slice none 0 0) (.slice none 0 0) ub (.slice none 0 0) [] (itemsK ls k) [] [] (itemsK1 ls k) [])) (fun i _ => ls.length - (intOf i).toNat)
  case atStart => exact ⟨0, Nat.zero_le _, rfl, _, _, HM⟩
  case round =>
    obtain ⟨k, hk, rfl, v3, u3, M⟩ := hrel
    by_cases hlt : k < ls.length
    · obtain ⟨ad, cs, e0, hK, hcs⟩ := at_row hC0 z87 k hlt
      subst e0
      have hbk := hb0 ad rfl (by omega)
      obtain rfl := k87_open hK
      clear hK
      have HCS := Lib.hid (fun (wr : World) (b : Below w.heap.size w wr) j v hv => (b.cell (by rw [Addr.block_add, Addr.block_add]; exact hbk)).trans (hcs j v hv))
      clear hcs
      have hsc := Lib.hid (itemsK_succ ls k hlt)
      have hsc1 := Lib.hid (itemsK1_succ ls k hlt)
      have hln := itemsK_len ls k hk
      have hln1 := itemsK1_len ls k hk
      generalize itemsK ls k = xs at *
      generalize itemsK1 ls k = ys at *
      go_wp2_with fail
      refine wp_region_noPanic ?_
      refine RegH.start (S := Below w.heap.size wr.drew) (f := Tryd.f10) (k := 6) (n := 18) (a' := ⟨#[_, _, _, _, _, _, _, _, _, _, _, _, _, _, _, _, _, _, _, _, _, _, _, _, _, _, _, _, _, _, _, _, _, _, _, _, _, _, _, _, _, _, _, _, _, _, _, _, _, _, _, _, _, _, _, _, _, _, _, _, _, _, _, _, _, _, _, _, _, _, _, _, _, _, _, _, _, _, _, _, _, _, _, _, _, _, _, _, _, _, _, _, _, _, _, _, _, _, _, _, _, _, _, _, _, _, _, _, _, _, _, _, _, _, _, _, _, _, _, _, _, _, _, _, _, _, _, _, _, _, _, _, _, _, _, _, _, _, _, _, _, _, _], _⟩) (by kernel_rfl) (by kernel_rfl) (by kernel_rfl) rfl (by kernel_rfl) ?_
      refine mreg6 (fun _ _ _ _ _ h => h) _ _ _ _ _ _ _ _ _ _ _ _ _ _ _ _ _ _ _ _ _ _ _ _ _ _ _ _ _ _ _ _ _ _ _ _ _ _ _ _ _ _ _ _ _ _ _ _ _ _ _ _ _ _ _ _ _ _ _ _ _ _ _ _ _ _ _ _ _ _ _ _ _ _ _ _ _ _ _ _ _ _ _ _ _ _ _ _ _ _ _ _ _ _ _ _ _ _ _ _ _ _ _ _ _ _ _ _ _ _ _ _ _ _ _ _ _ _ _ _ _ _ _ _ _ _ _ _ _ _ _ _ _ _ _ _ _ _ w (B := w.heap.size) A1 A2 gs.length c1 os.length c2 (ad := ad) (p := ad.add (k * 5)) (n := ls.length) (k := k) ls[k] (M.out.below ((Below.refl _ _).drew)) hlt rfl hbk (HCS.out _ (M.out.below ((Below.refl _ _).drew)).bl) (by omega) ?_
      intro w6 v11_6 v1_6 W_6 M6
      refine NoPanic.normal ?_
      replace M6 := Lib.hid M6
      
      go_wp2_with fail
      refine wp_region_noPanic ?_
      refine RegH.start (S := Below w.heap.size w6.drew) (f := Tryd.f10) (k := 7) (n := 18) (a' := ⟨#[_, _, _, _, _, _, _, _, _, _, _, _, _, _, _, _, _, _, _, _, _, _, _, _, _, _, _, _, _, _, _, _, _, _, _, _, _, _, _, _, _, _, _, _, _, _, _, _, _, _, _, _, _, _, _, _, _, _, _, _, _, _, _, _, _, _, _, _, _, _, _, _, _, _, _, _, _, _, _, _, _, _, _, _, _, _, _, _, _, _, _, _, _, _, _, _, _, _, _, _, _, _, _, _, _, _, _, _, _, _, _, _, _, _, _, _, _, _, _, _, _, _, _, _, _, _, _, _, _, _, _, _, _, _, _, _, _, _, _, _, _, _, _], _⟩) (by kernel_rfl) (by kernel_rfl) (by kernel_rfl) rfl (by kernel_rfl) ?_
      refine mreg7 (fun _ _ _ _ _ h => h) _ _ _ _ _ _ _ _ _ _ _ _ _ _ _ _ _ _ _ _ _ _ _ _ _ _ _ _ _ _ _ _ _ _ _ _ _ _ _ _ _ _ _ _ _ _ _ _ _ _ _ _ _ _ _ _ _ _ _ _ _ _ _ _ _ _ _ _ _ _ _ _ _ _ _ _ _ _ _ _ _ _ _ _ _ _ _ _ _ _ _ _ _ _ _ _ _ _ _ _ _ _ _ _ _ _ _ _ _ _ _ _ _ _ _ _ _ _ _ _ _ _ _ _ _ _ _ _ _ _ _ _ _ _ _ _ _ _ w (B := w.heap.size) A1 A2 gs.length c1 os.length c2 (ad := ad) (p := ad.add (k * 5)) (n := ls.length) (k := k) ls[k] (M6.out.below ((Below.refl _ _).drew)) hlt rfl hbk (HCS.out _ (M6.out.below ((Below.refl _ _).drew)).bl) (by omega) ?_
      intro w7 v11_7 v1_7 W_7 M7
      refine NoPanic.normal ?_
      replace M7 := Lib.hid M7
      
      go_wp2
      go_roundw
      case rel => exact ⟨k + 1, by omega, by go_num, _, _, by rw [hsc.out, hsc1.out]; exact M7⟩
      case measure => simp [intOf]; omega
    · have hkl : k = ls.length := by omega
      subst hkl
      generalize hxs : itemsK ls ls.length = xs at *
      generalize hys : itemsK1 ls ls.length = ys at *
      have HX := Lib.hid hxs
      have HY := Lib.hid hys
      clear hxs hys hlt hk
      go_wp2_with fail
      go_loopw [11] (fun i wr => ∃ k : Nat, k ≤ gs.length ∧ i = .int .i64 k ∧ ∃ va ub, Hid (MI w.heap.size w wr va v3 (.slice none 0 0) ub u3 (.slice none 0 0) (List.map logOf (gs.take k)) xs [] (List.map logOf1 (gs.take k)) ys [])) (fun i _ => gs.length - (intOf i).toNat)
      case atStart => exact ⟨0, Nat.zero_le _, rfl, _, _, M⟩
      case round =>
        obtain ⟨k, hk, rfl, v2, u2, M⟩ := hrel
        by_cases hlt : k < gs.length
        · obtain ⟨ad, cs, e0, hK, hcs⟩ := at_row hC1 z47 k hlt
          subst e0
          have hbk := hb1 ad rfl (by omega)
          obtain rfl := k47_open hK
          clear hK
          have HCS := Lib.hid (fun (wr : World) (b : Below w.heap.size w wr) j v hv => (b.cell (by rw [Addr.block_add, Addr.block_add]; exact hbk)).trans (hcs j v hv))
          clear hcs
          have hsc := Lib.hid (map_take_succ logOf gs k hlt)
          have hsc1 := Lib.hid (map_take_succ logOf1 gs k hlt)
          have hln := map_take_len logOf gs k hk
          have hln1 := map_take_len logOf1 gs k hk
          generalize List.map logOf (gs.take k) = ps at *
          generalize List.map logOf1 (gs.take k) = qs at *
          go_wp2_with fail
          refine wp_region_noPanic ?_
          refine RegH.start (S := Below w.heap.size wr.drew) (f := Tryd.f10) (k := 11) (n := 22) (a' := ⟨#[_, _, _, _, _, _, _, _, _, _, _, _, _, _, _, _, _, _, _, _, _, _, _, _, _, _, _, _, _, _, _, _, _, _, _, _, _, _, _, _, _, _, _, _, _, _, _, _, _, _, _, _, _, _, _, _, _, _, _, _, _, _, _, _, _, _, _, _, _, _, _, _, _, _, _, _, _, _, _, _, _, _, _, _, _, _, _, _, _, _, _, _, _, _, _, _, _, _, _, _, _, _, _, _, _, _, _, _, _, _, _, _, _, _, _, _, _, _, _, _, _, _, _, _, _, _, _, _, _, _, _, _, _, _, _, _, _, _, _, _, _, _, _], _⟩) (by kernel_rfl) (by kernel_rfl) (by kernel_rfl) rfl (by kernel_rfl) ?_
          refine mreg11 (fun _ _ _ _ _ h => h) _ _ _ _ _ _ _ _ _ _ _ _ _ _ _ _ _ _ _ _ _ _ _ _ _ _ _ _ _ _ _ _ _ _ _ _ _ _ _ _ _ _ _ _ _ _ _ _ _ _ _ _ _ _ _ _ _ _ _ _ _ _ _ _ _ _ _ _ _ _ _ _ _ _ _ _ _ _ _ _ _ _ _ _ _ _ _ _ _ _ _ _ _ _ _ _ _ _ _ _ _ _ _ _ _ _ _ _ _ _ _ _ _ _ _ _ _ _ _ _ _ _ _ _ _ _ _ _ _ _ _ _ _ _ _ _ _ _ w (B := w.heap.size) A0 A2 ls.length c0 os.length c2 (ad := ad) (p := ad.add (k * 7)) (n := gs.length) (k := k) gs[k] (M.out.below ((Below.refl _ _).drew)) hlt rfl hbk (HCS.out _ (M.out.below ((Below.refl _ _).drew)).bl) (by omega) ?_
          intro w11 v11_11 v1_11 W_11 M11
          refine NoPanic.normal ?_
          replace M11 := Lib.hid M11
          
          go_wp2_with fail
          refine wp_region_noPanic ?_
          refine RegH.start (S := Below w.heap.size w11.drew) (f := Tryd.f10) (k := 12) (n := 22) (a' := ⟨#[_, _, _, _, _, _, _, _, _, _, _, _, _, _, _, _, _, _, _, _, _, _, _, _, _, _, _, _, _, _, _, _, _, _, _, _, _, _, _, _, _, _, _, _, _, _, _, _, _, _, _, _, _, _, _, _, _, _, _, _, _, _, _, _, _, _, _, _, _, _, _, _, _, _, _, _, _, _, _, _, _, _, _, _, _, _, _, _, _, _, _, _, _, _, _, _, _, _, _, _, _, _, _, _, _, _, _, _, _, _, _, _, _, _, _, _, _, _, _, _, _, _, _, _, _, _, _, _, _, _, _, _, _, _, _, _, _, _, _, _, _, _, _], _⟩) (by kernel_rfl) (by kernel_rfl) (by kernel_rfl) rfl (by kernel_rfl) ?_
          refine mreg12 (fun _ _ _ _ _ h => h) _ _ _ _ _ _ _ _ _ _ _ _ _ _ _ _ _ _ _ _ _ _ _ _ _ _ _ _ _ _ _ _ _ _ _ _ _ _ _ _ _ _ _ _ _ _ _ _ _ _ _ _ _ _ _ _ _ _ _ _ _ _ _ _ _ _ _ _ _ _ _ _ _ _ _ _ _ _ _ _ _ _ _ _ _ _ _ _ _ _ _ _ _ _ _ _ _ _ _ _ _ _ _ _ _ _ _ _ _ _ _ _ _ _ _ _ _ _ _ _ _ _ _ _ _ _ _ _ _ _ _ _ _ _ _ _ _ _ w (B := w.heap.size) A0 A2 ls.length c0 os.length c2 (ad := ad) (p := ad.add (k * 7)) (n := gs.length) (k := k) gs[k] (M11.out.below ((Below.refl _ _).drew)) hlt rfl hbk (HCS.out _ (M11.out.below ((Below.refl _ _).drew)).bl) (by omega) ?_
          intro w12 v11_12 v1_12 W_12 M12
          refine NoPanic.normal ?_
          replace M12 := Lib.hid M12
          
          go_wp2
          go_roundw
          case rel => exact ⟨k + 1, by omega, by go_num, _, _, by rw [hsc.out, hsc1.out]; exact M12⟩
          case measure => simp [intOf]; omega
        · have hkl : k = gs.length := by omega
          subst hkl
          rw [List.take_length] at M
          clear hlt hk
          go_wp2_with fail
          go_loopw [12] (fun i wr => ∃ k : Nat, k ≤ os.length ∧ i = .int .i64 k ∧ ∃ va ub, Hid (MI w.heap.size w wr v2 v3 va u2 u3 ub (List.map logOf gs) xs (List.map ordOf (os.take k)) (List.map logOf1 gs) ys (List.map ordOf1 (os.take k)))) (fun i _ => os.length - (intOf i).toNat)
          case atStart => exact ⟨0, Nat.zero_le _, rfl, _, _, M⟩
          case round =>
            obtain ⟨k, hk, rfl, v5, u5, M⟩ := hrel
            by_cases hlt : k < os.length
            · obtain ⟨ad, cs, e0, hK, hcs⟩ := at_row hC2 z55 k hlt
              subst e0
              have hbk := hb2 ad rfl (by omega)
              obtain rfl := k55_open hK
              clear hK
              have HCS := Lib.hid (fun (wr : World) (b : Below w.heap.size w wr) j v hv => (b.cell (by rw [Addr.block_add, Addr.block_add]; exact hbk)).trans (hcs j v hv))
              clear hcs
              have hsc := Lib.hid (map_take_succ ordOf os k hlt)
              have hsc1 := Lib.hid (map_take_succ ordOf1 os k hlt)
              have hln := map_take_len ordOf os k hk
              have hln1 := map_take_len ordOf1 os k hk
              generalize List.map ordOf (os.take k) = ps at *
              generalize List.map ordOf1 (os.take k) = qs at *
              go_wp2_with fail
              refine wp_region_noPanic ?_
              refine RegH.start (S := Below w.heap.size wr.drew) (f := Tryd.f10) (k := 16) (n := 18) (a' := ⟨#[_, _, _, _, _, _, _, _, _, _, _, _, _, _, _, _, _, _, _, _, _, _, _, _, _, _, _, _, _, _, _, _, _, _, _, _, _, _, _, _, _, _, _, _, _, _, _, _, _, _, _, _, _, _, _, _, _, _, _, _, _, _, _, _, _, _, _, _, _, _, _, _, _, _, _, _, _, _, _, _, _, _, _, _, _, _, _, _, _, _, _, _, _, _, _, _, _, _, _, _, _, _, _, _, _, _, _, _, _, _, _, _, _, _, _, _, _, _, _, _, _, _, _, _, _, _, _, _, _, _, _, _, _, _, _, _, _, _, _, _, _, _, _], _⟩) (by kernel_rfl) (by kernel_rfl) (by kernel_rfl) rfl (by kernel_rfl) ?_
              refine mreg16 (fun _ _ _ _ _ h => h) _ _ _ _ _ _ _ _ _ _ _ _ _ _ _ _ _ _ _ _ _ _ _ _ _ _ _ _ _ _ _ _ _ _ _ _ _ _ _ _ _ _ _ _ _ _ _ _ _ _ _ _ _ _ _ _ _ _ _ _ _ _ _ _ _ _ _ _ _ _ _ _ _ _ _ _ _ _ _ _ _ _ _ _ _ _ _ _ _ _ _ _ _ _ _ _ _ _ _ _ _ _ _ _ _ _ _ _ _ _ _ _ _ _ _ _ _ _ _ _ _ _ _ _ _ _ _ _ _ _ _ _ _ _ _ _ _ _ w (B := w.heap.size) A0 A1 ls.length c0 gs.length c1 (ad := ad) (p := ad.add (k * 2)) (n := os.length) (k := k) os[k] (M.out.below ((Below.refl _ _).drew)) hlt rfl hbk (HCS.out _ (M.out.below ((Below.refl _ _).drew)).bl) (by omega) ?_
              intro w16 v11_16 v1_16 W_16 M16
              refine NoPanic.normal ?_
              replace M16 := Lib.hid M16
              
              go_wp2_with fail
              refine wp_region_noPanic ?_
              refine RegH.start (S := Below w.heap.size w16.drew) (f := Tryd.f10) (k := 17) (n := 18) (a' := ⟨#[_, _, _, _, _, _, _, _, _, _, _, _, _, _, _, _, _, _, _, _, _, _, _, _, _, _, _, _, _, _, _, _, _, _, _, _, _, _, _, _, _, _, _, _, _, _, _, _, _, _, _, _, _, _, _, _, _, _, _, _, _, _, _, _, _, _, _, _, _, _, _, _, _, _, _, _, _, _, _, _, _, _, _, _, _, _, _, _, _, _, _, _, _, _, _, _, _, _, _, _, _, _, _, _, _, _, _, _, _, _, _, _, _, _, _, _, _, _, _, _, _, _, _, _, _, _, _, _, _, _, _, _, _, _, _, _, _, _, _, _, _, _, _], _⟩) (by kernel_rfl) (by kernel_rfl) (by kernel_rfl) rfl (by kernel_rfl) ?_
              refine mreg17 (fun _ _ _ _ _ h => h) _ _ _ _ _ _ _ _ _ _ _ _ _ _ _ _ _ _ _ _ _ _ _ _ _ _ _ _ _ _ _ _ _ _ _ _ _ _ _ _ _ _ _ _ _ _ _ _ _ _ _ _ _ _ _ _ _ _ _ _ _ _ _ _ _ _ _ _ _ _ _ _ _ _ _ _ _ _ _ _ _ _ _ _ _ _ _ _ _ _ _ _ _ _ _ _ _ _ _ _ _ _ _ _ _ _ _ _ _ _ _ _ _ _ _ _ _ _ _ _ _ _ _ _ _ _ _ _ _ _ _ _ _ _ _ _ _ _ w (B := w.heap.size) A0 A1 ls.length c0 gs.length c1 (ad := ad) (p := ad.add (k * 2)) (n := os.length) (k := k) os[k] (M16.out.below ((Below.refl _ _).drew)) hlt rfl hbk (HCS.out _ (M16.out.below ((Below.refl _ _).drew)).bl) (by omega) ?_
              intro w17 v11_17 v1_17 W_17 M17
              refine NoPanic.normal ?_
              replace M17 := Lib.hid M17
              
              go_wp2
              go_roundw
              case rel => exact ⟨k + 1, by omega, by go_num, _, _, by rw [hsc.out, hsc1.out]; exact M17⟩
              case measure => simp [intOf]; omega
            · have hkl : k = os.length := by omega
              subst hkl
              rw [List.take_length] at M
              clear hlt hk
              go_wp2_with fail
              refine wp_region_noPanic ?_
              refine RegH.start (S := fun w1 => w1.heap[w.heap.size + 1 + 1]? = some (.cells #[.int .i64 0, .slice none 0 0, v2, v3, .slice none 0 0, v5, .int .i64 0, .int .i64 0, .slice none 0 0, .slice none 0 0] 32 (0, 0)) ∧ w1.heap[w.heap.size + 1 + 1 + 1]? = some (.cells #[.int .i64 0, .slice none 0 0, u2, u3, .slice none 0 0, u5, .int .i64 0, .int .i64 0, .slice none 0 0, .slice none 0 0] 38 (0, 0))) (f := Tryd.f10) (k := 18) (n := 4) (a' := ⟨#[_, _, _, _, _, _, _, _, _, _, _, _, _, _, _, _, _, _, _, _, _, _, _, _, _, _, _, _, _, _, _, _, _, _, _, _, _, _, _, _, _, _, _, _, _, _, _, _, _, _, _, _, _, _, _, _, _, _, _, _, _, _, _, _, _, _, _, _, _, _, _, _, _, _, _, _, _, _, _, _, _, _, _, _, _, _, _, _, _, _, _, _, _, _, _, _, _, _, _, _, _, _, _, _, _, _, _, _, _, _, _, _, _, _, _, _, _, _, _, _, _, _, _, _, _, _, _, _, _, _, _, _, _, _, _, _, _, _, _, _, _, _, _], _⟩) (by kernel_rfl) (by kernel_rfl) (by kernel_rfl) rfl (by kernel_rfl) ?_
              refine mreg18 (fun _ _ _ _ _ h => h) _ _ _ _ _ _ _ _ _ _ _ _ _ _ _ _ _ _ _ _ _ _ _ _ _ _ _ _ _ _ _ _ _ _ _ _ _ _ _ _ _ _ _ _ _ _ _ _ _ _ _ _ _ _ _ _ _ _ _ _ _ _ _ _ _ _ _ _ _ _ _ _ _ _ _ _ _ _ _ _ _ _ _ _ _ _ _ _ _ _ _ _ _ _ _ _ _ _ _ _ _ _ _ _ _ _ _ _ _ _ _ _ _ _ _ _ _ _ _ _ _ _ _ _ _ _ _ _ _ _ _ _ _ _ _ _ _ w (B := w.heap.size) A0 A1 A2 ls.length c0 gs.length c1 os.length c2 (M.out.below ((Below.refl _ _).drew)) ?_
              intro w9 M9
              refine NoPanic.normal ?_
              have HM9 := Lib.hid M9
              clear M9
              go_wp2_with fail
              refine bodyPost_ret (results_cc rfl _ _ w.heap.size (w.heap.size + 1) 32 38 _ _ (0, 0) (0, 0) _ _ rfl HM9.out.b6 Tryd.underlying32 rfl (by kernel_rfl) rfl HM9.out.b7 Tryd.underlying38 rfl (by kernel_rfl)) rfl ?_
              exact ⟨v2, v3, v5, u2, u3, u5, rfl, by rw [← HX.out, ← HY.out] at HM9; exact HM9.out⟩
end Go.Proofs.YtnhflmihjegaiaaDoor
