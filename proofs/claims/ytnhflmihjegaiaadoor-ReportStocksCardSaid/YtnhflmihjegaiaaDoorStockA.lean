/- report.Stock, whatever the memory: the walk. -/
import Derived.Test.YtnhflmihjegaiaaDoorStockI
import Derived.Deep.AppendLies
import Derived.Deep.RegionHeld3
import Derived.Laws.AppendOwn
namespace Go.Proofs.YtnhflmihjegaiaaDoor
open Go.RowKit Go.Sort Go.Shelf Go.Maps Go.Proofs.YtnhflmihjegaiaaDoorW.PrintWords P
set_option linter.unusedSimpArgs false
set_option linter.unusedVariables false

def toRow (x : S42) : S84 := ⟨x.f0, x.f1, x.f2, x.f3, x.f4⟩
theorem SI.start {w : World} (cells : Array Value) : SI w ((w.alloc (.cells cells 32)).alloc (.map #[] 0)) (w.heap.size + 1) (.slice none 0 0) [] := by
  refine ⟨Kd.R_nil _ _ _ _ _, ?_, ((Below.refl w.heap.size w).alloc (Nat.le_refl _) _).alloc (by simp [go_sem]) _, by omega, by simp [go_sem]⟩
  refine ⟨.map [], 0, ?_, MapR.nil, Nat.le_refl _⟩
  have := World.ownsMap_made (H := Unit) (w.alloc (.cells cells 32)) Tryd.prog 126 (plainElem Tryd.prog 3)
  rwa [show (w.alloc (.cells cells 32)).heap.size = w.heap.size + 1 by simp [go_sem]] at this

set_option maxRecDepth 100000 in
set_option maxHeartbeats 4000000 in
theorem Stock_any (w : World) (a0 a6 a7 place : Int) (A1 A2 A3 A4 A5 A8 A9 : Option Addr) (n1 n2 n4 n5 n8 n9 c1 c2 c3 c4 c5 c8 c9 : Nat) (l : List S100) (hC : Kd.C k100 w A3 l.length l) (hc : l.length ≤ c3) (hl : l.length ≤ 100000) (hw : ∀ x ∈ l, WfK (itemT x)) :
    Calls Tryd.prog 16 #[.agg #[.int .i64 a0, .slice A1 n1 c1, .slice A2 n2 c2, .slice A3 l.length c3, .slice A4 n4 c4, .slice A5 n5 c5, .int .i64 a6, .int .i64 a7, .slice A8 n8 c8, .slice A9 n9 c9], .int .i64 place] w fun e w' => ∃ (v : Value) (d : List S42), e = .returned v ∧ d.Perm (stockK l place l.length) ∧ d.Pairwise (fun a b => ¬ ltT b a) ∧ Kd.R k84 84 w' w.heap.size (fun _ => True) v (d.map toRow) ∧ Below w.heap.size w w' := by
  have hu32 := Tryd.underlying32
  have hu126 := Tryd.underlying126
  have hu129 := Tryd.underlying129
  have hmm := @run_makeMap Tryd.prog
  have HS := Lib.hid (SI.start (w := w) #[.int .i64 a0, .slice A1 n1 c1, .slice A2 n2 c2, .slice A3 l.length c3, .slice A4 n4 c4, .slice A5 n5 c5, .int .i64 a6, .int .i64 a7, .slice A8 n8 c8, .slice A9 n9 c9])
  go_enter Tryd.func16, Tryd.ntmps16
  go_wp2_with fail
  generalize ((w.alloc (.cells #[.int .i64 a0, .slice A1 n1 c1, .slice A2 n2 c2, .slice A3 l.length c3, .slice A4 n4 c4, .slice A5 n5 c5, .int .i64 a6, .int .i64 a7, .slice A8 n8 c8, .slice A9 n9 c9] 32)).alloc (.map #[] 0)) = w0 at *
  have HC := Lib.hid hC
  have HW := Lib.hid (stockK_wf l place hw)
  have HWl := Lib.hid hw
  clear hC hw hmm
  go_loopw [6, 19] (fun v i wr => ∃ k : Nat, k ≤ l.length ∧ i = .int .i64 k ∧ Hid (SI w wr (w.heap.size + 1) v (stockK l place k))) (fun _ i _ => l.length - (intOf i).toNat)
  case atStart => exact ⟨0, Nat.zero_le _, rfl, HS⟩
  case round =>
    obtain ⟨k, hk, rfl, S⟩ := hrel
    by_cases hlt : k < l.length
    · obtain ⟨ad, cs, e0, hcs, hcc⟩ := item_at (Kd.C_below HC.out S.out.bl) k hlt
      subst e0
      have hmx0 := S.out.hi
      have hsc := Lib.hid (stockK_succ l place k hlt)
      have hln := stockK_len l place k
      have hwx := Lib.hid (HW.out k)
      have hwf := Lib.hid (HWl.out _ (List.getElem_mem hlt))
      generalize stockK l place k = xs at *
      generalize l[k] = s at *
      have HCS := Lib.hid hcs
      have HCC := Lib.hid hcc
      clear hcs hcc
      by_cases hp : s.f1 = place
      · have hpd : (s.f1 != place) = false := bne_eq_false_iff_eq.mpr hp
        have HP := Lib.hid hp
        clear hp
        go_wp2_with (first
          | ((with_reducible refine gate_dst (N := 22) rfl ?_); refine load_event (N := 22) rfl rfl rfl rfl cs _ HCS.out Tryd.underlying100 rfl (by rw [HCC.out.len]; kernel_rfl) ?_)
          | ((with_reducible refine gate_dst (N := 8) rfl ?_); refine copy_event rfl rfl rfl rfl rfl rfl info100 cs rfl rfl HCC.out.len.symm HCC.out.one ?_; intro xb w2 hxb hbk B2 hz2; subst hxb; have S2 := Lib.hid (S.out.below B2); have k18 := (blk_cell hbk 18).trans ((List.getElem?_toArray).trans HCC.out.c18); clear S))
        have k3 := (blk_cell hbk 3).trans ((List.getElem?_toArray).trans HCC.out.c3)
        have k8 := (blk_cell hbk 8).trans ((List.getElem?_toArray).trans HCC.out.c8)
        have k9 := (blk_cell hbk 9).trans ((List.getElem?_toArray).trans HCC.out.c9)
        have k17 := (blk_cell hbk 17).trans ((List.getElem?_toArray).trans HCC.out.c17)
        have C0 : C4 wr.heap.size s.f0.f3 s.f0.f4.f2.f0 s.f0.f4.f2.f1 s.f0.f10 w2 := ⟨k3, k8, k9, k17⟩
        clear k3 k8 k9 k17 k18 HCS
        refine wp_region_noPanic ?_
        refine RegH.start (S := C4 wr.heap.size s.f0.f3 s.f0.f4.f2.f0 s.f0.f4.f2.f1 s.f0.f10) (f := Tryd.f16) (k := 7) (n := 14) (a' := ⟨#[_, _, _, _, _, _, _, _, _, _, _, _, _, _, _, _, _, _, _, _, _, _, _, _, _, _, _, _, _, _, _, _, _, _, _, _, _, _, _, _, _, _, _, _, _, _, _, _, _, _, _, _, _, _, _, _, _, _, _, _, _, _, _, _, _, _, _, _, _, _, _, _, _, _, _, _, _, _, _, _, _, _, _, _, _, _, _, _, _, _, _, _, _, _, _, _, _, _, _, _, _, _, _, _], _⟩) (by kernel_rfl) (by kernel_rfl) (by kernel_rfl) rfl (by kernel_rfl) ?_
        refine reg7 (fun _ _ _ _ _ h => h) _ _ _ _ _ _ _ _ _ _ _ _ _ _ _ _ _ _ _ _ _ _ _ _ _ _ _ _ _ _ _ _ _ _ _ _ _ _ _ _ _ _ _ _ _ _ _ _ _ _ _ _ _ _ _ _ _ _ _ _ _ _ _ _ _ _ _ _ _ _ _ _ _ _ _ _ _ _ _ _ _ _ _ _ _ _ _ _ _ _ _ _ _ _ _ _ _ _ _ _ _ _ _ _ (C0.next ((Below.refl _ _).drew)) ?_
        intro kb wq Bq hkb q0 q1 q2
        refine NoPanic.normal ?_
        have S3 := Lib.hid ((S2.out.below ((Below.refl _ _).drew)).below Bq)
        replace hbk := blk_below (blk_below hbk ((Below.refl _ _).drew)) Bq
        have hmx : w.heap.size + 1 < wr.heap.size := hmx0
        have hkx : w.heap.size + 1 < kb := by have := S2.out.hi; have e : ({ w2 with drawn := w2.drawn + 1 } : World).heap.size = w2.heap.size := rfl; omega
        clear S2 C0 B2 hz2 Bq hkb
        cases hf : xs.findIdx? (sameK (itemT s)) with
        | some i =>
          obtain ⟨hi, hget, htl⟩ := find_yes hwx.out hwf.out hf
          have hlk := S3.out.mp.look_yes hwf.out hget
          rcases TR_shape S3.out.tr with ⟨_, he⟩ | ⟨g, cap, he⟩
          · rw [he] at hi; exact absurd hi (by simp)
          · subst he
            obtain ⟨ys, hy, S5, hyl, hys⟩ := S3.out.bump3 hi
            have t3 := (TR_cells S3.out.tr hi).1
            have f3 : wq.frozen? ⟨g, i * 5 + 3, none⟩ = false := TR_frozen S3.out.tr _
            have hgx := TR_ne S3.out.tr hbk (by decide)
            have S5H := Lib.hid S5
            have hysH := Lib.hid (hys s.f0.f5)
            clear S5 hys
            have hbk5 := blk_far hbk (p := ⟨g, i * 5 + 3, none⟩) (Ne.symm hgx) (.int .i64 (wrap64 (xs[i].f3 + 1)))
            go_wp2_with (first
              | ((with_reducible refine gate_dst (N := 42) rfl ?_); refine look_event rfl (N := 42) (s := 40) (t := 41) rfl rfl rfl rfl hlk ?_)
              | fail)
            clear S3 t3 f3 hbk hlk q0 q1 q2
            generalize wq.setCell ⟨g, i * 5 + 3, none⟩ (.int .i64 (wrap64 (xs[i].f3 + 1))) = w5 at *
            have k10 := (blk_cell hbk5 10).trans ((List.getElem?_toArray).trans HCC.out.c10)
            have t4 := (TR_cells S5H.out.tr hy).2
            have f4 : w5.frozen? ⟨g, i * 5 + 4, none⟩ = false := TR_frozen S5H.out.tr _
            clear hbk5
            go_region
            go_wp2
            go_roundw
            case rel => exact ⟨k + 1, by omega, by go_num, by rw [hsc.out, if_pos HP.out, htl, ← hysH.out]; exact Lib.hid ((S5H.out.below ((Below.refl _ _).drew)).set4 hy _)⟩
            case measure => simp [intOf]; omega
        | none =>
          obtain ⟨hnm, htl⟩ := find_no hwx.out hwf.out hf
          have hlk := S3.out.mp.look_no hwf.out hnm
          obtain ⟨A, cap, hA⟩ : ∃ A cap, u6 = .slice A xs.length cap := by
            rcases TR_shape S3.out.tr with ⟨h1, h2⟩ | ⟨g, cap, he⟩
            · exact ⟨none, 0, by rw [h1, h2]; rfl⟩
            · exact ⟨_, _, he⟩
          subst hA
          have hput := S3.out.mp.put hwf.out hnm (by rw [List.length_map]; omega)
          rw [List.length_map] at hput
          obtain ⟨zs, hzs⟩ : ∃ zs, zs = xs ++ [itemT s] := ⟨_, rfl⟩
          have hzl : zs.length = xs.length + 1 := by rw [hzs]; simp
          have hZ := Lib.hid hzs
          clear hzs
          have hown := TR_ne2 S3.out.tr hbk (by decide)
          go_wp2_with (first
            | ((with_reducible refine gate_dst (N := 42) rfl ?_); refine look_event rfl (N := 42) (s := 40) (t := 41) rfl rfl rfl rfl hlk ?_)
            | (refine put_event (s := 49) (t := 50) (u := 51) rfl rfl rfl rfl rfl rfl hput ?_; rintro w5 ⟨hM5, hg5⟩; replace q0 := cell_grown hg5 q0 (fun e => by injection e; omega); replace q1 := cell_grown hg5 q1 (fun e => by injection e; omega); replace q2 := cell_grown hg5 q2 (fun e => by injection e; omega); replace hbk := blk_grown hbk hg5 (fun e => by injection e; omega); obtain ⟨R5, B5, hi5, hne5⟩ := S3.out.put hg5; have HM5 := Lib.hid hM5; have HR5 := Lib.hid R5; have HB5 := Lib.hid B5; have HN5 := Lib.hid hne5; clear hM5 R5 B5 hne5 hput hlk S3 hg5)
            | ((with_reducible refine gate_builtin (b := .append) (xs := #[.tmp 52, .tmp 55]) rfl ?_); at_builtin; refine hold ?_))
          refine Lib.hid ?_
          refine push_event (s := 52) (t := 55) (W := w5) rfl rfl (itemT s) rfl rfl HR5.out (by omega) (by omega) ?_
          intro v6 w6 R6 hg6
          replace hbk := blk_grown hbk hg6 hown
          rw [← hZ.out] at R6
          have S6 := Lib.hid (SI.push (w := w) (xs := xs) R6 (by rw [hZ.out, List.map_append]; exact HM5.out) HN5.out hg6 HB5.out (by omega) hi5)
          clear R6 hg6 HR5 HM5 HB5 HN5
          obtain ⟨g, cap2, hg2⟩ : ∃ g cap2, v6 = .slice (some ⟨g, 0, none⟩) (xs.length + 1) cap2 := by
            rcases TR_shape S6.out.tr with ⟨h1, h2⟩ | ⟨g, c, h1⟩
            · rw [h2] at hzl; simp at hzl
            · exact ⟨g, c, by rw [h1, hzl]⟩
          subst hg2
          have hi : xs.length < zs.length := by omega
          obtain ⟨ys, hy, S5, hyl, hys⟩ := S6.out.bump3 hi
          have t3 := (TR_cells S6.out.tr hi).1
          have f3 : w6.frozen? ⟨g, xs.length * 5 + 3, none⟩ = false := TR_frozen S6.out.tr _
          have hgx := TR_ne S6.out.tr hbk (by decide)
          have S5H := Lib.hid S5
          have hysH := Lib.hid (hys s.f0.f5)
          clear S5 hys
          have hbk5 := blk_far hbk (p := ⟨g, xs.length * 5 + 3, none⟩) (Ne.symm hgx) (.int .i64 (wrap64 (zs[xs.length].f3 + 1)))
          go_wp2_with fail
          clear S6 t3 f3 hbk q0 q1 q2
          generalize w6.setCell ⟨g, xs.length * 5 + 3, none⟩ (.int .i64 (wrap64 (zs[xs.length].f3 + 1))) = w7 at *
          have k10 := (blk_cell hbk5 10).trans ((List.getElem?_toArray).trans HCC.out.c10)
          have t4 := (TR_cells S5H.out.tr hy).2
          have f4 : w7.frozen? ⟨g, xs.length * 5 + 4, none⟩ = false := TR_frozen S5H.out.tr _
          clear hbk5
          go_region
          go_wp2
          go_roundw
          case rel =>
            have hz2 : zs.set xs.length (bump zs[xs.length] s.f0.f5) = (xs ++ [itemT s]).set xs.length (bump ((xs ++ [itemT s])[xs.length]'(by simp)) s.f0.f5) := by
              have := hZ.out
              subst this
              rfl
            exact ⟨k + 1, by omega, by go_num, by rw [hsc.out, if_pos HP.out, htl, ← hz2, ← hysH.out]; exact Lib.hid ((S5H.out.below ((Below.refl _ _).drew)).set4 hy _)⟩
          case measure => simp [intOf]; omega
      · have hpd : (s.f1 != place) = true := bne_iff_ne.mpr hp
        have HP := Lib.hid hp
        clear hp
        go_wp2_with (first
          | ((with_reducible refine gate_dst (N := 22) rfl ?_); refine load_event (N := 22) rfl rfl rfl rfl cs _ HCS.out Tryd.underlying100 rfl (by rw [HCC.out.len]; kernel_rfl) ?_)
          | ((with_reducible refine gate_dst (N := 8) rfl ?_); refine copy_event rfl rfl rfl rfl rfl rfl info100 cs rfl rfl HCC.out.len.symm HCC.out.one ?_; intro xb w2 hxb hbk B2 hz2; subst hxb; have S2 := Lib.hid (S.out.below B2); have k18 := (blk_cell hbk 18).trans ((List.getElem?_toArray).trans HCC.out.c18); clear S))
        go_roundw
        case rel => exact ⟨k + 1, by omega, by go_num, by rw [hsc.out, if_neg HP.out]; exact S2⟩
        case measure => simp [intOf]; omega
    · have hkl : k = l.length := by omega
      subst hkl
      generalize hxs : stockK l place l.length = xs at *
      have HX := Lib.hid hxs
      have hxl : xs.length ≤ l.length := by rw [← hxs]; exact stockK_len l place _
      have hge : (l.length : Int) ≤ (l.length : Int) := Int.le_refl _
      have hmx := S.out.hi
      have hsrt := Sort_any wr (w.heap.size + 1 + 1) _ xs S.out.tr (by omega)
      clear hxs
      obtain ⟨A, cap, hA⟩ : ∃ A cap, u6 = .slice A xs.length cap := by
        rcases TR_shape S.out.tr with ⟨h1, h2⟩ | ⟨g, cap, he⟩
        · exact ⟨none, 0, by rw [h1, h2]; rfl⟩
        · exact ⟨_, _, he⟩
      subst hA
      have HBW := Lib.hid S.out.bl
      clear S HS
      have hlo := HBW.out.size
      go_wp2_with (go_at_call 29; refine hsrt.mono ?_; rintro e w2 ⟨rfl, d, hdp, hdw, R2, B2⟩)
      have hdl : d.length = xs.length := hdp.length_eq
      have HR2 := Lib.hid R2
      have HB2 := Lib.hid (HBW.out.trans (B2.mono (by omega)))
      have HP := Lib.hid hdp
      have HWW := Lib.hid hdw
      have hsz2 := B2.size
      clear hdp hdw R2 B2 hsrt HBW
      have hu84 := Tryd.underlying84
      go_loopw [12, 81] (fun v i wq => ∃ k : Nat, k ≤ xs.length ∧ i = .int .i64 k ∧ Hid (Kd.R k84 84 wq w2.heap.size (fun _ => True) v ((d.take k).map toRow)) ∧ Hid (TR wq (w.heap.size + 1 + 1) (.slice A xs.length cap) d) ∧ Hid (Below w2.heap.size w2 wq)) (fun _ i _ => xs.length - (intOf i).toNat)
      case atStart => exact ⟨0, Nat.zero_le _, rfl, Lib.hid (Kd.R_nil _ _ _ _ _), HR2, Lib.hid (Below.refl _ _)⟩
      case round =>
        obtain ⟨k, hk, rfl, RK, TK, BK⟩ := hrel
        by_cases hlt : k < xs.length
        · have hCd : Kd.C k42 wr A d.length d := (Kd.R_reads' TK.out).2.2
          obtain ⟨ad, cs, e0, hK, hcs⟩ := at_row hCd z42 k (by omega)
          subst e0
          obtain rfl := k42_open hK
          clear hK hCd
          have hsc := Lib.hid (map_take_succ toRow d k (by omega))
          have hln := map_take_len toRow d k (by omega)
          generalize (d.take k).map toRow = os at *
          have HCS := Lib.hid hcs
          clear hcs
          have hsz3 := BK.out.size
          go_wp2_with (first
            | ((with_reducible refine gate_dst (N := 84) rfl ?_); refine load_event (N := 84) rfl rfl rfl rfl _ _ HCS.out Tryd.underlying129 rfl (by kernel_rfl) ?_)
            | ((with_reducible refine gate_builtin (b := .append) (xs := #[.tmp 85, .tmp 100]) rfl ?_); at_builtin; refine hold ?_))
          refine Lib.hid ?_
          have Ba := (Below.refl wr.heap.size wr).alloc (Nat.le_refl _) (.cells #[.int .i64 d[k].f0, .int .i64 d[k].f1, .int .i64 d[k].f2, .int .i64 d[k].f3, .int .i64 d[k].f4] 129)
          have hzb : (wr.alloc (.cells #[.int .i64 d[k].f0, .int .i64 d[k].f1, .int .i64 d[k].f2, .int .i64 d[k].f3, .int .i64 d[k].f4] 129)).heap.size = wr.heap.size + 1 := by simp [go_sem]
          generalize wr.alloc (.cells #[.int .i64 d[k].f0, .int .i64 d[k].f1, .int .i64 d[k].f2, .int .i64 d[k].f3, .int .i64 d[k].f4] 129) = wb at *
          have hsb := Ba.size
          refine Kd.R_append k84 (w0 := wb) w2.heap.size rfl (.tmp 85) (.tmp 100) 62 84 (.agg #[.int .i64 0, .int .i64 0, .int .i64 0, .int .i64 0, .int .i64 0]) 40 rfl Tryd.underlying62 info84 rfl (Nat.succ_pos 4) (by omega) _ os (toRow d[k]) [.int .i64 d[k].f0, .int .i64 d[k].f1, .int .i64 d[k].f2, .int .i64 d[k].f3, .int .i64 d[k].f4] (fun _ => True) (fun _ => False) rfl (by rw [hzb]; rfl) (k84_mkM _ _ _ (toRow d[k])) (fun _ hk => hk.elim) (fun _ _ => trivial) (Kd.R_below RK.out Ba) (Below.refl _ _) (by omega) (by omega) ?_
          intro v6 w6 R6 _ hg6 _
          have T6 : TR w6 (w.heap.size + 1 + 1) (.slice (some ad) xs.length cap) d := Kd.R_over (Kd.R_below TK.out Ba) (Kd.R_below RK.out Ba) (by decide) hg6
          have B6 : Below w2.heap.size w2 w6 := (BK.out.trans (Ba.mono (by omega))).grown hg6 (by omega) (fun k e => Kd.R_base RK.out k e)
          clear RK TK BK Ba hg6 HCS
          replace R6 := Lib.hid R6
          replace T6 := Lib.hid T6
          replace B6 := Lib.hid B6
          go_wp2
          go_roundw
          case rel => exact ⟨k + 1, by omega, by go_num, by rw [hsc.out]; exact R6, T6, B6⟩
          case measure => simp [intOf]; omega
        · have hkl : k = xs.length := by omega
          subst hkl
          rw [show d.take xs.length = d by rw [← hdl, List.take_length]] at RK
          go_wp2
          go_ret
          exact ⟨_, d, rfl, by rw [HX.out]; exact HP.out, HWW.out, Kd.R_lower RK.out (by omega), HB2.out.trans (BK.out.mono (by have := HB2.out.size; omega))⟩
#print axioms Stock_any
end Go.Proofs.YtnhflmihjegaiaaDoor
