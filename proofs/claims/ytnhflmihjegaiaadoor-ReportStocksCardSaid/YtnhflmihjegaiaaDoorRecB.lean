/- report.Recovery, whatever the memory: the walk. -/
import Derived.Test.YtnhflmihjegaiaaDoorRecA
import Derived.Deep.RegionHeld3
import Derived.Deep.AppendLies
import Derived.Laws.CopyOwn
namespace Go.Proofs.YtnhflmihjegaiaaDoor
open Go.RowKit Go.Proofs.YtnhflmihjegaiaaDoorW.PrintWords P
set_option linter.unusedSimpArgs false
set_option linter.unusedVariables false

section
variable {ops : Array Oper} {rest : List Oper} {o : Oper} {a : Act} {W : World} {Q : Exit → Act → World → Prop}
theorem row_event {t s u g : Nat} {t0 : TypeId} {old cells : Array Value} (hgd : o.guard = none) (hN : o.dst = none) (hop : o.op = .store t (.tmp s) (.tmp u)) (hs : a.eval (.tmp s) = .pointer (some ⟨g, 0, none⟩)) (hv : a.eval (.tmp u) = .agg cells)
    (hg : W.heap[g]? = some (.cells old t0 (0, 0))) (hi : (Tryd.prog.info? t).map (·.size) = some cells.size) (ho : old.size = cells.size) (h1 : cells.all (·.oneCell') = true)
    (h : ∀ w', w'.heap[g]? = some (.cells cells t0 (0, 0)) → (∀ k, k ≠ g → w'.heap[k]? = W.heap[k]?) → (∀ B w0, Below B w0 W → B ≤ g → Below B w0 w') → w'.heap.size = W.heap.size → wpList Tryd.prog ops Q rest a w') : wpList Tryd.prog ops Q (o :: rest) a W := by
  refine store_event (w1 := W.setRow g cells) hgd (t := t) (p := s) (v := .tmp u) hop hN ?_ ?_
  · simp only [execOp, hop, hs, hv, Instr.storeAt, Instr.sureAddr, Sem.run_bind, Sem.run_pure, Result.andThen_ok, run_storeVar_row W g t0 t old cells hg hi ho h1]
  · rintro w' rfl
    exact h _ (setRow_heap _ _ _ _ _ _ hg) (fun k hk => setRow_other _ _ _ _ hk) (fun B w0 hb hB => below_setRow hb hB _) (by simp)
end
theorem info42 : (Tryd.prog.info? 42).map (fun i => (i.zero, i.size, i.bytes)) = some (some (.agg #[.int .i64 0, .int .i64 0, .int .i64 0, .int .i64 0, .int .i64 0]), 5, 40) := by kernel_rfl
def yc (s : S42) : Array Value := #[.int .i64 s.f0, .int .i64 s.f1, .int .i64 s.f2, .int .i64 s.f3, .int .i64 s.f4]
/-- The memory of a round: the result's and the sum's variables. -/
structure RI (w wr : World) (s : S42) : Prop where
  b4 : wr.heap[w.heap.size + 1]? = some (.cells #[.int .i64 0, .int .i64 0, .int .i64 0, .int .i64 0, .int .i64 0] 42 (0, 0))
  b6 : wr.heap[w.heap.size + 1 + 1]? = some (.cells #[.int .i64 s.f0, .int .i64 s.f1, .int .i64 s.f2, .int .i64 s.f3, .int .i64 s.f4] 42 (0, 0))
  bl : Below w.heap.size w wr
theorem RI.below {w wr w1 : World} {s : S42} (h : RI w wr s) (hb : Below wr.heap.size wr w1) : RI w w1 s := ⟨blk_below h.b4 hb, blk_below h.b6 hb, h.bl.trans (hb.mono h.bl.size)⟩
theorem RI.start (w : World) (cs : Array Value) : RI w (((w.alloc (.cells cs 32)).alloc (.cells #[.int .i64 0, .int .i64 0, .int .i64 0, .int .i64 0, .int .i64 0] 42)).alloc (.cells #[.int .i64 0, .int .i64 0, .int .i64 0, .int .i64 0, .int .i64 0] 42)) zeroY := by
  have s1 : (w.alloc (.cells cs 32)).heap.size = w.heap.size + 1 := by simp [go_sem]
  have s2 : ((w.alloc (.cells cs 32)).alloc (.cells #[.int .i64 0, .int .i64 0, .int .i64 0, .int .i64 0, .int .i64 0] 42)).heap.size = w.heap.size + 1 + 1 := by simp [go_sem]
  refine ⟨blk_alloc (by rw [← s1]; exact blk_new _ _) _, by rw [← s2]; exact blk_new _ _, (((Below.refl w.heap.size w).alloc (by omega) _).alloc (by omega) _).alloc (by omega) _⟩

set_option maxRecDepth 100000 in
set_option maxHeartbeats 4000000 in
theorem Recovery_any (w : World) (a0 a6 a7 : Int) (sp : ByteArray) (A1 A2 A3 A4 A5 A8 A9 : Option Addr) (n1 n3 n4 n5 n8 n9 c1 c2 c3 c4 c5 c8 c9 : Nat) (l : List S111) (hC : Kd.C k111 w A2 l.length l) (hl : l.length ≤ 100000) :
    Calls Tryd.prog 11 #[.agg #[.int .i64 a0, .slice A1 n1 c1, .slice A2 l.length c2, .slice A3 n3 c3, .slice A4 n4 c4, .slice A5 n5 c5, .int .i64 a6, .int .i64 a7, .slice A8 n8 c8, .slice A9 n9 c9], .string sp] w fun e w' =>
      e = .returned (.tuple #[.agg #[.int .i64 (recF l sp).1.f0, .int .i64 (recF l sp).1.f1, .int .i64 (recF l sp).1.f2, .int .i64 (recF l sp).1.f3, .int .i64 (recF l sp).1.f4], .int .i64 (recF l sp).2]) ∧ Below w.heap.size w w' := by
  have hu32 := Tryd.underlying32
  have hu42 := Tryd.underlying42
  have hu111 := Tryd.underlying111
  have HS := Lib.hid (RI.start w #[.int .i64 a0, .slice A1 n1 c1, .slice A2 l.length c2, .slice A3 n3 c3, .slice A4 n4 c4, .slice A5 n5 c5, .int .i64 a6, .int .i64 a7, .slice A8 n8 c8, .slice A9 n9 c9])
  go_enter Tryd.func11, Tryd.ntmps11
  go_wp2_with fail
  generalize (((w.alloc (.cells #[.int .i64 a0, .slice A1 n1 c1, .slice A2 l.length c2, .slice A3 n3 c3, .slice A4 n4 c4, .slice A5 n5 c5, .int .i64 a6, .int .i64 a7, .slice A8 n8 c8, .slice A9 n9 c9] 32)).alloc (.cells #[.int .i64 0, .int .i64 0, .int .i64 0, .int .i64 0, .int .i64 0] 42)).alloc (.cells #[.int .i64 0, .int .i64 0, .int .i64 0, .int .i64 0, .int .i64 0] 42)) = w0 at *
  have HC := Lib.hid hC
  have HR := Lib.hid (rfl : recF l sp = recGo sp (l.drop 0) zeroY)
  clear hC
  go_loopw [14] (fun i wr => ∃ k : Nat, k ≤ l.length ∧ i = .int .i64 k ∧ ∃ s : S42, Hid (RI w wr s) ∧ Hid (recF l sp = recGo sp (l.drop k) s)) (fun i _ => l.length - (intOf i).toNat)
  case atStart => exact ⟨0, Nat.zero_le _, rfl, zeroY, HS, HR⟩
  case round =>
    obtain ⟨k, hk, rfl, s, M, HF⟩ := hrel
    by_cases hlt : k < l.length
    · obtain ⟨ad, cs, e0, hcs, hcc⟩ := log_at (Kd.C_below HC.out M.out.bl) k hlt
      subst e0
      have HSC := Lib.hid (recGo_step sp l k hlt s)
      generalize l[k] = g at *
      have HCS := Lib.hid hcs
      have HCC := Lib.hid hcc
      clear hcs hcc
      cases hf5 : g.f5 with
      | false =>
        have hsk := Lib.hid (show skipL sp g = true by unfold skipL; rw [hf5]; rfl)
        go_wp2_with (first
                    | ((with_reducible refine gate_dst (N := 17) rfl ?_); refine load_event (N := 17) rfl rfl rfl rfl cs _ HCS.out Tryd.underlying111 rfl (by rw [HCC.out.len]; kernel_rfl) ?_)
                    | ((with_reducible refine gate_dst (N := 8) rfl ?_); refine copy_event rfl rfl rfl rfl rfl rfl info111 cs rfl rfl HCC.out.len.symm HCC.out.one ?_; intro xb w2 hxb hbk B2 hz2; subst hxb; have M2 := Lib.hid (M.out.below B2); have k5 := (blk_cell hbk 5).trans ((List.getElem?_toArray).trans HCC.out.c5); have k2 := (blk_cell hbk 2).trans ((List.getElem?_toArray).trans HCC.out.c2); clear M; rw [hf5] at k5))
        go_roundw
        case rel => exact ⟨k + 1, by omega, by go_num, s, M2, Lib.hid (by rw [HF.out, HSC.out, if_pos hsk.out])⟩
        case measure => simp [intOf]; omega
      | true =>
        by_cases hs1 : sp.toList = []
        ·
          have hsk := Lib.hid (show ¬ skipL sp g = true by unfold skipL; rw [hf5, hs1]; exact Bool.false_ne_true)
          go_wp2_with (first
                      | ((with_reducible refine gate_dst (N := 17) rfl ?_); refine load_event (N := 17) rfl rfl rfl rfl cs _ HCS.out Tryd.underlying111 rfl (by rw [HCC.out.len]; kernel_rfl) ?_)
                      | ((with_reducible refine gate_dst (N := 8) rfl ?_); refine copy_event rfl rfl rfl rfl rfl rfl info111 cs rfl rfl HCC.out.len.symm HCC.out.one ?_; intro xb w2 hxb hbk B2 hz2; subst hxb; have M2 := Lib.hid (M.out.below B2); have k5 := (blk_cell hbk 5).trans ((List.getElem?_toArray).trans HCC.out.c5); have k2 := (blk_cell hbk 2).trans ((List.getElem?_toArray).trans HCC.out.c2); clear M; rw [hf5] at k5; have hsz := M2.out.bl.size; have y0 := (blk_cell hbk 14).trans ((List.getElem?_toArray).trans HCC.out.c14); have y1 := (blk_cell hbk 15).trans ((List.getElem?_toArray).trans HCC.out.c15); have y2 := (blk_cell hbk 16).trans ((List.getElem?_toArray).trans HCC.out.c16); have y3 := (blk_cell hbk 17).trans ((List.getElem?_toArray).trans HCC.out.c17); have y4 := (blk_cell hbk 18).trans ((List.getElem?_toArray).trans HCC.out.c18); have t0 : w2.cell? ⟨w.heap.size + 1 + 1, 0, none⟩ = some (.int .i64 s.f0) := blk_cell M2.out.b6 0; have t1 : w2.cell? ⟨w.heap.size + 1 + 1, 1, none⟩ = some (.int .i64 s.f1) := blk_cell M2.out.b6 1; have t2 : w2.cell? ⟨w.heap.size + 1 + 1, 2, none⟩ = some (.int .i64 s.f2) := blk_cell M2.out.b6 2; have t3 : w2.cell? ⟨w.heap.size + 1 + 1, 3, none⟩ = some (.int .i64 s.f3) := blk_cell M2.out.b6 3; have t4 : w2.cell? ⟨w.heap.size + 1 + 1, 4, none⟩ = some (.int .i64 s.f4) := blk_cell M2.out.b6 4)
                      | (go_at_call 12; refine hold ?_))
          refine Lib.hid ?_
          refine (Add_any s g.f9 _).mono ?_
          rintro e w3 ⟨rfl, B3⟩
          have M3 := Lib.hid (M2.out.below B3)
          have hsz3 := M3.out.bl.size
          clear M2 B3 t0 t1 t2 t3 t4 y0 y1 y2 y3 y4 k2 k5 hbk HCS HCC
          generalize addY s g.f9 = nx at *
          obtain ⟨n, er⟩ := nx
          by_cases he : er = 0
          · have HE := Lib.hid he
            have he2 : (er != 0) = false := by simp [he]
            clear he
            go_wp2_with (first
              | ((with_reducible refine gate_dst (N := 9) rfl ?_); refine copy_event rfl rfl rfl rfl rfl rfl info42 [.int .i64 n.f0, .int .i64 n.f1, .int .i64 n.f2, .int .i64 n.f3, .int .i64 n.f4] rfl rfl rfl (by simp [Value.oneCell']) ?_; intro xb4 w4 hxb4 hbk4 B4 hz4; subst hxb4; have M4 := Lib.hid (M3.out.below B4); clear M3; have q0 : w4.cell? ⟨w3.heap.size, 0, none⟩ = some (.int .i64 n.f0) := blk_cell hbk4 0; have q1 : w4.cell? ⟨w3.heap.size, 1, none⟩ = some (.int .i64 n.f1) := blk_cell hbk4 1; have q2 : w4.cell? ⟨w3.heap.size, 2, none⟩ = some (.int .i64 n.f2) := blk_cell hbk4 2; have q3 : w4.cell? ⟨w3.heap.size, 3, none⟩ = some (.int .i64 n.f3) := blk_cell hbk4 3; have q4 : w4.cell? ⟨w3.heap.size, 4, none⟩ = some (.int .i64 n.f4) := blk_cell hbk4 4)
              | (refine row_event (t := 42) (s := 6) (u := 42) rfl rfl rfl rfl rfl M4.out.b6 (by kernel_rfl) rfl (by simp [Value.oneCell']) ?_; intro w5 h5 hne5 hbl5 hz5; have M5 : Hid (RI w w5 n) := Lib.hid ⟨(hne5 _ (by omega)).trans M4.out.b4, h5, hbl5 _ _ M4.out.bl (by omega)⟩; clear M4 h5 hne5 hbl5 hz5))
            go_roundw
            case rel => exact ⟨k + 1, by omega, by go_num, n, M5, Lib.hid (by rw [HF.out, HSC.out, if_neg hsk.out, if_neg (fun h => h HE.out)])⟩
            case measure => simp [intOf]; omega
          · have HE := Lib.hid he
            have he2 : (er != 0) = true := by simp [he]
            clear he
            go_wp2_with (first
              | ((with_reducible refine gate_dst (N := 9) rfl ?_); refine copy_event rfl rfl rfl rfl rfl rfl info42 [.int .i64 n.f0, .int .i64 n.f1, .int .i64 n.f2, .int .i64 n.f3, .int .i64 n.f4] rfl rfl rfl (by simp [Value.oneCell']) ?_; intro xb4 w4 hxb4 hbk4 B4 hz4; subst hxb4; have M4 := Lib.hid (M3.out.below B4); clear M3; have q0 : w4.cell? ⟨w3.heap.size, 0, none⟩ = some (.int .i64 n.f0) := blk_cell hbk4 0; have q1 : w4.cell? ⟨w3.heap.size, 1, none⟩ = some (.int .i64 n.f1) := blk_cell hbk4 1; have q2 : w4.cell? ⟨w3.heap.size, 2, none⟩ = some (.int .i64 n.f2) := blk_cell hbk4 2; have q3 : w4.cell? ⟨w3.heap.size, 3, none⟩ = some (.int .i64 n.f3) := blk_cell hbk4 3; have q4 : w4.cell? ⟨w3.heap.size, 4, none⟩ = some (.int .i64 n.f4) := blk_cell hbk4 4)
              | (refine row_event (t := 42) (s := 4) (u := 40) rfl rfl rfl rfl rfl M4.out.b4 (by kernel_rfl) rfl (by simp [Value.oneCell']) ?_; intro w5 h5 hne5 hbl5 hz5; have H5 := Lib.hid h5; have HB5 := Lib.hid (hbl5 _ _ M4.out.bl (by omega)); clear M4 h5 hne5 hbl5 hz5))
            refine bodyPost_ret (results_ct rfl _ _ (w.heap.size + 1) 42 _ (0, 0) _ rfl H5.out Tryd.underlying42 rfl (by kernel_rfl)) rfl ?_
            exact ⟨by rw [HF.out, HSC.out, if_neg hsk.out, if_pos HE.out]; rfl, HB5.out⟩
        · have hs1' : sp.toList.isEmpty = false := by cases h : sp.toList with | nil => exact absurd h hs1 | cons a b => rfl
          by_cases hs2 : g.f2.toList = sp.toList
          · have hs2' : (g.f2.toList == sp.toList) = true := beq_iff_eq.mpr hs2
            have hsk := Lib.hid (show ¬ skipL sp g = true by unfold skipL; simp [hf5, hs1, hs2])
            go_wp2_with (first
                        | ((with_reducible refine gate_dst (N := 17) rfl ?_); refine load_event (N := 17) rfl rfl rfl rfl cs _ HCS.out Tryd.underlying111 rfl (by rw [HCC.out.len]; kernel_rfl) ?_)
                        | ((with_reducible refine gate_dst (N := 8) rfl ?_); refine copy_event rfl rfl rfl rfl rfl rfl info111 cs rfl rfl HCC.out.len.symm HCC.out.one ?_; intro xb w2 hxb hbk B2 hz2; subst hxb; have M2 := Lib.hid (M.out.below B2); have k5 := (blk_cell hbk 5).trans ((List.getElem?_toArray).trans HCC.out.c5); have k2 := (blk_cell hbk 2).trans ((List.getElem?_toArray).trans HCC.out.c2); clear M; rw [hf5] at k5; have hsz := M2.out.bl.size; have y0 := (blk_cell hbk 14).trans ((List.getElem?_toArray).trans HCC.out.c14); have y1 := (blk_cell hbk 15).trans ((List.getElem?_toArray).trans HCC.out.c15); have y2 := (blk_cell hbk 16).trans ((List.getElem?_toArray).trans HCC.out.c16); have y3 := (blk_cell hbk 17).trans ((List.getElem?_toArray).trans HCC.out.c17); have y4 := (blk_cell hbk 18).trans ((List.getElem?_toArray).trans HCC.out.c18); have t0 : w2.cell? ⟨w.heap.size + 1 + 1, 0, none⟩ = some (.int .i64 s.f0) := blk_cell M2.out.b6 0; have t1 : w2.cell? ⟨w.heap.size + 1 + 1, 1, none⟩ = some (.int .i64 s.f1) := blk_cell M2.out.b6 1; have t2 : w2.cell? ⟨w.heap.size + 1 + 1, 2, none⟩ = some (.int .i64 s.f2) := blk_cell M2.out.b6 2; have t3 : w2.cell? ⟨w.heap.size + 1 + 1, 3, none⟩ = some (.int .i64 s.f3) := blk_cell M2.out.b6 3; have t4 : w2.cell? ⟨w.heap.size + 1 + 1, 4, none⟩ = some (.int .i64 s.f4) := blk_cell M2.out.b6 4)
                        | (go_at_call 12; refine hold ?_))
            refine Lib.hid ?_
            refine (Add_any s g.f9 _).mono ?_
            rintro e w3 ⟨rfl, B3⟩
            have M3 := Lib.hid (M2.out.below B3)
            have hsz3 := M3.out.bl.size
            clear M2 B3 t0 t1 t2 t3 t4 y0 y1 y2 y3 y4 k2 k5 hbk HCS HCC
            generalize addY s g.f9 = nx at *
            obtain ⟨n, er⟩ := nx
            by_cases he : er = 0
            · have HE := Lib.hid he
              have he2 : (er != 0) = false := by simp [he]
              clear he
              go_wp2_with (first
                | ((with_reducible refine gate_dst (N := 9) rfl ?_); refine copy_event rfl rfl rfl rfl rfl rfl info42 [.int .i64 n.f0, .int .i64 n.f1, .int .i64 n.f2, .int .i64 n.f3, .int .i64 n.f4] rfl rfl rfl (by simp [Value.oneCell']) ?_; intro xb4 w4 hxb4 hbk4 B4 hz4; subst hxb4; have M4 := Lib.hid (M3.out.below B4); clear M3; have q0 : w4.cell? ⟨w3.heap.size, 0, none⟩ = some (.int .i64 n.f0) := blk_cell hbk4 0; have q1 : w4.cell? ⟨w3.heap.size, 1, none⟩ = some (.int .i64 n.f1) := blk_cell hbk4 1; have q2 : w4.cell? ⟨w3.heap.size, 2, none⟩ = some (.int .i64 n.f2) := blk_cell hbk4 2; have q3 : w4.cell? ⟨w3.heap.size, 3, none⟩ = some (.int .i64 n.f3) := blk_cell hbk4 3; have q4 : w4.cell? ⟨w3.heap.size, 4, none⟩ = some (.int .i64 n.f4) := blk_cell hbk4 4)
                | (refine row_event (t := 42) (s := 6) (u := 42) rfl rfl rfl rfl rfl M4.out.b6 (by kernel_rfl) rfl (by simp [Value.oneCell']) ?_; intro w5 h5 hne5 hbl5 hz5; have M5 : Hid (RI w w5 n) := Lib.hid ⟨(hne5 _ (by omega)).trans M4.out.b4, h5, hbl5 _ _ M4.out.bl (by omega)⟩; clear M4 h5 hne5 hbl5 hz5))
              go_roundw
              case rel => exact ⟨k + 1, by omega, by go_num, n, M5, Lib.hid (by rw [HF.out, HSC.out, if_neg hsk.out, if_neg (fun h => h HE.out)])⟩
              case measure => simp [intOf]; omega
            · have HE := Lib.hid he
              have he2 : (er != 0) = true := by simp [he]
              clear he
              go_wp2_with (first
                | ((with_reducible refine gate_dst (N := 9) rfl ?_); refine copy_event rfl rfl rfl rfl rfl rfl info42 [.int .i64 n.f0, .int .i64 n.f1, .int .i64 n.f2, .int .i64 n.f3, .int .i64 n.f4] rfl rfl rfl (by simp [Value.oneCell']) ?_; intro xb4 w4 hxb4 hbk4 B4 hz4; subst hxb4; have M4 := Lib.hid (M3.out.below B4); clear M3; have q0 : w4.cell? ⟨w3.heap.size, 0, none⟩ = some (.int .i64 n.f0) := blk_cell hbk4 0; have q1 : w4.cell? ⟨w3.heap.size, 1, none⟩ = some (.int .i64 n.f1) := blk_cell hbk4 1; have q2 : w4.cell? ⟨w3.heap.size, 2, none⟩ = some (.int .i64 n.f2) := blk_cell hbk4 2; have q3 : w4.cell? ⟨w3.heap.size, 3, none⟩ = some (.int .i64 n.f3) := blk_cell hbk4 3; have q4 : w4.cell? ⟨w3.heap.size, 4, none⟩ = some (.int .i64 n.f4) := blk_cell hbk4 4)
                | (refine row_event (t := 42) (s := 4) (u := 40) rfl rfl rfl rfl rfl M4.out.b4 (by kernel_rfl) rfl (by simp [Value.oneCell']) ?_; intro w5 h5 hne5 hbl5 hz5; have H5 := Lib.hid h5; have HB5 := Lib.hid (hbl5 _ _ M4.out.bl (by omega)); clear M4 h5 hne5 hbl5 hz5))
              refine bodyPost_ret (results_ct rfl _ _ (w.heap.size + 1) 42 _ (0, 0) _ rfl H5.out Tryd.underlying42 rfl (by kernel_rfl)) rfl ?_
              exact ⟨by rw [HF.out, HSC.out, if_neg hsk.out, if_pos HE.out]; rfl, HB5.out⟩
          · have hs2' : (g.f2.toList == sp.toList) = false := beq_eq_false_iff_ne.mpr hs2
            have hsk := Lib.hid (show skipL sp g = true by unfold skipL; simp [hf5, hs1, hs2])
            go_wp2_with (first
                        | ((with_reducible refine gate_dst (N := 17) rfl ?_); refine load_event (N := 17) rfl rfl rfl rfl cs _ HCS.out Tryd.underlying111 rfl (by rw [HCC.out.len]; kernel_rfl) ?_)
                        | ((with_reducible refine gate_dst (N := 8) rfl ?_); refine copy_event rfl rfl rfl rfl rfl rfl info111 cs rfl rfl HCC.out.len.symm HCC.out.one ?_; intro xb w2 hxb hbk B2 hz2; subst hxb; have M2 := Lib.hid (M.out.below B2); have k5 := (blk_cell hbk 5).trans ((List.getElem?_toArray).trans HCC.out.c5); have k2 := (blk_cell hbk 2).trans ((List.getElem?_toArray).trans HCC.out.c2); clear M; rw [hf5] at k5))
            go_roundw
            case rel => exact ⟨k + 1, by omega, by go_num, s, M2, Lib.hid (by rw [HF.out, HSC.out, if_pos hsk.out])⟩
            case measure => simp [intOf]; omega
    · have hkl : k = l.length := by omega
      subst hkl
      have t0 : wr.cell? ⟨w.heap.size + 1 + 1, 0, none⟩ = some (.int .i64 s.f0) := blk_cell M.out.b6 0
      have t1 : wr.cell? ⟨w.heap.size + 1 + 1, 1, none⟩ = some (.int .i64 s.f1) := blk_cell M.out.b6 1
      have t2 : wr.cell? ⟨w.heap.size + 1 + 1, 2, none⟩ = some (.int .i64 s.f2) := blk_cell M.out.b6 2
      have t3 : wr.cell? ⟨w.heap.size + 1 + 1, 3, none⟩ = some (.int .i64 s.f3) := blk_cell M.out.b6 3
      have t4 : wr.cell? ⟨w.heap.size + 1 + 1, 4, none⟩ = some (.int .i64 s.f4) := blk_cell M.out.b6 4
      have HF2 := Lib.hid (show recF l sp = (s, 0) by rw [HF.out, List.drop_length]; rfl)
      clear HF
      go_wp2_with (refine row_event (t := 42) (s := 4) (u := 44) rfl rfl rfl rfl rfl M.out.b4 (by kernel_rfl) rfl (by simp [Value.oneCell']) ?_; intro w5 h5 hne5 hbl5 hz5; have H5 := Lib.hid h5; have HB5 := Lib.hid (hbl5 _ _ M.out.bl (by omega)); clear M h5 hne5 hbl5 hz5)
      refine bodyPost_ret (results_ct rfl _ _ (w.heap.size + 1) 42 _ (0, 0) _ rfl H5.out Tryd.underlying42 rfl (by kernel_rfl)) rfl ?_
      exact ⟨by rw [HF2.out]; rfl, HB5.out⟩
#print axioms Recovery_any
end Go.Proofs.YtnhflmihjegaiaaDoor
