/- report.Text, whatever the memory: the walk. -/
import Derived.Test.YtnhflmihjegaiaaDoorTextA
namespace Go.Proofs.YtnhflmihjegaiaaDoor
open Go.RowKit Go.Sort Go.Shelf Go.Maps Go.Proofs.YtnhflmihjegaiaaDoorW.PrintWords P
set_option linter.unusedSimpArgs false
set_option linter.unusedVariables false

theorem fits_wrap (n : Int) : fits (wrap64 n) := by unfold fits wrap64; omega
theorem fits_wf {n : Int} (h : (Lit.int .i64 n).wf = true) : fits n := by
  simp [Lit.wf] at h
  exact ⟨h.1, h.2⟩
theorem tallyP_fits {xs : List S42} {x : S42} {v : Int} (h : ∀ y ∈ xs, fits y.f3 ∧ fits y.f4) : ∀ y ∈ tallyP xs x v, fits y.f3 ∧ fits y.f4 := by
  unfold tallyP
  split
  · rename_i i hi
    intro y hy
    rcases List.mem_or_eq_of_mem_set hy with hy | rfl
    · exact h y hy
    · exact ⟨fits_wrap _, fits_wrap _⟩
  · intro y hy
    rcases List.mem_append.1 hy with hy | hy
    · exact h y hy
    · rw [List.mem_singleton.1 hy]
      exact ⟨fits_wrap _, fits_wrap _⟩
theorem stockK_fits (l : List S100) (place : Int) : ∀ k, ∀ y ∈ stockK l place k, fits y.f3 ∧ fits y.f4
  | 0 => by simp [stockK]
  | k + 1 => by
    have := stockK_fits l place k
    rcases Nat.lt_or_ge k l.length with h | h
    · rw [stockK_succ l place k h]
      split
      · exact tallyP_fits this
      · exact this
    · have e : stockK l place (k + 1) = stockK l place k := by unfold stockK; rw [List.take_of_length_le (by omega), List.take_of_length_le (by omega)]
      rw [e]; exact this
theorem rows_fit {l : List S100} {place : Int} (hw : ∀ x ∈ l, WfK (itemT x)) {d : List S42} (hp : d.Perm (stockK l place l.length)) : ∀ r ∈ d.map toRow, RowFits r := by
  intro r hr
  obtain ⟨x, hx, rfl⟩ := List.mem_map.1 hr
  have hm := hp.mem_iff.1 hx
  have h1 := stockK_wf l place hw _ x hm
  have h2 := stockK_fits l place _ x hm
  exact ⟨fits_wf h1.2.1, fits_wf h1.2.2, h2.1, h2.2⟩

theorem addInts_take (t : ByteArray) : ∀ (ns : List Int) (q : Nat) (n : Int), ns[q]? = some n → addInts t (ns.take (q + 1)) = addInts t (ns.take q) ++ ((⟨#[32]⟩ : ByteArray) ++ dec n)
  | [], q, n, h => by simp at h
  | m :: r, 0, n, h => by
    simp at h
    subst h
    simp [addInts]
  | m :: r, q + 1, n, h => by
    simp only [List.take_succ_cons, addInts]
    exact addInts_take _ r q n (by simpa using h)
theorem addInts_size (t : ByteArray) : ∀ (ns : List Int), (∀ n ∈ ns, fits n) → (addInts t ns).size ≤ t.size + 22 * ns.length
  | [], _ => by simp [addInts]
  | n :: r, h => by
    have h1 := dec_size (h n (by simp))
    have ih := addInts_size (t ++ ((⟨#[32]⟩ : ByteArray) ++ dec n)) r (fun m hm => h m (by simp [hm]))
    have e1 : (⟨#[32]⟩ : ByteArray).size = 1 := rfl
    simp only [ByteArray.size_append, e1] at ih
    simp only [addInts, List.length_cons]
    omega

set_option maxRecDepth 100000 in
set_option maxHeartbeats 4000000 in
theorem Text_any (w : World) (ht : Tab w) (c : List S60) (B0 B1 B2 B3 : Option Addr) (d0 m1 d1 m2 d2 m3 d3 : Nat) (b4 b5 b6 b7 b8 b9 b10 b11 b12 : Int) (hCc : Kd.C k60 w B0 c.length c) (hcs : ∀ x ∈ c, x.f0.size ≤ 1000)
    (a0 a6 a7 place : Int) (A1 A2 A3 A4 A5 A8 A9 : Option Addr) (n1 n2 n4 n5 n8 n9 c1 c2 c3 c4 c5 c8 c9 : Nat) (l : List S100) (hC : Kd.C k100 w A3 l.length l) (hc : l.length ≤ c3) (hl : l.length ≤ 100000) (hw : ∀ x ∈ l, WfK (itemT x)) :
    Calls Tryd.prog 18 #[.agg #[.slice B0 c.length d0, .slice B1 m1 d1, .slice B2 m2 d2, .slice B3 m3 d3, .int .i64 b4, .int .i64 b5, .int .i64 b6, .int .i64 b7, .int .i64 b8, .int .i64 b9, .int .i64 b10, .int .i64 b11, .int .i64 b12],
      .agg #[.int .i64 a0, .slice A1 n1 c1, .slice A2 n2 c2, .slice A3 l.length c3, .slice A4 n4 c4, .slice A5 n5 c5, .int .i64 a6, .int .i64 a7, .slice A8 n8 c8, .slice A9 n9 c9], .int .i64 place] w fun e w' =>
      ∃ d : List S42, d.Perm (stockK l place l.length) ∧ d.Pairwise (fun a b => ¬ ltT b a) ∧ e = .returned (.string (textK c (d.map toRow) (d.map toRow).length)) ∧ Below w.heap.size w w' := by
  have hu75 := Tryd.underlying75
  have hu32 := Tryd.underlying32
  have hu84 := Tryd.underlying84
  have HB0 := Lib.hid (((Below.refl w.heap.size w).alloc (Nat.le_refl _) (.cells #[.slice B0 c.length d0, .slice B1 m1 d1, .slice B2 m2 d2, .slice B3 m3 d3, .int .i64 b4, .int .i64 b5, .int .i64 b6, .int .i64 b7, .int .i64 b8, .int .i64 b9, .int .i64 b10, .int .i64 b11, .int .i64 b12] 75)).alloc (by simp [go_sem]) (.cells #[.int .i64 a0, .slice A1 n1 c1, .slice A2 n2 c2, .slice A3 l.length c3, .slice A4 n4 c4, .slice A5 n5 c5, .int .i64 a6, .int .i64 a7, .slice A8 n8 c8, .slice A9 n9 c9] 32))
  have HK0 : Hid (((w.alloc (.cells #[.slice B0 c.length d0, .slice B1 m1 d1, .slice B2 m2 d2, .slice B3 m3 d3, .int .i64 b4, .int .i64 b5, .int .i64 b6, .int .i64 b7, .int .i64 b8, .int .i64 b9, .int .i64 b10, .int .i64 b11, .int .i64 b12] 75)).alloc (.cells #[.int .i64 a0, .slice A1 n1 c1, .slice A2 n2 c2, .slice A3 l.length c3, .slice A4 n4 c4, .slice A5 n5 c5, .int .i64 a6, .int .i64 a7, .slice A8 n8 c8, .slice A9 n9 c9] 32)).cell? ⟨w.heap.size, 0, none⟩ = some (.slice B0 c.length d0)) := Lib.hid ((blk_cell (blk_alloc (blk_new _ _) _) 0).trans rfl)
  have HC := Lib.hid (Kd.C_below hC HB0.out)
  have HCc := Lib.hid (Kd.C_below hCc HB0.out)
  have HT := Lib.hid (ht.below HB0.out (Nat.le_refl _))
  have HW := Lib.hid hw
  have HN := Lib.hid hcs
  have hS := fun (W : World) (h : Kd.C k100 W A3 l.length l) => Stock_any W a0 a6 a7 place A1 A2 A3 A4 A5 A8 A9 n1 n2 n4 n5 n8 n9 c1 c2 c3 c4 c5 c8 c9 l h hc hl HW.out
  go_enter Tryd.func18, Tryd.ntmps18
  go_wp2_with (go_at_call 16; refine hold ?_)
  clear hC hCc ht hw hcs
  refine Lib.hid ?_
  refine (hS _ HC.out).mono ?_
  rintro e w2 ⟨v, d, rfl, hdp, hdw, R, B⟩
  have hRF := Lib.hid (rows_fit HW.out hdp)
  have hdl : (d.map toRow).length ≤ l.length := by rw [List.length_map, hdp.length_eq]; exact stockK_len l place _
  have HP := Lib.hid hdp
  have HWW := Lib.hid hdw
  clear hdp hdw hS
  generalize hrw : d.map toRow = rows at *
  have HX := Lib.hid hrw
  clear hrw
  obtain ⟨A, cap, hv, _⟩ := Kd.R_reads R
  subst hv
  have HR := Lib.hid R
  have HB2 := Lib.hid (HB0.out.trans (B.mono HB0.out.size))
  have HK2 := Lib.hid ((B.cell (World.block_lt_of_cell? _ _ HK0.out)).trans HK0.out)
  have HCc2 := Lib.hid (Kd.C_below HCc.out B)
  have HT2 := Lib.hid (HT.out.below B (Nat.le_refl _))
  have hsz2 := HB2.out.size
  clear R B HK0 HCc HT HC
  generalize (w.alloc (.cells #[.slice B0 c.length d0, .slice B1 m1 d1, .slice B2 m2 d2, .slice B3 m3 d3, .int .i64 b4, .int .i64 b5, .int .i64 b6, .int .i64 b7, .int .i64 b8, .int .i64 b9, .int .i64 b10, .int .i64 b11, .int .i64 b12] 75)).alloc (.cells #[.int .i64 a0, .slice A1 n1 c1, .slice A2 n2 c2, .slice A3 l.length c3, .slice A4 n4 c4, .slice A5 n5 c5, .int .i64 a6, .int .i64 a7, .slice A8 n8 c8, .slice A9 n9 c9] 32) = w1 at *
  go_wp2_with fail
  go_loopw [7, 17] (fun v i wr => ∃ k : Nat, k ≤ rows.length ∧ i = .int .i64 k ∧ v = .string (textK c rows k) ∧ Hid (Below w2.heap.size w2 wr)) (fun _ i _ => rows.length - (intOf i).toNat)
  case atStart => exact ⟨0, Nat.zero_le _, rfl, rfl, Lib.hid (Below.refl _ _)⟩
  case round =>
    obtain ⟨k, hk, rfl, rfl, HBr⟩ := hrel
    by_cases hlt : k < rows.length
    · obtain ⟨ad, cs, e0, hK, hcs⟩ := at_row (Kd.C_below (Kd.R_reads' HR.out).2.2 HBr.out) z84 k hlt
      subst e0
      obtain rfl := k84_open hK
      clear hK
      have HSC := Lib.hid (textK_succ c rows k hlt)
      have hts := textK_size HN.out rows hRF.out k
      have hrf := hRF.out _ (List.getElem_mem hlt)
      have HCS := Lib.hid hcs
      clear hcs
      generalize rows[k] = r at *
      generalize textK c rows k = t at *
      have hnm := nameOf_size HN.out r
      have HRF1 := Lib.hid hrf
      clear hrf
      by_cases h0 : 0 ≤ r.f0
      · by_cases h1 : r.f0 < (c.length : Int)
        · obtain ⟨j, hj⟩ : ∃ j : Nat, r.f0 = (j : Int) := ⟨r.f0.toNat, by omega⟩
          have hjl : j < c.length := by omega
          obtain ⟨pd, ps, e1, hpK, hps⟩ := at_row HCc2.out z60 j hjl
          subst e1
          obtain ⟨_, _, _, _, rfl, _⟩ := k60_open hpK
          have HP0 : Hid (w2.cell? (pd.add (j * 7)) = some (.string c[j].f0)) := Lib.hid (hps 0 _ rfl)
          clear hpK hps
          have hnn : nameOf c r = c[j].f0 := by
            unfold nameOf
            rw [if_pos ⟨h0, h1⟩, hj, Int.toNat_natCast, List.getD_eq_getElem?_getD, List.getElem?_eq_getElem hjl]
            rfl
          have HNN := Lib.hid hnn
          rw [hnn] at hnm
          clear hnn
          generalize c[j].f0 = nm at *
          go_wp2_with (first
            | ((with_reducible refine gate_dst (N := 20) rfl ?_); refine load_event (N := 20) rfl rfl rfl rfl _ _ HCS.out Tryd.underlying84 rfl (by kernel_rfl) ?_)
            | ((with_reducible refine gate_dst (N := 9) rfl ?_); refine copy_event rfl rfl rfl rfl rfl rfl info84 [.int .i64 r.f0, .int .i64 r.f1, .int .i64 r.f2, .int .i64 r.f3, .int .i64 r.f4] rfl rfl rfl (by simp [Value.oneCell']) ?_; intro xb w3 hxb hbk B3 hz3; subst hxb; have q0 : w3.cell? ⟨wr.heap.size, 0, none⟩ = some (.int .i64 r.f0) := blk_cell hbk 0; have q1 : w3.cell? ⟨wr.heap.size, 1, none⟩ = some (.int .i64 r.f1) := blk_cell hbk 1; have q2 : w3.cell? ⟨wr.heap.size, 2, none⟩ = some (.int .i64 r.f2) := blk_cell hbk 2; have q3 : w3.cell? ⟨wr.heap.size, 3, none⟩ = some (.int .i64 r.f3) := blk_cell hbk 3; have q4 : w3.cell? ⟨wr.heap.size, 4, none⟩ = some (.int .i64 r.f4) := blk_cell hbk 4; have HB3 := Lib.hid (HBr.out.trans (B3.mono HBr.out.size)); have k0 := (HB3.out.cell (World.block_lt_of_cell? _ _ HK2.out)).trans HK2.out; have p0 := (HB3.out.cell (World.block_lt_of_cell? _ _ HP0.out)).trans HP0.out; clear B3 hz3 hbk))
          have hz4 : (w3.alloc (.cells #[.int .i64 r.f1, .int .i64 r.f2, .int .i64 r.f3, .int .i64 r.f4] 3)).heap.size = w3.heap.size + 1 := by simp [go_sem]
          have hb4 : (w3.alloc (.cells #[.int .i64 r.f1, .int .i64 r.f2, .int .i64 r.f3, .int .i64 r.f4] 3)).heap[w3.heap.size]? = some (.cells #[.int .i64 r.f1, .int .i64 r.f2, .int .i64 r.f3, .int .i64 r.f4] 3 (0, 0)) := blk_new _ _
          have B4 := HB3.out.alloc HB3.out.size (.cells #[.int .i64 r.f1, .int .i64 r.f2, .int .i64 r.f3, .int .i64 r.f4] 3)
          have hsz3 := HB3.out.size
          have HB4 := Lib.hid B4
          have HBK4 := Lib.hid hb4
          have HZ4 := Lib.hid hz4
          clear q0 q1 q2 q3 q4 k0 hz4 hb4 B4 HCS p0
          generalize w3.alloc (.cells #[.int .i64 r.f1, .int .i64 r.f2, .int .i64 r.f3, .int .i64 r.f4] 3) = w4 at *
          have HT4 := Lib.hid (HT2.out.below HB4.out (Nat.le_refl _))
          have hsz4 := HB4.out.size
          have hz4 := HZ4.out
          have HNM := Lib.hid (show (t ++ nm).size ≤ k * 1200 + 1000 by rw [ByteArray.size_append]; omega)
          have HTN : Hid (t ++ nm = t ++ nameOf c r) := Lib.hid (by rw [HNN.out])
          go_loopw [7, 52] (fun v i wq => ∃ y : Nat, y ≤ 4 ∧ i = .int .i64 y ∧ v = .string (addInts (t ++ nm) ([r.f1, r.f2, r.f3, r.f4].take y)) ∧ Hid (Below w4.heap.size w4 wq)) (fun _ i _ => 4 - (intOf i).toNat)
          case atStart => exact ⟨0, Nat.zero_le _, rfl, rfl, Lib.hid (Below.refl _ _)⟩
          case round =>
            obtain ⟨q, hq, rfl, rfl, HBq⟩ := hrel
            by_cases hq4 : q < 4
            · obtain ⟨n, hn⟩ : ∃ n, [r.f1, r.f2, r.f3, r.f4][q]? = some n := ⟨_, List.getElem?_eq_getElem (by simpa using hq4)⟩
              have hfn : fits n := by
                have hm := List.mem_of_getElem? hn
                simp at hm
                have := HRF1.out
                rcases hm with rfl | rfl | rfl | rfl
                · exact this.1
                · exact this.2.1
                · exact this.2.2.1
                · exact this.2.2.2
              have hcell : wr.cell? ⟨w3.heap.size, q, none⟩ = some (.int .i64 n) := by
                refine (HBq.out.cell (by show w3.heap.size < _; omega)).trans ((blk_cell HBK4.out q).trans ?_)
                have : (#[Value.int .i64 r.f1, .int .i64 r.f2, .int .i64 r.f3, .int .i64 r.f4] : Array Value)[q]? = ([r.f1, r.f2, r.f3, r.f4][q]?).map (Value.int .i64) := by
                  rw [← List.getElem?_map]
                  simp
                rw [this, hn]
                rfl
              have hst := Lib.hid (addInts_take (t ++ nm) [r.f1, r.f2, r.f3, r.f4] q n hn)
              have hsq := addInts_size (t ++ nm) ([r.f1, r.f2, r.f3, r.f4].take q) (fun m hm => by
                have hm := List.mem_of_mem_take hm
                simp at hm
                have := HRF1.out
                rcases hm with rfl | rfl | rfl | rfl
                · exact this.1
                · exact this.2.1
                · exact this.2.2.1
                · exact this.2.2.2)
              have hlq : ([r.f1, r.f2, r.f3, r.f4].take q).length ≤ 4 := by rw [List.length_take]; exact Nat.min_le_right _ _
              have hdn := dec_size hfn
              have hnm4 := HNM.out
              generalize addInts (t ++ nm) ([r.f1, r.f2, r.f3, r.f4].take q) = tq at *
              have htq : tq.size ≤ k * 1200 + 1100 := by omega
              have HHN := Lib.hid hn
              have hI := Itoa_any n hfn wr (HT4.out.below HBq.out (Nat.le_refl _))
              clear hsq hlq hnm4 hn hfn
              go_wp2_with (go_at_call 33; refine hI.mono ?_; rintro e w6 ⟨rfl, B6⟩)
              go_roundw
              case rel => exact ⟨q + 1, by omega, by go_num, by rw [hst.out], Lib.hid (HBq.out.trans (B6.mono HBq.out.size))⟩
              case measure => simp [intOf]; omega
            · have hq0 : q = 4 := by omega
              subst hq0
              have hsq := addInts_size (t ++ nm) ([r.f1, r.f2, r.f3, r.f4].take 4) (fun m hm => by
                simp at hm
                have := HRF1.out
                rcases hm with rfl | rfl | rfl | rfl
                · exact this.1
                · exact this.2.1
                · exact this.2.2.1
                · exact this.2.2.2)
              have hnm4 := HNM.out
              have HTQ := Lib.hid (show addInts (t ++ nm) ([r.f1, r.f2, r.f3, r.f4].take 4) = addInts (t ++ nameOf c r) [r.f1, r.f2, r.f3, r.f4] by rw [HTN.out]; rfl)
              generalize addInts (t ++ nm) ([r.f1, r.f2, r.f3, r.f4].take 4) = tq at *
              have htq : tq.size ≤ k * 1200 + 1100 := by
                have : ([r.f1, r.f2, r.f3, r.f4].take 4).length = 4 := rfl
                omega
              clear hsq hnm4
              go_wp2
              go_roundw
              case rel => exact ⟨k + 1, by omega, by go_num, by rw [HSC.out]; unfold addRow; rw [← HTQ.out], Lib.hid (HB4.out.trans (HBq.out.mono HB4.out.size))⟩
              case measure => simp [intOf]; omega
        ·
          have hnn : nameOf c r = (⟨#[45]⟩ : ByteArray) := by
            unfold nameOf
            rw [if_neg (by omega)]
          have HNN := Lib.hid hnn
          rw [hnn] at hnm
          clear hnn
          go_wp2_with (first
            | ((with_reducible refine gate_dst (N := 20) rfl ?_); refine load_event (N := 20) rfl rfl rfl rfl _ _ HCS.out Tryd.underlying84 rfl (by kernel_rfl) ?_)
            | ((with_reducible refine gate_dst (N := 9) rfl ?_); refine copy_event rfl rfl rfl rfl rfl rfl info84 [.int .i64 r.f0, .int .i64 r.f1, .int .i64 r.f2, .int .i64 r.f3, .int .i64 r.f4] rfl rfl rfl (by simp [Value.oneCell']) ?_; intro xb w3 hxb hbk B3 hz3; subst hxb; have q0 : w3.cell? ⟨wr.heap.size, 0, none⟩ = some (.int .i64 r.f0) := blk_cell hbk 0; have q1 : w3.cell? ⟨wr.heap.size, 1, none⟩ = some (.int .i64 r.f1) := blk_cell hbk 1; have q2 : w3.cell? ⟨wr.heap.size, 2, none⟩ = some (.int .i64 r.f2) := blk_cell hbk 2; have q3 : w3.cell? ⟨wr.heap.size, 3, none⟩ = some (.int .i64 r.f3) := blk_cell hbk 3; have q4 : w3.cell? ⟨wr.heap.size, 4, none⟩ = some (.int .i64 r.f4) := blk_cell hbk 4; have HB3 := Lib.hid (HBr.out.trans (B3.mono HBr.out.size)); have k0 := (HB3.out.cell (World.block_lt_of_cell? _ _ HK2.out)).trans HK2.out; clear B3 hz3 hbk))
          have hz4 : (w3.alloc (.cells #[.int .i64 r.f1, .int .i64 r.f2, .int .i64 r.f3, .int .i64 r.f4] 3)).heap.size = w3.heap.size + 1 := by simp [go_sem]
          have hb4 : (w3.alloc (.cells #[.int .i64 r.f1, .int .i64 r.f2, .int .i64 r.f3, .int .i64 r.f4] 3)).heap[w3.heap.size]? = some (.cells #[.int .i64 r.f1, .int .i64 r.f2, .int .i64 r.f3, .int .i64 r.f4] 3 (0, 0)) := blk_new _ _
          have B4 := HB3.out.alloc HB3.out.size (.cells #[.int .i64 r.f1, .int .i64 r.f2, .int .i64 r.f3, .int .i64 r.f4] 3)
          have hsz3 := HB3.out.size
          have HB4 := Lib.hid B4
          have HBK4 := Lib.hid hb4
          have HZ4 := Lib.hid hz4
          clear q0 q1 q2 q3 q4 k0 hz4 hb4 B4 HCS 
          generalize w3.alloc (.cells #[.int .i64 r.f1, .int .i64 r.f2, .int .i64 r.f3, .int .i64 r.f4] 3) = w4 at *
          have HT4 := Lib.hid (HT2.out.below HB4.out (Nat.le_refl _))
          have hsz4 := HB4.out.size
          have hz4 := HZ4.out
          have HNM := Lib.hid (show (t ++ (⟨#[45]⟩ : ByteArray)).size ≤ k * 1200 + 1000 by rw [ByteArray.size_append]; omega)
          have HTN : Hid (t ++ (⟨#[45]⟩ : ByteArray) = t ++ nameOf c r) := Lib.hid (by rw [HNN.out])
          go_loopw [7, 52] (fun v i wq => ∃ y : Nat, y ≤ 4 ∧ i = .int .i64 y ∧ v = .string (addInts (t ++ (⟨#[45]⟩ : ByteArray)) ([r.f1, r.f2, r.f3, r.f4].take y)) ∧ Hid (Below w4.heap.size w4 wq)) (fun _ i _ => 4 - (intOf i).toNat)
          case atStart => exact ⟨0, Nat.zero_le _, rfl, rfl, Lib.hid (Below.refl _ _)⟩
          case round =>
            obtain ⟨q, hq, rfl, rfl, HBq⟩ := hrel
            by_cases hq4 : q < 4
            · obtain ⟨n, hn⟩ : ∃ n, [r.f1, r.f2, r.f3, r.f4][q]? = some n := ⟨_, List.getElem?_eq_getElem (by simpa using hq4)⟩
              have hfn : fits n := by
                have hm := List.mem_of_getElem? hn
                simp at hm
                have := HRF1.out
                rcases hm with rfl | rfl | rfl | rfl
                · exact this.1
                · exact this.2.1
                · exact this.2.2.1
                · exact this.2.2.2
              have hcell : wr.cell? ⟨w3.heap.size, q, none⟩ = some (.int .i64 n) := by
                refine (HBq.out.cell (by show w3.heap.size < _; omega)).trans ((blk_cell HBK4.out q).trans ?_)
                have : (#[Value.int .i64 r.f1, .int .i64 r.f2, .int .i64 r.f3, .int .i64 r.f4] : Array Value)[q]? = ([r.f1, r.f2, r.f3, r.f4][q]?).map (Value.int .i64) := by
                  rw [← List.getElem?_map]
                  simp
                rw [this, hn]
                rfl
              have hst := Lib.hid (addInts_take (t ++ (⟨#[45]⟩ : ByteArray)) [r.f1, r.f2, r.f3, r.f4] q n hn)
              have hsq := addInts_size (t ++ (⟨#[45]⟩ : ByteArray)) ([r.f1, r.f2, r.f3, r.f4].take q) (fun m hm => by
                have hm := List.mem_of_mem_take hm
                simp at hm
                have := HRF1.out
                rcases hm with rfl | rfl | rfl | rfl
                · exact this.1
                · exact this.2.1
                · exact this.2.2.1
                · exact this.2.2.2)
              have hlq : ([r.f1, r.f2, r.f3, r.f4].take q).length ≤ 4 := by rw [List.length_take]; exact Nat.min_le_right _ _
              have hdn := dec_size hfn
              have hnm4 := HNM.out
              generalize addInts (t ++ (⟨#[45]⟩ : ByteArray)) ([r.f1, r.f2, r.f3, r.f4].take q) = tq at *
              have htq : tq.size ≤ k * 1200 + 1100 := by omega
              have HHN := Lib.hid hn
              have hI := Itoa_any n hfn wr (HT4.out.below HBq.out (Nat.le_refl _))
              clear hsq hlq hnm4 hn hfn
              go_wp2_with (go_at_call 33; refine hI.mono ?_; rintro e w6 ⟨rfl, B6⟩)
              go_roundw
              case rel => exact ⟨q + 1, by omega, by go_num, by rw [hst.out], Lib.hid (HBq.out.trans (B6.mono HBq.out.size))⟩
              case measure => simp [intOf]; omega
            · have hq0 : q = 4 := by omega
              subst hq0
              have hsq := addInts_size (t ++ (⟨#[45]⟩ : ByteArray)) ([r.f1, r.f2, r.f3, r.f4].take 4) (fun m hm => by
                simp at hm
                have := HRF1.out
                rcases hm with rfl | rfl | rfl | rfl
                · exact this.1
                · exact this.2.1
                · exact this.2.2.1
                · exact this.2.2.2)
              have hnm4 := HNM.out
              have HTQ := Lib.hid (show addInts (t ++ (⟨#[45]⟩ : ByteArray)) ([r.f1, r.f2, r.f3, r.f4].take 4) = addInts (t ++ nameOf c r) [r.f1, r.f2, r.f3, r.f4] by rw [HTN.out]; rfl)
              generalize addInts (t ++ (⟨#[45]⟩ : ByteArray)) ([r.f1, r.f2, r.f3, r.f4].take 4) = tq at *
              have htq : tq.size ≤ k * 1200 + 1100 := by
                have : ([r.f1, r.f2, r.f3, r.f4].take 4).length = 4 := rfl
                omega
              clear hsq hnm4
              go_wp2
              go_roundw
              case rel => exact ⟨k + 1, by omega, by go_num, by rw [HSC.out]; unfold addRow; rw [← HTQ.out], Lib.hid (HB4.out.trans (HBq.out.mono HB4.out.size))⟩
              case measure => simp [intOf]; omega
      ·
        have hnn : nameOf c r = (⟨#[45]⟩ : ByteArray) := by
          unfold nameOf
          rw [if_neg (by omega)]
        have HNN := Lib.hid hnn
        rw [hnn] at hnm
        clear hnn
        go_wp2_with (first
          | ((with_reducible refine gate_dst (N := 20) rfl ?_); refine load_event (N := 20) rfl rfl rfl rfl _ _ HCS.out Tryd.underlying84 rfl (by kernel_rfl) ?_)
          | ((with_reducible refine gate_dst (N := 9) rfl ?_); refine copy_event rfl rfl rfl rfl rfl rfl info84 [.int .i64 r.f0, .int .i64 r.f1, .int .i64 r.f2, .int .i64 r.f3, .int .i64 r.f4] rfl rfl rfl (by simp [Value.oneCell']) ?_; intro xb w3 hxb hbk B3 hz3; subst hxb; have q0 : w3.cell? ⟨wr.heap.size, 0, none⟩ = some (.int .i64 r.f0) := blk_cell hbk 0; have q1 : w3.cell? ⟨wr.heap.size, 1, none⟩ = some (.int .i64 r.f1) := blk_cell hbk 1; have q2 : w3.cell? ⟨wr.heap.size, 2, none⟩ = some (.int .i64 r.f2) := blk_cell hbk 2; have q3 : w3.cell? ⟨wr.heap.size, 3, none⟩ = some (.int .i64 r.f3) := blk_cell hbk 3; have q4 : w3.cell? ⟨wr.heap.size, 4, none⟩ = some (.int .i64 r.f4) := blk_cell hbk 4; have HB3 := Lib.hid (HBr.out.trans (B3.mono HBr.out.size)); have k0 := (HB3.out.cell (World.block_lt_of_cell? _ _ HK2.out)).trans HK2.out; clear B3 hz3 hbk))
        have hz4 : (w3.alloc (.cells #[.int .i64 r.f1, .int .i64 r.f2, .int .i64 r.f3, .int .i64 r.f4] 3)).heap.size = w3.heap.size + 1 := by simp [go_sem]
        have hb4 : (w3.alloc (.cells #[.int .i64 r.f1, .int .i64 r.f2, .int .i64 r.f3, .int .i64 r.f4] 3)).heap[w3.heap.size]? = some (.cells #[.int .i64 r.f1, .int .i64 r.f2, .int .i64 r.f3, .int .i64 r.f4] 3 (0, 0)) := blk_new _ _
        have B4 := HB3.out.alloc HB3.out.size (.cells #[.int .i64 r.f1, .int .i64 r.f2, .int .i64 r.f3, .int .i64 r.f4] 3)
        have hsz3 := HB3.out.size
        have HB4 := Lib.hid B4
        have HBK4 := Lib.hid hb4
        have HZ4 := Lib.hid hz4
        clear q0 q1 q2 q3 q4 k0 hz4 hb4 B4 HCS 
        generalize w3.alloc (.cells #[.int .i64 r.f1, .int .i64 r.f2, .int .i64 r.f3, .int .i64 r.f4] 3) = w4 at *
        have HT4 := Lib.hid (HT2.out.below HB4.out (Nat.le_refl _))
        have hsz4 := HB4.out.size
        have hz4 := HZ4.out
        have HNM := Lib.hid (show (t ++ (⟨#[45]⟩ : ByteArray)).size ≤ k * 1200 + 1000 by rw [ByteArray.size_append]; omega)
        have HTN : Hid (t ++ (⟨#[45]⟩ : ByteArray) = t ++ nameOf c r) := Lib.hid (by rw [HNN.out])
        go_loopw [7, 52] (fun v i wq => ∃ y : Nat, y ≤ 4 ∧ i = .int .i64 y ∧ v = .string (addInts (t ++ (⟨#[45]⟩ : ByteArray)) ([r.f1, r.f2, r.f3, r.f4].take y)) ∧ Hid (Below w4.heap.size w4 wq)) (fun _ i _ => 4 - (intOf i).toNat)
        case atStart => exact ⟨0, Nat.zero_le _, rfl, rfl, Lib.hid (Below.refl _ _)⟩
        case round =>
          obtain ⟨q, hq, rfl, rfl, HBq⟩ := hrel
          by_cases hq4 : q < 4
          · obtain ⟨n, hn⟩ : ∃ n, [r.f1, r.f2, r.f3, r.f4][q]? = some n := ⟨_, List.getElem?_eq_getElem (by simpa using hq4)⟩
            have hfn : fits n := by
              have hm := List.mem_of_getElem? hn
              simp at hm
              have := HRF1.out
              rcases hm with rfl | rfl | rfl | rfl
              · exact this.1
              · exact this.2.1
              · exact this.2.2.1
              · exact this.2.2.2
            have hcell : wr.cell? ⟨w3.heap.size, q, none⟩ = some (.int .i64 n) := by
              refine (HBq.out.cell (by show w3.heap.size < _; omega)).trans ((blk_cell HBK4.out q).trans ?_)
              have : (#[Value.int .i64 r.f1, .int .i64 r.f2, .int .i64 r.f3, .int .i64 r.f4] : Array Value)[q]? = ([r.f1, r.f2, r.f3, r.f4][q]?).map (Value.int .i64) := by
                rw [← List.getElem?_map]
                simp
              rw [this, hn]
              rfl
            have hst := Lib.hid (addInts_take (t ++ (⟨#[45]⟩ : ByteArray)) [r.f1, r.f2, r.f3, r.f4] q n hn)
            have hsq := addInts_size (t ++ (⟨#[45]⟩ : ByteArray)) ([r.f1, r.f2, r.f3, r.f4].take q) (fun m hm => by
              have hm := List.mem_of_mem_take hm
              simp at hm
              have := HRF1.out
              rcases hm with rfl | rfl | rfl | rfl
              · exact this.1
              · exact this.2.1
              · exact this.2.2.1
              · exact this.2.2.2)
            have hlq : ([r.f1, r.f2, r.f3, r.f4].take q).length ≤ 4 := by rw [List.length_take]; exact Nat.min_le_right _ _
            have hdn := dec_size hfn
            have hnm4 := HNM.out
            generalize addInts (t ++ (⟨#[45]⟩ : ByteArray)) ([r.f1, r.f2, r.f3, r.f4].take q) = tq at *
            have htq : tq.size ≤ k * 1200 + 1100 := by omega
            have HHN := Lib.hid hn
            have hI := Itoa_any n hfn wr (HT4.out.below HBq.out (Nat.le_refl _))
            clear hsq hlq hnm4 hn hfn
            go_wp2_with (go_at_call 33; refine hI.mono ?_; rintro e w6 ⟨rfl, B6⟩)
            go_roundw
            case rel => exact ⟨q + 1, by omega, by go_num, by rw [hst.out], Lib.hid (HBq.out.trans (B6.mono HBq.out.size))⟩
            case measure => simp [intOf]; omega
          · have hq0 : q = 4 := by omega
            subst hq0
            have hsq := addInts_size (t ++ (⟨#[45]⟩ : ByteArray)) ([r.f1, r.f2, r.f3, r.f4].take 4) (fun m hm => by
              simp at hm
              have := HRF1.out
              rcases hm with rfl | rfl | rfl | rfl
              · exact this.1
              · exact this.2.1
              · exact this.2.2.1
              · exact this.2.2.2)
            have hnm4 := HNM.out
            have HTQ := Lib.hid (show addInts (t ++ (⟨#[45]⟩ : ByteArray)) ([r.f1, r.f2, r.f3, r.f4].take 4) = addInts (t ++ nameOf c r) [r.f1, r.f2, r.f3, r.f4] by rw [HTN.out]; rfl)
            generalize addInts (t ++ (⟨#[45]⟩ : ByteArray)) ([r.f1, r.f2, r.f3, r.f4].take 4) = tq at *
            have htq : tq.size ≤ k * 1200 + 1100 := by
              have : ([r.f1, r.f2, r.f3, r.f4].take 4).length = 4 := rfl
              omega
            clear hsq hnm4
            go_wp2
            go_roundw
            case rel => exact ⟨k + 1, by omega, by go_num, by rw [HSC.out]; unfold addRow; rw [← HTQ.out], Lib.hid (HB4.out.trans (HBq.out.mono HB4.out.size))⟩
            case measure => simp [intOf]; omega
    · have hkl : k = rows.length := by omega
      subst hkl
      go_wp2
      go_ret
      exact ⟨d, HP.out, HWW.out, by rw [HX.out]; rfl, HB2.out.trans (HBr.out.mono HB2.out.size)⟩
#print axioms Text_any
end Go.Proofs.YtnhflmihjegaiaaDoor
