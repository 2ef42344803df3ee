/- slices.DeleteFunc at spans, with the program's own test 'empty'. -/
import Derived.Test.YtioglhaofcmebaaSpC
namespace Go.Proofs.Ytioglhaofcmebaa
open Go.RowKit Go.Sort Go.Shelf Go.Proofs.YtioglhaofcmebaaW.PrintWords P
set_option linter.unusedSimpArgs false
set_option linter.unusedVariables false

def kept (l : List S23) : List S23 := l.filter fun x => !pE x
theorem kept_full (l : List S23) : kept l = full l := by
  unfold kept full
  apply List.filter_congr
  intro x _
  unfold pE
  by_cases h : x.f0 < x.f1
  · have : ¬ x.f0 ≥ x.f1 := by omega
    simp [h, this]
  · have : x.f0 ≥ x.f1 := by omega
    simp [h, this]

theorem idxS_cases (p : S23 → Bool) (l : List S23) : (idxS p l = -1 ∧ ∀ x ∈ l, p x = false) ∨ ∃ (k : Nat) (hk : k < l.length), idxS p l = (k : Int) ∧ p l[k] = true ∧ ∀ x ∈ l.take k, p x = false := by
  unfold idxS
  cases h : l.findIdx? p with
  | none => exact .inl ⟨rfl, List.findIdx?_eq_none_iff.1 h⟩
  | some i =>
    obtain ⟨hi, hp, hn⟩ := List.findIdx?_eq_some_iff_getElem.1 h
    refine .inr ⟨i, hi, rfl, hp, fun x hx => ?_⟩
    obtain ⟨j, hj, rfl⟩ := List.mem_take_iff_getElem.1 hx
    have := hn j (by omega)
    simpa using this

theorem kept_snoc (l : List S23) (j : Nat) (hj : j < l.length) : kept (l.take (j + 1)) = kept (l.take j) ++ (if pE l[j] = true then [] else [l[j]]) := by
  unfold kept
  rw [List.take_add_one, List.getElem?_eq_getElem hj, List.filter_append]
  congr 1
  cases h : pE l[j] <;> simp [h]

/-- The row meanwhile. -/
structure Cutting (l : List S23) (i j : Nat) (cur : List S23) : Prop where
  lt : i < j
  le : j ≤ l.length
  len : cur.length = l.length
  num : (kept (l.take j)).length = i
  low : cur.take i = kept (l.take j)
  high : cur.drop j = l.drop j

theorem Cutting.start {l : List S23} (k : Nat) (hk : k < l.length) (h1 : pE l[k] = true) (h2 : ∀ x ∈ l.take k, pE x = false) : Cutting l k (k + 1) l := by
  have e : kept (l.take (k + 1)) = l.take k := by
    rw [kept_snoc l k hk, if_pos h1, List.append_nil]
    unfold kept
    exact List.filter_eq_self.2 (fun x hx => by simp [h2 x hx])
  exact ⟨by omega, hk, rfl, by rw [e, List.length_take]; omega, by rw [e], rfl⟩

theorem Cutting.at_ {l cur : List S23} {i j : Nat} (h : Cutting l i j cur) (hj : j < l.length) : cur[j]'(by rw [h.len]; exact hj) = l[j] := by
  have h1 : (cur.drop j)[0]? = (l.drop j)[0]? := by rw [h.high]
  rw [List.getElem?_drop, List.getElem?_drop, Nat.add_zero, List.getElem?_eq_getElem (by rw [h.len]; exact hj), List.getElem?_eq_getElem hj] at h1
  exact Option.some.inj h1

theorem Cutting.skip {l cur : List S23} {i j : Nat} (h : Cutting l i j cur) (hj : j < l.length) (hp : pE l[j] = true) : Cutting l i (j + 1) cur := by
  have e : kept (l.take (j + 1)) = kept (l.take j) := by rw [kept_snoc l j hj, if_pos hp, List.append_nil]
  refine ⟨by have := h.lt; omega, hj, h.len, by rw [e]; exact h.num, by rw [e]; exact h.low, ?_⟩
  rw [show j + 1 = j + 1 from rfl, ← List.drop_drop, ← List.drop_drop, h.high]

theorem Cutting.keep {l cur : List S23} {i j : Nat} (h : Cutting l i j cur) (hj : j < l.length) (hp : pE l[j] = false) : Cutting l (i + 1) (j + 1) (cur.set i l[j]) := by
  have hlt := h.lt
  have e : kept (l.take (j + 1)) = kept (l.take j) ++ [l[j]] := by rw [kept_snoc l j hj, if_neg (by simp [hp])]
  refine ⟨by omega, hj, by simp [h.len], by rw [e]; simp [h.num], ?_, ?_⟩
  · rw [e, ← h.low]
    have hi : i < cur.length := by rw [h.len]; omega
    rw [List.take_add_one, List.take_set_of_le (Nat.le_refl _), List.getElem?_set_self hi]
    rfl
  · rw [List.drop_set_of_lt (by omega), ← List.drop_drop, ← List.drop_drop, h.high]

set_option maxRecDepth 100000 in
set_option maxHeartbeats 4000000 in
theorem Delete_any (w : World) (base : Nat) (v : Value) (l : List S23) (hR : SpR w base v l) (hb : base ≤ w.heap.size) (hl : l.length ≤ 1000000) :
    Calls Try.prog 36 #[v, .func (.func 35) #[] #[]] w fun e w' => ∃ v', e = .returned v' ∧ SpR w' base v' (full l) ∧ Below base w w' := by
  rw [← kept_full]
  have e35 : ∀ args w, (callFunc 35 args).run Try.prog w = .ok (.enter 35 args) w := enters_of Try.func35 (by kernel_rfl) rfl
  obtain ⟨A, cap, hv, hlc, hC⟩ := Kd.R_reads hR
  have hcon := IndexE w A cap l hC hlc
  rcases idxS_cases pE l with ⟨h1, h2⟩ | ⟨k, hk, h1, h2, h3⟩
  · rw [h1] at hcon
    have hk : kept l = l := List.filter_eq_self.2 (fun x hx => by simp [h2 x hx])
    rw [hk]
    have HR := Lib.hid hR
    subst hv
    clear hR hC h2 h1 hk
    go_enter Try.func36, Try.ntmps36
    go_wp2_with (go_at_call 45; refine hcon.mono ?_; rintro e w2 ⟨rfl, B2⟩)
    go_ret
    exact ⟨_, rfl, Kd.R_below HR.out B2, B2.mono hb⟩
  · rw [h1] at hcon
    rcases SpR_shape hR with ⟨_, h0⟩ | ⟨g, cap', hv'⟩
    · subst h0; simp at hk
    · have hne : ((k : Int) == -1) = false := beq_eq_false_iff_ne.2 (by omega)
      have hcut := Lib.hid (Cutting.start k hk h2 h3)
      rw [hv] at hv'
      injection hv' with ha _ hc
      subst ha hc hv
      have HR := Lib.hid hR
      obtain ⟨_, hbg, _, hcm, _⟩ := SpR_block hR
      clear hR hC h1 h2 h3
      go_enter Try.func36, Try.ntmps36
      go_wp2_with (go_at_call 45; refine hcon.mono ?_; rintro e w2 ⟨rfl, B2⟩)
      have HR2 := Lib.hid (Kd.R_below HR.out B2)
      have HB2 := Lib.hid (B2.mono hb)
      clear HR B2
      go_loopw [5, 6] (fun s5 s6 wr => ∃ (i j : Nat) (cur : List S23), s5 = .int .i64 i ∧ s6 = .int .i64 j ∧ Hid (Cutting l i j cur) ∧ Hid (SpR wr base (.slice (some ⟨g, 0, none⟩) l.length cap) cur) ∧ Hid (Below base w wr)) (fun _ j _ => l.length - (intOf j).toNat)
      case atStart => exact ⟨k, k + 1, l, rfl, by go_num, hcut, HR2, HB2⟩
      case round =>
        obtain ⟨i, j, cur, rfl, rfl, hcu, hRr, hBr⟩ := hrel
        have hij := hcu.out.lt
        have hjl := hcu.out.le
        have hcl := hcu.out.len
        by_cases hlt : j < l.length
        · obtain ⟨g0, g1⟩ := SpR_cells hRr.out j (by omega)
          rw [hcu.out.at_ hlt] at g0 g1
          obtain ⟨o0, o1⟩ := SpR_cells hRr.out i (by omega)
          have hkeep := Lib.hid (fun h => hcu.out.keep hlt h)
          have hskip := Lib.hid (fun h => hcu.out.skip hlt h)
          generalize l[j] = u at *
          have hbw : base ≤ wr.heap.size := Nat.le_trans hb hBr.out.size
          have hglt := World.block_lt_of_cell? wr _ o0
          have hBa := (Below.refl wr.heap.size wr).alloc (Nat.le_refl _) (.cells #[.int .i64 u.f0, .int .i64 u.f1] 23)
          have b0 : (wr.alloc (.cells #[.int .i64 u.f0, .int .i64 u.f1] 23)).cell? ⟨wr.heap.size, 0, none⟩ = some (.int .i64 u.f0) := by simp [go_sem]
          have b1 : (wr.alloc (.cells #[.int .i64 u.f0, .int .i64 u.f1] 23)).cell? ⟨wr.heap.size, 1, none⟩ = some (.int .i64 u.f1) := by simp [go_sem]
          have hcall := empty_any (wr.alloc (.cells #[.int .i64 u.f0, .int .i64 u.f1] 23)) u
          have Ra := Kd.R_below hRr.out hBa
          replace o0 := (hBa.cell (World.block_lt_of_cell? _ _ o0)).trans o0
          replace o1 := (hBa.cell (World.block_lt_of_cell? _ _ o1)).trans o1
          have hB1 := Lib.hid (hBr.out.trans (hBa.mono hbw))
          go_wp2_with fail
          generalize wr.alloc (.cells #[.int .i64 u.f0, .int .i64 u.f1] 23) = wa at *
          generalize wr.heap.size = gb at *
          clear hBa g0 g1
          have hbwa : base ≤ wa.heap.size := Nat.le_trans hb hB1.out.size
          refine hcall.mono ?_
          rintro e w3 ⟨rfl, B3⟩
          replace b0 := (B3.cell (World.block_lt_of_cell? _ _ b0)).trans b0
          replace b1 := (B3.cell (World.block_lt_of_cell? _ _ b1)).trans b1
          replace o0 := (B3.cell (World.block_lt_of_cell? _ _ o0)).trans o0
          replace o1 := (B3.cell (World.block_lt_of_cell? _ _ o1)).trans o1
          have R3 := Kd.R_below Ra B3
          have hB3 := hB1.out.trans (B3.mono hbwa)
          have hbw3 : base ≤ w3.heap.size := Nat.le_trans hb hB3.size
          clear Ra hcall B3
          cases hq : pE u with
          | true =>
            have hs := Lib.hid (hskip.out hq)
            clear hq hkeep hskip
            go_wp2
            go_roundw
            case rel => exact ⟨i, j + 1, cur, rfl, by go_num, hs, Lib.hid R3, Lib.hid hB3⟩
            case measure => simp [intOf]; omega
          | false =>
            have hs := Lib.hid (hkeep.out hq)
            clear hq hkeep hskip
            have hf0 := SpR_frozen R3 (i * 2)
            have hf1 := SpR_frozen R3 (i * 2 + 1)
            obtain ⟨R4, B4, _⟩ := SpR_set R3 (show i < l.length by omega) u
            have HR4 := Lib.hid R4
            have HB4 := Lib.hid (hB3.trans B4)
            clear R4 B4 R3
            go_wp2
            go_roundw
            case rel => exact ⟨i + 1, j + 1, cur.set i u, by go_num, by go_num, hs, HR4, HB4⟩
            case measure => simp [intOf]; omega
        · have hj : j = l.length := by omega
          subst hj
          have hnum := hcu.out.num
          have hlow := hcu.out.low
          rw [List.take_length] at hnum hlow
          obtain ⟨W', hcl2, R5, B5⟩ := SpR_clear hRr.out hij
          rw [hlow] at R5
          have HR5 := Lib.hid R5
          have HB5 := Lib.hid (hBr.out.trans B5)
          clear R5 B5 hlow
          go_wp2
          go_ret
          refine ⟨_, rfl, ?_, HB5.out⟩
          have := HR5.out
          exact this

#print axioms Cutting.keep
#print axioms Delete_any
end Go.Proofs.Ytioglhaofcmebaa
