/- span.Canon. -/
import Derived.Test.YtioglhaofcmebaaSpE
import Derived.Deep.AppendLies
import Derived.IntWalk
import Derived.Deep.QuietTactic
import Derived.BigQuiet
namespace Go.Proofs.Ytioglhaofcmebaa
open Go.RowKit Go.Shelf Go.Proofs.YtioglhaofcmebaaW.PrintWords Go.Proofs.YtioglhaofcmebaaW.PrintMore P
attribute [local go_sem] max2_int min2_int max_two min_two
set_option linter.unusedSimpArgs false
set_option linter.unusedVariables false

/-- Two rows have no block in common. -/
def Apart (v u : Value) : Prop := ∀ k, v.ownBlock = some k → u.ownBlock ≠ some k
theorem Apart.symm {v u : Value} (h : Apart v u) : Apart u v := fun k h1 h2 => h k h2 h1
theorem Apart.nil (u : Value) : Apart (.slice none 0 0) u := fun k h => by simp [Value.ownBlock] at h
theorem SpR_lt {w : World} {base : Nat} {v : Value} {xs : List S23} (h : SpR w base v xs) : ∀ k, v.ownBlock = some k → k < w.heap.size := Kd.R_lt h
theorem SpR_grown {W w1 : World} {base : Nat} {v : Value} {xs : List S23} {row : Option Nat} (h : SpR W base v xs) (hg : W.grownBy w1 row) (ha : ∀ k, v.ownBlock = some k → row ≠ some k) : SpR w1 base v xs := by
  refine own_SpR (own_other (SpR_own h) hg ?_)
  cases hb : v.ownBlock with
  | none => exact .inl rfl
  | some k => exact .inr (fun he => ha k hb he.symm)
theorem Apart.grown {W : World} {base : Nat} {v u u1 : Value} {xs : List S23} (h : SpR W base v xs) (ha : Apart v u) (hat : u1.ownBlock = u.ownBlock ∨ ∃ b, u1.ownBlock = some b ∧ W.heap.size ≤ b) : Apart v u1 := fun k h1 h2 => by
  rcases hat with e | ⟨b, e, hb⟩
  · rw [e] at h2; exact ha k h1 h2
  · rw [e] at h2
    cases h2
    have := SpR_lt h _ h1
    omega

theorem flat_setB : ∀ (xs : List S23) (i : Nat) (hi : i < xs.length) (b : Int), flat (xs.set i ⟨xs[i].f0, b⟩) = (flat xs).take (i * 2 + 1) ++ [.int .i64 b] ++ (flat xs).drop (i * 2 + 2)
  | [], i, h, b => by simp at h
  | x :: r, 0, h, b => by simp [flat]
  | x :: r, i + 1, h, b => by
    have := flat_setB r i (by simpa using h) b
    rw [show (i + 1) * 2 + 1 = (i * 2 + 1) + 1 + 1 by omega, show (i + 1) * 2 + 2 = (i * 2 + 2) + 1 + 1 by omega]
    simp only [List.set_cons_succ, List.getElem_cons_succ, flat, List.take_succ_cons, List.drop_succ_cons, List.cons_append, this]

/-- s[i].B = b -/
theorem SpR_setB {W : World} {base g n cap i : Nat} {xs : List S23} (h : SpR W base (.slice (some ⟨g, 0, none⟩) n cap) xs) (hi : i < xs.length) (b : Int) :
    SpR (W.setCell ⟨g, i * 2 + 1, none⟩ (.int .i64 b)) base (.slice (some ⟨g, 0, none⟩) n cap) (xs.set i ⟨xs[i].f0, b⟩) ∧ Below base W (W.setCell ⟨g, i * 2 + 1, none⟩ (.int .i64 b)) ∧ W.grownBy (W.setCell ⟨g, i * 2 + 1, none⟩ (.int .i64 b)) (some g) := by
  obtain ⟨hn, hb, hnc, hcm, cur, hh, hcs, ht⟩ := SpR_block h
  obtain ⟨cur', h3, h4, h5⟩ := setCells_row [.int .i64 b] (i * 2 + 1) W cur hh (by simp; omega)
  obtain ⟨s1, s2, s3, s4⟩ := setCells_same g [.int .i64 b] (i * 2 + 1) W
  have hl : (xs.set i ⟨xs[i].f0, b⟩).length = n := by rw [List.length_set, hn]
  have hfar := fun k hk => setCells_far (g := g) [.int .i64 b] (i * 2 + 1) (w := W) k hk
  refine ⟨?_, ⟨s1, s2, s3, Nat.le_of_eq s4.symm, fun k hk => hfar k (by omega)⟩, ⟨s1, s2, s3, Nat.le_of_eq s4.symm, fun k _ hk => hfar k (fun e => hk (by rw [e]))⟩⟩
  have := SpR_of_block (w := W.setCells g (i * 2 + 1) [.int .i64 b]) (xs := xs.set i ⟨xs[i].f0, b⟩) (cap := cap) hb h3 (by rw [hl]; exact hnc) hcm (by rw [h4, hcs]) (by
    rw [hl, h5, flat_setB xs i hi, ← ht]
    simp only [List.length_cons, List.length_nil]
    have e1 : (cur.toList.take (i * 2 + 1)).length = i * 2 + 1 := by rw [List.length_take, Array.length_toList]; omega
    rw [List.take_append, List.length_append, e1]
    simp only [List.length_cons, List.length_nil]
    rw [List.take_of_length_le (by rw [List.length_append, e1]; simp; omega), List.take_take, Nat.min_eq_left (by omega), List.drop_take, List.append_assoc, show i * 2 + 1 + (0 + 1) = i * 2 + 2 by omega])
  rw [hl] at this
  exact this

theorem merge_snoc (d : List S23) (k : Nat) (hk : k < d.length) : merge (d.take (k + 1)) = push (merge (d.take k)) d[k] := by
  unfold merge
  rw [List.take_add_one, List.getElem?_eq_getElem hk]
  simp only [Option.toList_some, List.foldl_append, List.foldl_cons, List.foldl_nil]
theorem merge_le (d : List S23) : (merge d).length ≤ d.length := by
  have h : ∀ (l out : List S23), (l.foldl push out).length ≤ out.length + l.length := by
    intro l
    induction l with
    | nil => intro out; simp
    | cons s r ih =>
      intro out
      have := ih (push out s)
      have h2 : (push out s).length ≤ out.length + 1 := by
        rcases snoc_cases out with rfl | ⟨a, t, rfl⟩
        · simp [push_nil]
        · rw [push_snoc]; split <;> simp
      simp only [List.foldl_cons, List.length_cons]
      omega
  simpa [merge] using h d []

set_option maxRecDepth 100000 in
set_option maxHeartbeats 4000000 in
theorem Canon_any (w : World) (A : Option Addr) (c : Nat) (l : List S23) (hC : SpC w A l) (hc : l.length ≤ c) (hl : l.length ≤ 1000000) :
    Calls Try.prog 18 #[.slice A l.length c] w fun e w' => ∃ v, e = .returned v ∧ SpR w' w.heap.size v (canonL l) ∧ Below w.heap.size w w' := by
  have hcl := Clone_any w A c l hC hc hl
  clear hC
  go_enter Try.func18, Try.ntmps18
  go_wp2_with fail
  refine hcl.mono ?_
  rintro e w1 ⟨v1, rfl, R1, B1⟩
  go_wp2_with fail
  refine (Delete_any w1 w.heap.size v1 l R1 B1.size hl).mono ?_
  rintro e w2 ⟨v2, rfl, R2, B2⟩
  have hfl : (full l).length ≤ l.length := List.length_filter_le _ _
  replace B2 := B1.trans B2
  clear R1 B1
  go_wp2_with fail
  refine (Sort_any w2 w.heap.size v2 (full l) R2 (by omega)).mono ?_
  rintro e w3 ⟨rfl, d, hp, hs, R3, B3⟩
  replace B3 := B2.trans B3
  have hdl : d.length ≤ 1000000 := by rw [hp.length_eq]; omega
  have hcan := Lib.hid (canonL_of hp hs)
  clear R2 B2 hp hs hfl
  obtain ⟨A3, c3, rfl⟩ := Kd.R_slice R3
  go_wp2_with fail
  go_loopw [4, 15] (fun v i wr => ∃ k : Nat, k ≤ d.length ∧ i = .int .i64 k ∧ Hid (SpR wr w.heap.size v (merge (d.take k))) ∧ Hid (SpR wr w.heap.size (.slice A3 d.length c3) d) ∧ Hid (Apart (.slice A3 d.length c3) v) ∧ Hid (Below w.heap.size w wr)) (fun _ i _ => d.length - (intOf i).toNat)
  case atStart => exact ⟨0, Nat.zero_le _, rfl, Lib.hid (Kd.R_nil _ _ _ _ _), Lib.hid R3, Lib.hid (Apart.nil _).symm, Lib.hid B3⟩
  case round =>
    clear R3 B3
    obtain ⟨k, hk, rfl, R4, R3, hap, hB⟩ := hrel
    by_cases hlt : k < d.length
    · obtain ⟨ad, e0, g0, g1⟩ := at_T23 (Kd.R_reads' R3.out).2.2 (k : Int) (by omega) (by omega)
      subst e0
      rw [rd23 d k hlt, Int.toNat_natCast] at g0 g1
      have hms := Lib.hid (merge_snoc d k hlt)
      have hml := merge_le (d.take k)
      have htk : (d.take k).length ≤ k := by rw [List.length_take]; exact Nat.min_le_left _ _
      generalize merge (d.take k) = out at *
      generalize d[k] = s at *
      have hbw := hB.out.size
      have hBa := (Below.refl wr.heap.size wr).alloc (Nat.le_refl _) (.cells #[.int .i64 s.f0, .int .i64 s.f1] 23)
      have b0 : (wr.alloc (.cells #[.int .i64 s.f0, .int .i64 s.f1] 23)).cell? ⟨wr.heap.size, 0, none⟩ = some (.int .i64 s.f0) := by simp [go_sem]
      have b1 : (wr.alloc (.cells #[.int .i64 s.f0, .int .i64 s.f1] 23)).cell? ⟨wr.heap.size, 1, none⟩ = some (.int .i64 s.f1) := by simp [go_sem]
      have R4a := Kd.R_below R4.out hBa
      have R3a := Kd.R_below R3.out hBa
      have hBn := hB.out.trans (hBa.mono hbw)
      obtain ⟨A4, c4, rfl⟩ := Kd.R_slice R4a
      go_wp2_with fail
      generalize wr.alloc (.cells #[.int .i64 s.f0, .int .i64 s.f1] 23) = wa at *
      generalize wr.heap.size = gb at *
      have hgb := World.block_lt_of_cell? wa _ b0
      simp only at hgb
      clear g0 g1 R4 R3 hB hBa
      have hbwa := hBn.size
      rcases snoc_cases out with rfl | ⟨a, t, rfl⟩
      · rw [push_nil] at hms
        simp only [List.length_nil]
        clear hml
        go_quiet (fail)
        have B := pw_below_drewN (Below.refl wa.heap.size wa) nq
        have b0' := (B.cell (World.block_lt_of_cell? _ _ b0)).trans b0
        have b1' := (B.cell (World.block_lt_of_cell? _ _ b1)).trans b1
        have R4b := Kd.R_below R4a B
        have R3b := Kd.R_below R3a B
        have hBb := hBn.trans (B.mono hbwa)
        clear b0 b1 R4a R3a hBn B
        generalize wa.drewN nq = wb at *
        go_wp2_with (first
          | ((with_reducible refine gate_builtin (b := .append) (xs := #[.tmp 48, .tmp 50]) rfl ?_); at_builtin; refine Kd.R_append k23 (w0 := wb) w.heap.size rfl (.tmp 48) (.tmp 50) 28 23 (.agg #[(.int .i64 0), (.int .i64 0)]) 16 rfl Try.underlying28 info23 rfl (by decide) (by omega) _ [] s [.int .i64 s.f0, .int .i64 s.f1] (fun _ => True) (fun _ => False) rfl rfl (k23_mkM _ _ _ s) (fun _ hk => hk.elim) (fun _ _ => trivial) R4b (Below.refl _ _) hBb.size (by first | (simp; done) | (simp; omega) | omega) ?_; intro v5 wc R5 hb5 hg5 hat5))
        have R3c := SpR_grown R3b hg5 (fun k hk => hap.out k hk)
        have hap5 := hap.out.grown R3b hat5
        have hBc := hBb.trans (hb5.mono (Nat.le_refl _))
        clear R4b R3b hBb hb5 hg5 hat5
        go_wp2
        go_roundw
        case rel => exact ⟨k + 1, by omega, by go_num, by rw [hms.out]; exact Lib.hid R5, Lib.hid R3c, Lib.hid hap5, Lib.hid hBc⟩
        case measure => simp [intOf]; omega
      · have hms := Lib.hid (hms.out.trans (push_snoc a t s))
        have hlen : (a ++ [t]).length = a.length + 1 := by simp
        have hlk : a.length + 1 ≤ k := by omega
        obtain ⟨g, hA4, hcells⟩ : ∃ g, A4 = some ⟨g, 0, none⟩ ∧ (wa.cell? ⟨g, a.length * 2, none⟩ = some (.int .i64 t.f0) ∧ wa.cell? ⟨g, a.length * 2 + 1, none⟩ = some (.int .i64 t.f1)) := by
          rcases SpR_shape R4a with ⟨_, h0⟩ | ⟨g, cap, hv⟩
          · simp at h0
          · injection hv with h1 _ _
            subst h1
            have := SpR_cells R4a a.length (by simp)
            simp only [List.getElem_append_right (Nat.le_refl _), Nat.sub_self, List.getElem_cons_zero] at this
            exact ⟨g, rfl, this⟩
        subst hA4
        obtain ⟨t0, t1⟩ := hcells
        have hgl := World.block_lt_of_cell? wa _ t0
        simp only at hgl
        obtain ⟨n, hn⟩ : ∃ n, n = a.length := ⟨_, rfl⟩
        rw [← hn] at t0 t1 hlk hlen
        have Hn := Lib.hid hn
        clear hn hml
        rw [hlen] at R4a ⊢
        have hms0 := hms.out
        clear hms
        by_cases hle : s.f0 ≤ t.f1
        · rw [if_pos hle] at hms0
          have hms := Lib.hid hms0
          clear hms0
          have hd : decide (s.f0 ≤ t.f1) = true := decide_eq_true hle
          have hn0 : 0 ≤ (n : Int) := by omega
          have hn1 : (n : Int) < (n : Int) + 1 := by omega
          have hn2 : 0 < (n : Int) + 1 := by omega
          have hw : IntKind.i64.wrap ((n : Int) + 1 - 1) = (n : Int) := by rw [IntWalk.i64_in _ (by omega)]; omega
          have hw2 : IntKind.i64.wrap (n : Int) = (n : Int) := IntWalk.i64_in _ (by omega)
          go_quiet (fail)
          have B := pw_below_drewN (Below.refl wa.heap.size wa) nq
          have b0' := (B.cell (World.block_lt_of_cell? _ _ b0)).trans b0
          have b1' := (B.cell (World.block_lt_of_cell? _ _ b1)).trans b1
          have t0' := (B.cell (World.block_lt_of_cell? _ _ t0)).trans t0
          have t1' := (B.cell (World.block_lt_of_cell? _ _ t1)).trans t1
          have R4b := Kd.R_below R4a B
          have R3b := Kd.R_below R3a B
          have hBb := hBn.trans (B.mono hbwa)
          clear b0 b1 t0 t1 R4a R3a hBn B hw hw2 hn1
          generalize wa.drewN nq = wb at *
          have hf := SpR_frozen R4b (n * 2 + 1)
          have hw : IntKind.i64.wrap ((n : Int) + 1 - 1) = (n : Int) := by rw [IntWalk.i64_in _ (by omega)]; omega
          have hw2 : IntKind.i64.wrap (n : Int) = (n : Int) := IntWalk.i64_in _ (by omega)
          have hn1 : (n : Int) < (n : Int) + 1 := by omega
          go_wp2_with fail
          go_region
          have hset := SpR_setB R4b (show n < (a ++ [t]).length by rw [hlen]; omega) (if t.f1 < s.f1 then s.f1 else t.f1)
          have hxs : (a ++ [t]).set n ⟨((a ++ [t])[n]'(by rw [hlen]; omega)).f0, if t.f1 < s.f1 then s.f1 else t.f1⟩ = a ++ [⟨t.f0, max t.f1 s.f1⟩] := by
            have hnn := Hn.out
            subst hnn
            have e1 : (if t.f1 < s.f1 then s.f1 else t.f1) = max t.f1 s.f1 := by split <;> omega
            rw [e1]
            simp
          rw [hxs] at hset
          obtain ⟨R5, hb5, hg5⟩ := hset
          have R3c := SpR_grown R3b hg5 (fun k hk he => hap.out k hk (by rw [← he]; rfl))
          have R5d := Kd.R_drew R5
          have R3d := Kd.R_drew R3c
          have hBc := (hBb.trans hb5).drew
          clear R4b R3b hBb hb5 hg5 R5 R3c hw hw2 hf hxs
          go_wp2
          go_roundw
          case rel => exact ⟨k + 1, by omega, by go_num, by rw [hms.out]; exact Lib.hid R5d, Lib.hid R3d, hap, Lib.hid hBc⟩
          case measure => simp [intOf]; omega
        · rw [if_neg hle] at hms0
          have hms := Lib.hid hms0
          clear hms0
          have hd : decide (s.f0 ≤ t.f1) = false := decide_eq_false hle
          have hn0 : 0 ≤ (n : Int) := by omega
          have hn1 : (n : Int) < (n : Int) + 1 := by omega
          have hn2 : 0 < (n : Int) + 1 := by omega
          have hw : IntKind.i64.wrap ((n : Int) + 1 - 1) = (n : Int) := by rw [IntWalk.i64_in _ (by omega)]; omega
          have hw2 : IntKind.i64.wrap (n : Int) = (n : Int) := IntWalk.i64_in _ (by omega)
          go_quiet (fail)
          have B := pw_below_drewN (Below.refl wa.heap.size wa) nq
          have b0' := (B.cell (World.block_lt_of_cell? _ _ b0)).trans b0
          have b1' := (B.cell (World.block_lt_of_cell? _ _ b1)).trans b1
          have t0' := (B.cell (World.block_lt_of_cell? _ _ t0)).trans t0
          have t1' := (B.cell (World.block_lt_of_cell? _ _ t1)).trans t1
          have R4b := Kd.R_below R4a B
          have R3b := Kd.R_below R3a B
          have hBb := hBn.trans (B.mono hbwa)
          clear b0 b1 t0 t1 R4a R3a hBn B hw hw2 hn1
          generalize wa.drewN nq = wb at *
          go_wp2_with (first
            | ((with_reducible refine gate_builtin (b := .append) (xs := #[.tmp 48, .tmp 50]) rfl ?_); at_builtin; refine Kd.R_append k23 (w0 := wb) w.heap.size rfl (.tmp 48) (.tmp 50) 28 23 (.agg #[(.int .i64 0), (.int .i64 0)]) 16 rfl Try.underlying28 info23 rfl (by decide) (by omega) _ (a ++ [t]) s [.int .i64 s.f0, .int .i64 s.f1] (fun _ => True) (fun _ => False) rfl rfl (k23_mkM _ _ _ s) (fun _ hk => hk.elim) (fun _ _ => trivial) R4b (Below.refl _ _) hBb.size (by rw [hlen]; omega) ?_; intro v5 wc R5 hb5 hg5 hat5))
          have R3c := SpR_grown R3b hg5 (fun k hk => hap.out k hk)
          have hap5 := hap.out.grown R3b hat5
          have hBc := hBb.trans (hb5.mono (Nat.le_refl _))
          clear R4b R3b hBb hb5 hg5 hat5
          go_wp2
          go_roundw
          case rel => exact ⟨k + 1, by omega, by go_num, by rw [hms.out]; exact Lib.hid R5, Lib.hid R3c, Lib.hid hap5, Lib.hid hBc⟩
          case measure => simp [intOf]; omega
    · have hend := Lib.hid (show merge d = canonL l from hcan.out)
      have R4 := Lib.hid (show SpR wr w.heap.size u4 (merge d) by have := R4.out; rw [show k = d.length by omega, List.take_length] at this; exact this)
      have hge : (d.length : Int) ≤ (k : Int) := by omega
      go_wp2
      go_ret
      exact ⟨_, rfl, by rw [← hend.out]; exact R4.out, hB.out⟩

#print axioms Canon_any
end Go.Proofs.Ytioglhaofcmebaa
