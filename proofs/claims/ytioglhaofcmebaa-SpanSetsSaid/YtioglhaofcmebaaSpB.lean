/- slices.IndexFunc and slices.ContainsFunc at spans, with the two closures of the program. -/
import Derived.Test.YtioglhaofcmebaaPA1
import Derived.Test.YtioglhaofcmebaaSpA
namespace Go.Proofs.Ytioglhaofcmebaa
open Go.RowKit Go.Proofs.YtioglhaofcmebaaW.PrintWords P
set_option linter.unusedSimpArgs false
set_option linter.unusedVariables false

def pE (x : S23) : Bool := decide (x.f0 ≥ x.f1)
def pH (n : Int) (x : S23) : Bool := decide (x.f0 ≤ n) && decide (n < x.f1)

theorem empty_any (W : World) (x : S23) : Calls Try.prog 35 #[.agg #[.int .i64 x.f0, .int .i64 x.f1]] W fun e w' => e = .returned (.bool (pE x)) ∧ Below W.heap.size W w' :=
  span_empty.calls x.f0 x.f1 (pE x) W rfl

theorem has_any (W : World) (B : Nat) (n : Int) (hB : W.cell? ⟨B, 0, none⟩ = some (.int .i64 n)) (x : S23) :
    Calls Try.prog 44 #[.agg #[.int .i64 x.f0, .int .i64 x.f1], .pointer (some ⟨B, 0, none⟩)] W fun e w' => e = .returned (.bool (pH n x)) ∧ Below W.heap.size W w' := by
  have hlt := World.block_lt_of_cell? W _ hB
  have hne : B ≠ W.heap.size := by simp only at hlt; omega
  have hc := Lib.cell?_alloc_some (.cells #[.int .i64 x.f0, .int .i64 x.f1] 23) hB
  obtain ⟨a, b⟩ := x
  simp only at *
  unfold pH
  by_cases h1 : a ≤ n
  · have q1 : decide (a ≤ n) = true := by simpa using h1
    by_cases h2 : n < b
    · have q2 : decide (n < b) = true := by simpa using h2
      go_enter Try.func44, Try.ntmps44
      go_wp2
      go_ret
      exact ⟨by simp [h1, h2], (Below.refl _ _).alloc (Nat.le_refl _) _⟩
    · have q2 : decide (n < b) = false := by simpa using h2
      go_enter Try.func44, Try.ntmps44
      go_wp2
      go_ret
      exact ⟨by simp [h1, h2], (Below.refl _ _).alloc (Nat.le_refl _) _⟩
  · have q1 : decide (a ≤ n) = false := by simpa using h1
    go_enter Try.func44, Try.ntmps44
    go_wp2
    go_ret
    exact ⟨by simp [h1], (Below.refl _ _).alloc (Nat.le_refl _) _⟩

set_option maxRecDepth 100000 in
theorem IndexE (w : World) (A : Option Addr) (c : Nat) (l : List S23) (hC : SpC w A l) (hc : l.length ≤ c) :
    Calls Try.prog 45 #[.slice A l.length c, .func (.func 35) #[] #[]] w fun e w' => e = .returned (.int .i64 (idxS pE l)) ∧ Below w.heap.size w w' := by
  have HC := Lib.hid hC
  have hl63 := hC.2.1
  clear hC
  have e35 : ∀ args w, (callFunc 35 args).run Try.prog w = .ok (.enter 35 args) w := enters_of Try.func35 (by kernel_rfl) rfl
  go_enter Try.func45, Try.ntmps45
  go_wp2_with fail
  go_loopw [8] (fun i wr => ∃ k : Nat, k ≤ l.length ∧ i = .int .i64 k ∧ Hid (∀ x ∈ l.take k, pE x = false) ∧ Hid (Below w.heap.size w wr)) (fun i _ => l.length - (intOf i).toNat)
  case atStart => exact ⟨0, Nat.zero_le _, rfl, Lib.hid (fun x hx => by simp at hx), Lib.hid (Below.refl _ _)⟩
  case round =>
    obtain ⟨k, hk, rfl, hn, hb⟩ := hrel
    by_cases hlt : k < l.length
    · obtain ⟨ad, rfl, g0, g1⟩ := at_T23 (Kd.C_below HC.out hb.out) (k : Int) (by omega) (by omega)
      rw [rd23 l k hlt, Int.toNat_natCast] at g0 g1
      have hu := Lib.hid (show ∃ u, u = l[k] from ⟨_, rfl⟩)
      have hfalse := Lib.hid (fun (h : pE l[k] = false) => (show ∀ x ∈ l.take (k + 1), pE x = false from fun x hx => by
        rw [List.take_add_one, List.getElem?_eq_getElem hlt] at hx
        rcases List.mem_append.1 hx with hx | hx
        · exact hn.out x hx
        · obtain rfl := List.mem_singleton.1 (by simpa using hx)
          exact h))
      have htrue := Lib.hid (fun (h : pE l[k] = true) => idxS_some (p := pE) k hlt h hn.out)
      clear hu
      generalize l[k] = u at *
      have hcall := (empty_any wr u)
      cases hq : pE u with
      | false =>
        rw [hq] at hcall
        have hnn := hfalse.out hq
        have HNN := Lib.hid hnn
        clear hq hfalse htrue hnn
        go_wp2_with (go_at_call 35; refine hcall.mono ?_; rintro e w2 ⟨rfl, B2⟩)
        go_roundw
        case rel => exact ⟨k + 1, by omega, by go_num, HNN, Lib.hid (hb.out.trans (B2.mono hb.out.size))⟩
        case measure => simp [intOf]; omega
      | true =>
        rw [hq] at hcall
        have ht := Lib.hid (htrue.out hq)
        clear hq hfalse htrue
        go_wp2_with (go_at_call 35; refine hcall.mono ?_; rintro e w2 ⟨rfl, B2⟩)
        go_ret
        exact ⟨by first | (rw [ht.out]; done) | (rw [ht.out]; rfl), hb.out.trans (B2.mono hb.out.size)⟩
    · have hend := Lib.hid (idxS_none (p := pE) (l := l) (fun x hx => hn.out x (by rw [show k = l.length by omega, List.take_length]; exact hx)))
      have hge : (l.length : Int) ≤ (k : Int) := by omega
      go_wp2
      go_ret
      exact ⟨by first | (rw [hend.out]; done) | (rw [hend.out]; rfl), hb.out⟩

set_option maxRecDepth 100000 in
theorem IndexH (w : World) (A : Option Addr) (c : Nat) (l : List S23) (B : Nat) (m : Int) (hB : w.cell? ⟨B, 0, none⟩ = some (.int .i64 m)) (hC : SpC w A l) (hc : l.length ≤ c) :
    Calls Try.prog 45 #[.slice A l.length c, .func (.func 44) #[] #[.pointer (some ⟨B, 0, none⟩)]] w fun e w' => e = .returned (.int .i64 (idxS (pH m) l)) ∧ Below w.heap.size w w' := by
  have HC := Lib.hid hC
  have hl63 := hC.2.1
  have HBc := Lib.hid hB
  clear hB
  clear hC
  have e44 : ∀ args w, (callFunc 44 args).run Try.prog w = .ok (.enter 44 args) w := enters_of Try.func44 (by kernel_rfl) rfl
  go_enter Try.func45, Try.ntmps45
  go_wp2_with fail
  go_loopw [8] (fun i wr => ∃ k : Nat, k ≤ l.length ∧ i = .int .i64 k ∧ Hid (∀ x ∈ l.take k, (pH m) x = false) ∧ Hid (Below w.heap.size w wr)) (fun i _ => l.length - (intOf i).toNat)
  case atStart => exact ⟨0, Nat.zero_le _, rfl, Lib.hid (fun x hx => by simp at hx), Lib.hid (Below.refl _ _)⟩
  case round =>
    obtain ⟨k, hk, rfl, hn, hb⟩ := hrel
    by_cases hlt : k < l.length
    · obtain ⟨ad, rfl, g0, g1⟩ := at_T23 (Kd.C_below HC.out hb.out) (k : Int) (by omega) (by omega)
      rw [rd23 l k hlt, Int.toNat_natCast] at g0 g1
      have hu := Lib.hid (show ∃ u, u = l[k] from ⟨_, rfl⟩)
      have hfalse := Lib.hid (fun (h : (pH m) l[k] = false) => (show ∀ x ∈ l.take (k + 1), (pH m) x = false from fun x hx => by
        rw [List.take_add_one, List.getElem?_eq_getElem hlt] at hx
        rcases List.mem_append.1 hx with hx | hx
        · exact hn.out x hx
        · obtain rfl := List.mem_singleton.1 (by simpa using hx)
          exact h))
      have htrue := Lib.hid (fun (h : (pH m) l[k] = true) => idxS_some (p := (pH m)) k hlt h hn.out)
      clear hu
      generalize l[k] = u at *
      have hcall := (has_any wr B m ((hb.out.cell (World.block_lt_of_cell? w _ HBc.out)).trans HBc.out) u)
      cases hq : (pH m) u with
      | false =>
        rw [hq] at hcall
        have hnn := hfalse.out hq
        have HNN := Lib.hid hnn
        clear hq hfalse htrue hnn
        go_wp2_with (go_at_call 44; refine hcall.mono ?_; rintro e w2 ⟨rfl, B2⟩)
        go_roundw
        case rel => exact ⟨k + 1, by omega, by go_num, HNN, Lib.hid (hb.out.trans (B2.mono hb.out.size))⟩
        case measure => simp [intOf]; omega
      | true =>
        rw [hq] at hcall
        have ht := Lib.hid (htrue.out hq)
        clear hq hfalse htrue
        go_wp2_with (go_at_call 44; refine hcall.mono ?_; rintro e w2 ⟨rfl, B2⟩)
        go_ret
        exact ⟨by first | (rw [ht.out]; done) | (rw [ht.out]; rfl), hb.out.trans (B2.mono hb.out.size)⟩
    · have hend := Lib.hid (idxS_none (p := (pH m)) (l := l) (fun x hx => hn.out x (by rw [show k = l.length by omega, List.take_length]; exact hx)))
      have hge : (l.length : Int) ≤ (k : Int) := by omega
      go_wp2
      go_ret
      exact ⟨by first | (rw [hend.out]; done) | (rw [hend.out]; rfl), hb.out⟩

theorem idxS_ge (p : S23 → Bool) (l : List S23) : decide (idxS p l ≥ 0) = l.any p := by
  unfold idxS
  cases h : l.findIdx? p with
  | none =>
    have := List.findIdx?_eq_none_iff.1 h
    have h2 : l.any p = false := by rw [List.any_eq_false]; intro x hx; simp [this x hx]
    rw [h2]; rfl
  | some i =>
    obtain ⟨hi, hp, _⟩ := List.findIdx?_eq_some_iff_getElem.1 h
    have h2 : l.any p = true := List.any_eq_true.2 ⟨_, List.getElem_mem hi, hp⟩
    rw [h2]; simp

set_option maxRecDepth 100000 in
theorem Contains_any (w : World) (A : Option Addr) (c : Nat) (l : List S23) (B : Nat) (m : Int) (hB : w.cell? ⟨B, 0, none⟩ = some (.int .i64 m)) (hC : SpC w A l) (hc : l.length ≤ c) :
    Calls Try.prog 43 #[.slice A l.length c, .func (.func 44) #[] #[.pointer (some ⟨B, 0, none⟩)]] w fun e w' => e = .returned (.bool (l.any (pH m))) ∧ Below w.heap.size w w' := by
  have hcon := IndexH w A c l B m hB hC hc
  have hge := idxS_ge (pH m) l
  clear hC hB
  generalize l.any (pH m) = r at *
  generalize idxS (pH m) l = i at *
  go_enter Try.func43, Try.ntmps43
  go_wp2_with (go_at_call 45; refine hcon.mono ?_; rintro e w2 ⟨rfl, B2⟩)
  go_ret
  exact ⟨by first | (rw [← hge]; done) | (rw [← hge]; rfl), B2⟩

set_option maxRecDepth 100000 in
theorem Has_any (w : World) (A : Option Addr) (c : Nat) (l : List S23) (m : Int) (hC : SpC w A l) (hc : l.length ≤ c) :
    Calls Try.prog 32 #[.slice A l.length c, .int .i64 m] w fun e w' => e = .returned (.bool (l.any (pH m))) ∧ Below w.heap.size w w' := by
  have hB := (Below.refl w.heap.size w).alloc (Nat.le_refl _) (.cells #[.int .i64 m] 3)
  have hcon := Contains_any (w.alloc (.cells #[.int .i64 m] 3)) A c l w.heap.size m (by simp [go_sem]) (Kd.C_below hC hB) hc
  clear hC
  generalize l.any (pH m) = r at *
  go_enter Try.func32, Try.ntmps32
  go_wp2_with (go_at_call 43; refine hcon.mono ?_; rintro e w2 ⟨rfl, B2⟩)
  go_ret
  exact ⟨rfl, hB.trans (B2.mono (by simp))⟩

#print axioms Has_any
#print axioms IndexE
end Go.Proofs.Ytioglhaofcmebaa
