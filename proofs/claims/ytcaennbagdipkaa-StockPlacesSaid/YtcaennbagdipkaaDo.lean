/- do: one call of the stock, whatever its kind. -/
import Derived.Test.YtcaennbagdipkaaAwake
import Derived.OwnWalk
namespace Go.Proofs.Ytcaennbagdipkaa
open Go.RowKit Go.Maps Go.Proofs.YtcaennbagdipkaaW.PrintWords P
set_option linter.unusedSimpArgs false
set_option linter.unusedVariables false

/-- What a call does: its error, its number, its items; the list and the count behind it. -/
structure Did where
  r : Int
  n : Int
  xs : List ByteArray
  L : List Ent
  c : Int

def doS (L : List Ent) (c : Int) (o : S29) : Did :=
  if o.f0 = 0 then ⟨(addS L c o.f1).1, 0, [], (addS L c o.f1).2.1, (addS L c o.f1).2.2⟩
  else if o.f0 = 1 then ⟨(resS L o.f1 o.f2).1, 0, [], (resS L o.f1 o.f2).2, c⟩
  else if o.f0 = 2 then ⟨0, ((heldO L o.f2).length : Int), [], relL L o.f2, c⟩
  else ⟨0, 0, heldO L o.f2, remL L o.f2, c⟩

theorem do_any (w : World) (m : Nat) (L : List Ent) (c : Int) (o : S29) (hS : Stk w m L c) (hk : o.f1.size ≤ maxLen) (hL : L.length ≤ 1000) (hc0 : 0 ≤ c) (hc : c ≤ 4611686018427387904) :
    Calls Try.prog 12 #[ptr m, .agg #[.int .u8 o.f0, .string o.f1, .string o.f2]] w fun e w' => ∃ v, e = .returned (.tuple #[.int .i64 (doS L c o).r, .int .i64 (doS L c o).n, v]) ∧
      Kd.R Kd.string 9 w' w.heap.size (fun _ => True) v (doS L c o).xs ∧ Stk w' m (doS L c o).L (doS L c o).c ∧ Turn m w w' := by
  obtain ⟨k, it, s⟩ := o
  simp only at *
  have hB := Lib.hid ((Below.refl w.heap.size w).alloc (Nat.le_refl _) (.cells #[.int .u8 k, .string it, .string s] 29))
  have hS1 := hS.below hB.out
  have hml := hS.lt
  unfold doS
  simp only
  by_cases h0 : k = 0
  · rw [if_pos h0]
    have hcon := Add_any (r := (addS L c it).1) (L' := (addS L c it).2.1) (c' := (addS L c it).2.2) (it := it) rfl hS1 hk hc0 hc
    clear hS1 hS
    generalize addS L c it = a at *
    have q0 : (k == 0) = true := by simp [h0]
    clear h0
    go_enter Try.func12, Try.ntmps12
    go_wp2_with (go_at_call 21; refine hcon.mono ?_; rintro e w' ⟨rfl, hS2, hT2⟩)
    go_ret3
    exact ⟨_, rfl, Kd.R_nil _ _ _ _ _, hS2, ((Turn.refl m w).of_below hB.out).trans hT2⟩
  · rw [if_neg h0]
    have q0 : (k == 0) = false := by simp [h0]
    clear h0
    by_cases h1 : k = 1
    · rw [if_pos h1]
      have hcon := Res_any (r := (resS L it s).1) (L' := (resS L it s).2) (it := it) (o := s) rfl hS1 hk hL
      clear hS1 hS
      generalize resS L it s = a at *
      have q1 : (k == 1) = true := by simp [h1]
      clear h1
      go_enter Try.func12, Try.ntmps12
      go_wp2_with (go_at_call 22; refine hcon.mono ?_; rintro e w' ⟨rfl, hS2, hT2⟩)
      go_ret3
      exact ⟨_, rfl, Kd.R_nil _ _ _ _ _, hS2, ((Turn.refl m w).of_below hB.out).trans hT2⟩
    · rw [if_neg h1]
      have q1 : (k == 1) = false := by simp [h1]
      clear h1
      by_cases h2 : k = 2
      · rw [if_pos h2]
        have hcon := Rel_any (o := s) rfl rfl hS1 hL
        clear hS1 hS
        generalize relL L s = a at *
        generalize ((heldO L s).length : Int) = b at *
        have q2 : (k == 2) = true := by simp [h2]
        clear h2
        go_enter Try.func12, Try.ntmps12
        go_wp2_with (go_at_call 25; refine hcon.mono ?_; rintro e w' ⟨rfl, hS2, hT2⟩)
        go_ret3
        exact ⟨_, rfl, Kd.R_nil _ _ _ _ _, hS2, ((Turn.refl m w).of_below hB.out).trans hT2⟩
      · rw [if_neg h2]
        have hcon := Rem_any (o := s) rfl rfl hS1 hL
        clear hS1 hS
        generalize remL L s = a at *
        generalize heldO L s = b at *
        have q2 : (k == 2) = false := by simp [h2]
        clear h2
        go_enter Try.func12, Try.ntmps12
        go_wp2_with (go_at_call 23; refine hcon.mono ?_; rintro e w' ⟨v, rfl, hR, hS2, hT2⟩)
        go_ret3
        exact ⟨v, rfl, Kd.R_lower hR (by simp), hS2, ((Turn.refl m w).of_below hB.out).trans hT2⟩

#print axioms do_any
end Go.Proofs.Ytcaennbagdipkaa
