/- The reference's functions on the list that the stock reads as; moving rows over calls that write elsewhere. -/
import Derived.Test.YtcaennbagdipkaaLawsF
namespace Go.Proofs.Ytcaennbagdipkaa
open Go.RowKit Go.Maps Go.Proofs.YtcaennbagdipkaaW.PrintWords P
set_option linter.unusedSimpArgs false
set_option linter.unusedVariables false

def eR (e : Ent) : S68 := ⟨e.item, e.order⟩
def toR (L : List Ent) : List S68 := L.map eR
theorem toR_length (L : List Ent) : (toR L).length = L.length := by simp [toR]

theorem rheld_toR (L : List Ent) (o : ByteArray) : rheld (toR L) o = heldO L o := by
  unfold rheld heldO held toR
  split
  · rfl
  · rw [List.filter_map, List.map_map]
    rfl
theorem rfree_toR (L : List Ent) : rfree (toR L) = held L es := by
  unfold rfree held toR
  rw [List.filter_map, List.map_map]
  rfl
theorem rrel_toR (L : List Ent) (o : ByteArray) : rrel (toR L) o = toR (relL L o) := by
  unfold rrel relL toR
  split
  · rfl
  · rw [List.map_map, List.map_map]
    apply List.map_congr_left
    intro e _
    simp only [Function.comp_apply]
    by_cases h : e.order = o
    · have h' : (eR e).f1 = o := h
      rw [if_pos h, if_pos h']; rfl
    · have h' : ¬ (eR e).f1 = o := h
      rw [if_neg h, if_neg h']
theorem rrem_toR (L : List Ent) (o : ByteArray) : rrem (toR L) o = toR (remL L o) := by
  unfold rrem remL toR
  split
  · rfl
  · rw [List.filter_map]
    rfl

theorem find_split {L : List Ent} {it : ByteArray} {e : Ent} (h : find L it = some e) : e.item = it ∧ ∃ a r, L = a ++ e :: r ∧ ∀ x ∈ a, x.item ≠ it := by
  unfold find at h
  obtain ⟨h1, a, r, h2, h3⟩ := List.find?_eq_some_iff_append.1 h
  exact ⟨of_decide_eq_true h1, a, r, h2, fun x hx => by simpa using h3 x hx⟩

theorem none_toR {L : List Ent} {it : ByteArray} (h : find L it = none) : ∀ x ∈ toR L, x.f0 ≠ it := by
  intro x hx
  obtain ⟨e, he, rfl⟩ := List.mem_map.1 hx
  exact find_none h e he

theorem toR_split (a : List Ent) (e : Ent) (r : List Ent) : toR (a ++ e :: r) = toR a ++ eR e :: toR r := by simp [toR]
theorem toR_not {a : List Ent} {it : ByteArray} (h : ∀ x ∈ a, x.item ≠ it) : ∀ x ∈ toR a, x.f0 ≠ it := by
  intro x hx
  obtain ⟨e, he, rfl⟩ := List.mem_map.1 hx
  exact h e he

theorem refOf (L : List Ent) (it : ByteArray) (hL : L.length ≤ 1000) : sawmillref47_Of.f 3000 (toR L) it = some (ofS L it) := by
  unfold ofS
  cases hf : find L it with
  | none => exact Of_none 3000 _ it (by rw [toR_length]; omega) (by rw [toR_length]; omega) (none_toR hf)
  | some e =>
    obtain ⟨hi, a, r, rfl, hn⟩ := find_split hf
    have := toR_length (a ++ e :: r)
    rw [toR_split] at this ⊢
    have ha := toR_length a
    exact Of_some 3000 _ (eR e) _ it hi (by rw [ha]; simp at hL; omega) (by omega) (toR_not hn)

theorem refFree (L : List Ent) (hL : L.length ≤ 1000) : sawmillref47_Free.f 3000 (toR L) = some (held L es) := by
  rw [← rfree_toR]
  exact Free_eq 3000 _ (by rw [toR_length]; omega) (by rw [toR_length]; omega)
theorem refHeld (L : List Ent) (o : ByteArray) (hL : L.length ≤ 1000) : sawmillref47_Held.f 3000 (toR L) o = some (heldO L o) := by
  rw [← rheld_toR]
  exact Held_eq 3000 _ o (by rw [toR_length]; omega) (by rw [toR_length]; omega)

theorem setL_mid {a r : List Ent} {e : Ent} {o : ByteArray} (hA : (a ++ e :: r).Pairwise (fun a b => a.item ≠ b.item)) : setL (a ++ e :: r) e.item o = a ++ { e with order := o } :: r := by
  obtain ⟨h1, h2, h3⟩ := List.pairwise_append.1 hA
  obtain ⟨h4, h5⟩ := List.pairwise_cons.1 h2
  have e1 := setL_id (o := o) (fun x hx => h3 x hx e List.mem_cons_self)
  have e2 := setL_id (o := o) (fun x hx => (h4 x hx).symm)
  simp only [setL, List.map_append, List.map_cons, if_true] at e1 e2 ⊢
  rw [e1, e2]

theorem likewise_eq (L : List Ent) (c : Int) (o : S29) (hA : L.Pairwise (fun a b => a.item ≠ b.item)) (hL : L.length ≤ 1000) :
    sawmilllaw47_likewise.f 3000 (toR L) o.f0 o.f1 o.f2 = some (toR (doS L c o).L, (doS L c o).r, (doS L c o).n, (doS L c o).xs) := by
  have hl := toR_length L
  unfold sawmilllaw47_likewise.f doS
  by_cases k0 : o.f0 = 0
  · rw [if_pos k0, if_pos k0]
    unfold addS
    by_cases h1 : o.f1 = es
    · rw [h1, if_pos rfl, Add_name]; rfl
    · rw [if_neg h1]
      cases hf : find L o.f1 with
      | some e =>
        obtain ⟨hi, a, r, rfl, hn⟩ := find_split hf
        rw [if_pos (by rfl)]
        have ha := toR_length a
        rw [toR_split] at hl ⊢
        rw [Add_exists 3000 _ (eR e) _ o.f1 h1 hi (by rw [ha]; simp at hL; omega) (by omega) (toR_not hn)]
        rfl
      | none =>
        rw [if_neg (by simp)]
        by_cases h2 : 512 ≤ L.length
        · rw [if_pos h2, Add_full 3000 _ o.f1 h1 (by omega) (none_toR hf) (by omega) (by omega)]; rfl
        · rw [if_neg h2, Add_new 3000 _ o.f1 h1 (by omega) (none_toR hf) (by omega)]
          simp [toR, eR]
  · rw [if_neg k0, if_neg k0]
    by_cases k1 : o.f0 = 1
    · rw [if_pos k1, if_pos k1]
      unfold resS
      by_cases h1 : o.f2 = es
      · rw [h1, if_pos rfl, Reserve_name]; rfl
      · rw [if_neg h1]
        cases hf : find L o.f1 with
        | none =>
          rw [Reserve_none 3000 _ o.f1 o.f2 h1 (by omega) (by omega) (none_toR hf)]; rfl
        | some e =>
          obtain ⟨hi, a, r, rfl, hn⟩ := find_split hf
          have ha := toR_length a
          simp only
          by_cases h2 : e.order = es
          · rw [if_pos h2]
            rw [toR_split] at hl ⊢
            rw [Reserve_ok 3000 _ (eR e) _ o.f1 o.f2 h1 hi (by rw [ha]; simp at hL; omega) (by omega) (toR_not hn) h2]
            rw [← hi, setL_mid hA, toR_split]
            rfl
          · rw [if_neg h2]
            rw [toR_split] at hl ⊢
            rw [Reserve_state 3000 _ (eR e) _ o.f1 o.f2 h1 hi (by rw [ha]; simp at hL; omega) (by omega) (toR_not hn) h2]
            rfl
    · rw [if_neg k1, if_neg k1]
      by_cases k2 : o.f0 = 2
      · rw [if_pos k2, if_pos k2, Release_eq 3000 _ o.f2 (by omega) (by omega), rrel_toR, rheld_toR]; rfl
      · rw [if_neg k2, if_neg k2, Remove_eq 3000 _ o.f2 (by omega) (by omega), rrem_toR, rheld_toR]; rfl

theorem doS_xs (L : List Ent) (c : Int) (o : S29) : (doS L c o).xs.length ≤ L.length := by
  unfold doS
  split
  · simp
  · split
    · simp
    · split
      · simp
      · exact heldO_length L o.f2

/-! ### rows and the stock, over calls that write elsewhere -/
theorem R_turn2 {α : Type} {d : Kd α} {e base m : Nat} {ok : Nat → Prop} {w w' : World} {v : Value} {xs : List α} (h : d.R e w base ok v xs) (hok : ∀ k, ok k → m + 2 ≤ k) (hT : Turn m w w') : d.R e w' base ok v xs :=
  Kd.R_mono (Kd.R_step (Kd.R_bound h) (fun k hk hlt => hT.block k hlt (by have := hok k hk.1; omega) (by have := hok k hk.1; omega))) (fun _ hk => hk.1)
theorem R_kept {α : Type} {d : Kd α} {e base : Nat} {ok S : Nat → Prop} {w w' : World} {v : Value} {xs : List α} (h : d.R e w base ok v xs) (hok : ∀ k, base ≤ k → ok k → ¬ S k) (hT : Kept w w' S) : d.R e w' base ok v xs :=
  Kd.R_mono (Kd.R_step (Kd.R_bound h) (fun k hk hlt => hT.2 k hlt (hok k hk.2.1 hk.1))) (fun _ hk => hk.1)
theorem Stk.kept_ {w w' : World} {m : Nat} {L : List Ent} {c : Int} {S : Nat → Prop} (h : Stk w m L c) (hT : Kept w w' S) (h1 : ¬ S m) (h2 : ¬ S (m + 1)) : Stk w' m L c :=
  h.kept (hT.2 m (by have := h.lt; omega) h1) (hT.2 (m + 1) h.lt h2)
theorem Kept.cell_ {w w' : World} {S : Nat → Prop} (hT : Kept w w' S) {p : Addr} {v : Value} (h : w.cell? p = some v) (hp : ¬ S p.block) : w'.cell? p = some v :=
  (World.cell?_of_block (w := w) (hT.2 p.block (World.block_lt_of_cell? w p h) hp)).trans h

#print axioms likewise_eq
#print axioms R_kept
end Go.Proofs.Ytcaennbagdipkaa
