/- The chapter's examples: what the functions answer at them. -/
import Derived.Test.YtioglhaofcmebaaPx0
import Derived.Test.YtioglhaofcmebaaPx1
import Derived.Test.YtioglhaofcmebaaPA1
import Derived.Test.YtioglhaofcmebaaPA2
import Derived.Test.YtioglhaofcmebaaPA3
import Derived.Test.YtioglhaofcmebaaExt
import Derived.Deep.RegionHeld3
namespace Go.Proofs.Ytioglhaofcmebaa.P.Ext
open Go.RowKit Go.Proofs.YtioglhaofcmebaaW.PrintWords Go.Proofs.Ytioglhaofcmebaa P
set_option linter.unusedSimpArgs false
set_option linter.unusedVariables false

theorem litS (w : World) (xs : List S23) (cs : Array Value) (hcs : (flat xs).toArray = cs) (hm : xs.length ≤ 1000) : SpC (w.alloc (.cells cs 23)) (some ⟨w.heap.size, 0, none⟩) xs := by
  subst hcs
  have := SpR_of_block (w := w.alloc (.cells (flat xs).toArray 23)) (base := 0) (g := w.heap.size) (cap := xs.length) (xs := xs) (Nat.zero_le _) (Go.heap_alloc_new w _) (Nat.le_refl _) (by unfold maxLen; omega) (by simp [flat_length]) (by rw [← flat_length]; simp)
  exact (Kd.R_reads' this).2.2

/-- A part of a row that is read. -/
theorem SpC_part {w : World} {g o : Nat} {xs ys zs : List S23} (h : SpC w (some ⟨g, o, none⟩) (xs ++ ys ++ zs)) : SpC w (some ⟨g, o + xs.length * 2, none⟩) ys := by
  refine ⟨rfl, by have := h.2.1; simp at this; omega, fun hn => ⟨⟨g, o + xs.length * 2, none⟩, rfl, fun j p hj => ?_⟩⟩
  obtain ⟨ad, he, hc⟩ := h.2.2 (by simp; omega)
  cases he
  have hjl : j < ys.length := by
    rcases Nat.lt_or_ge j ys.length with h1 | h1
    · exact h1
    · rw [List.getElem?_eq_none h1] at hj; cases hj
  obtain ⟨c, h1, h2, h3⟩ := hc (xs.length + j) p (by rw [List.append_assoc, List.getElem?_append_right (by omega)]; simp; rw [List.getElem?_append_left hjl]; exact hj)
  refine ⟨c, h1, h2, fun i u hu => ?_⟩
  have := h3 i u hu
  have e1 : ∀ (o n : Nat), (⟨g, o, none⟩ : Addr).add n = ⟨g, o + n, none⟩ := fun o n => by unfold Addr.add; split <;> simp_all
  rw [e1] at this ⊢
  have e2 : k23.sz = 2 := rfl
  rw [e2] at this ⊢
  rw [show o + xs.length * 2 + (j * 2 + i) = o + ((xs.length + j) * 2 + i) by omega]
  exact this

def la : List S23 := [⟨5, 8⟩, ⟨1, 3⟩, ⟨7, 7⟩, ⟨3, 4⟩, ⟨6, 9⟩]
theorem canF {l x : List S23} (hl : l.length ≤ 1000) (h1 : Can x) (h2 : ∀ n, mem x n ↔ mem l n) : span_Canon.f l = some x := by
  unfold span_Canon.f
  rw [if_pos (by omega), canonL_eq h1 h2]
theorem mem0 (n : Int) : mem [] n ↔ False := ⟨mem_nil n, False.elim⟩
theorem f1 : span_Canon.f [⟨0, 2⟩, ⟨5, 8⟩, ⟨10, 13⟩] = some [⟨0, 2⟩, ⟨5, 8⟩, ⟨10, 13⟩] := canF (by simp) (by simp [Can]) (fun n => Iff.rfl)
theorem f2 : span_Canon.f [⟨7, 7⟩] = some [] := canF (by simp) Can.nil (fun n => by simp only [mem_cons, mem0, or_false, false_iff]; omega)
theorem f3 : span_Canon.f la = some [⟨1, 4⟩, ⟨5, 9⟩] := canF (by simp [la]) (by simp [Can]) (fun n => by simp only [la, mem_cons, mem0, or_false]; omega)
theorem f4 : span_Canon.f [⟨0, 10⟩] = some [⟨0, 10⟩] := canF (by simp) (by simp [Can]) (fun n => Iff.rfl)
theorem f5 : span_Canon.f [⟨3, 5⟩] = some [⟨3, 5⟩] := canF (by simp) (by simp [Can]) (fun n => Iff.rfl)
theorem f6 : span_Canon.f [⟨0, 4⟩, ⟨6, 9⟩] = some [⟨0, 4⟩, ⟨6, 9⟩] := canF (by simp) (by simp [Can]) (fun n => Iff.rfl)
theorem f7 : span_Canon.f [⟨2, 7⟩] = some [⟨2, 7⟩] := canF (by simp) (by simp [Can]) (fun n => Iff.rfl)
theorem f8 : span_Canon.f [⟨0, 4⟩, ⟨2, 6⟩] = some [⟨0, 6⟩] := canF (by simp) (by simp [Can]) (fun n => by simp only [mem_cons, mem0, or_false, false_iff]; omega)
theorem f9 : span_Union.f [⟨5, 8⟩] [⟨1, 3⟩] = some [⟨1, 3⟩, ⟨5, 8⟩] := by
  unfold span_Union.f
  rw [if_pos (by simp), ← canonL_eq (x := [⟨1, 3⟩, ⟨5, 8⟩]) (by simp [Can]) (fun n => by simp only [List.cons_append, List.nil_append, mem_cons, mem0, or_false]; omega)]
theorem g1 : span_Longest.f 100 [⟨0, 2⟩, ⟨5, 8⟩, ⟨10, 13⟩] = some (5, 8, true) := by unfold span_Longest.f; rw [f1]; decide +kernel
theorem g2 : span_Longest.f 100 [⟨7, 7⟩] = some (0, 0, false) := by unfold span_Longest.f; rw [f2]; decide +kernel
theorem g3 : span_Len.f (-2) 3 = some 5 := by decide +kernel
theorem g4 : span_Meet.f 1 5 3 9 = some (3, 5) := by decide +kernel
theorem g5 : sawmillref03_Same.f 100 [⟨1, 4⟩, ⟨5, 9⟩] [⟨1, 4⟩, ⟨5, 9⟩] = some true := by decide +kernel
theorem g6 : span_Is.f 100 la = some false := by decide +kernel
theorem g7 : span_Is.f 100 [] = some true := by decide +kernel
theorem g8 : span_Minus.f 100 [⟨0, 10⟩] [⟨3, 5⟩] = some [⟨0, 3⟩, ⟨5, 10⟩] := by unfold span_Minus.f; rw [f4, f5]; kernel_rfl
theorem g9 : sawmillref03_Same.f 100 [⟨0, 3⟩, ⟨5, 10⟩] [⟨0, 3⟩, ⟨5, 10⟩] = some true := by decide +kernel
theorem g10 : span_Common.f 100 [⟨0, 4⟩, ⟨6, 9⟩] [⟨2, 7⟩] = some [⟨2, 4⟩, ⟨6, 7⟩] := by unfold span_Common.f; rw [f6, f7]; kernel_rfl
theorem g11 : sawmillref03_Same.f 100 [⟨2, 4⟩, ⟨6, 7⟩] [⟨2, 4⟩, ⟨6, 7⟩] = some true := by decide +kernel
theorem g12 : span_Total.f 100 [⟨0, 4⟩, ⟨2, 6⟩] = some 6 := by unfold span_Total.f; rw [f8]; decide +kernel
theorem g13 : span_Has.f la 8 = some true := by decide +kernel
theorem g14 : span_Has.f la 4 = some false := by decide +kernel

end Go.Proofs.Ytioglhaofcmebaa.P.Ext
