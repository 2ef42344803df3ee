/- One contract a method, for every state of the stock; the reference's Same; the literals that the examples hold. -/
import Derived.Test.YtcaennbagdipkaaMore
namespace Go.Proofs.Ytcaennbagdipkaa
open Go.RowKit Go.Maps Go.Proofs.YtcaennbagdipkaaW.PrintWords P
set_option linter.unusedSimpArgs false
set_option linter.unusedVariables false

def find (L : List Ent) (it : ByteArray) : Option Ent := L.find? fun e => decide (e.item = it)

theorem find_some {L : List Ent} {it : ByteArray} {e : Ent} (h : find L it = some e) : e ∈ L ∧ e.item = it :=
  ⟨List.mem_of_find?_eq_some h, by have := List.find?_some h; simpa using this⟩
theorem find_none {L : List Ent} {it : ByteArray} (h : find L it = none) : ∀ e ∈ L, e.item ≠ it := fun e he => by
  have := (List.find?_eq_none.1 h) e he
  simpa using this

/-- Add: the code, the list, the count behind it. -/
def addS (L : List Ent) (c : Int) (it : ByteArray) : Int × List Ent × Int :=
  if it = es then (6, L, c) else if (find L it).isSome = true then (7, L, c) else if 512 ≤ L.length then (12, L, c) else (0, L ++ [⟨it, c + 1, es⟩], c + 1)
/-- Reserve: the code, the list. -/
def resS (L : List Ent) (it o : ByteArray) : Int × List Ent :=
  if o = es then (6, L) else match find L it with
    | none => (8, L)
    | some e => if e.order = es then (0, setL L it o) else (14, L)
/-- Of. -/
def ofS (L : List Ent) (it : ByteArray) : ByteArray × Bool := match find L it with
  | none => (es, false)
  | some e => (e.order, true)

theorem New_any (w : World) : Calls Try.prog 11 #[] w fun e w' => e = .returned (ptr w.heap.size) ∧ Stk w' w.heap.size [] 0 ∧ Below w.heap.size w w' :=
  (SNew w).mono fun e w' ⟨he, hw⟩ => ⟨he, by rw [← hw]; exact Stk.made w, by rw [← hw]; exact ((Below.refl _ _).alloc (Nat.le_refl _) _).alloc (by simp) _⟩

section
variable {w : World} {m : Nat} {L : List Ent} {c : Int}

theorem Add_any {it : ByteArray} {r : Int} {L' : List Ent} {c' : Int} (h : addS L c it = (r, L', c')) (hS : Stk w m L c) (hk : it.size ≤ maxLen) (hc0 : 0 ≤ c) (hc : c ≤ 4611686018427387904) :
    Calls Try.prog 21 #[ptr m, .string it] w fun e w' => e = .returned (.int .i64 r) ∧ Stk w' m L' c' ∧ Turn m w w' := by
  unfold addS at h
  by_cases h1 : it = es
  · subst h1
    rw [if_pos rfl] at h
    cases h
    exact (SAdd_name w m).mono fun e w' ⟨he, hw⟩ => ⟨he, hw ▸ hS, hw ▸ Turn.refl m w⟩
  · rw [if_neg h1] at h
    cases hf : find L it with
    | some e =>
      rw [hf] at h
      cases h
      obtain ⟨he, hi⟩ := find_some hf
      exact (SAdd_exists w m L c it hS hk h1 e he hi).mono fun e w' ⟨he, hb⟩ => ⟨he, hS.below hb, (Turn.refl m w).of_below hb⟩
    | none =>
      rw [hf] at h
      have hno := find_none hf
      by_cases h2 : 512 ≤ L.length
      · rw [if_neg (by simp), if_pos h2] at h
        cases h
        exact (SAdd_full w m L c it hS hk h1 hno h2).mono fun e w' ⟨he, hb⟩ => ⟨he, hS.below hb, (Turn.refl m w).of_below hb⟩
      · rw [if_neg (by simp), if_neg h2] at h
        cases h
        exact SAdd_new w m L c it hS hk h1 hno (by omega) hc0 hc

theorem Res_any {it o : ByteArray} {r : Int} {L' : List Ent} (h : resS L it o = (r, L')) (hS : Stk w m L c) (hk : it.size ≤ maxLen) (hL : L.length ≤ 1000) :
    Calls Try.prog 22 #[ptr m, .string it, .string o] w fun e w' => e = .returned (.int .i64 r) ∧ Stk w' m L' c ∧ Turn m w w' := by
  unfold resS at h
  by_cases h1 : o = es
  · subst h1
    rw [if_pos rfl] at h
    cases h
    exact (SRes_name w m it).mono fun e w' ⟨he, hw⟩ => ⟨he, hw ▸ hS, hw ▸ Turn.refl m w⟩
  · rw [if_neg h1] at h
    cases hf : find L it with
    | none =>
      rw [hf] at h
      cases h
      exact (SRes_none w m L c it o hS hk h1 (find_none hf)).mono fun e w' ⟨he, hb⟩ => ⟨he, hS.below hb, (Turn.refl m w).of_below hb⟩
    | some e =>
      rw [hf] at h
      simp only at h
      obtain ⟨he, hi⟩ := find_some hf
      by_cases h2 : e.order = es
      · rw [if_pos h2] at h
        cases h
        have : e = ⟨it, e.n, es⟩ := by cases e; simp at hi h2 ⊢; exact ⟨hi, h2⟩
        rw [this] at he
        exact SRes_ok w m L c it o hS hk h1 e.n he (by unfold maxLen; omega)
      · rw [if_neg h2] at h
        cases h
        exact (SRes_state w m L c it o hS hk h1 e he hi h2).mono fun e w' ⟨he, hb⟩ => ⟨he, hS.below hb, (Turn.refl m w).of_below hb⟩

theorem Of_any {it : ByteArray} {r : ByteArray} {b : Bool} (h : ofS L it = (r, b)) (hS : Stk w m L c) (hk : it.size ≤ maxLen) :
    Calls Try.prog 14 #[ptr m, .string it] w fun e w' => e = .returned (.tuple #[.string r, .bool b]) ∧ Below w.heap.size w w' := by
  unfold ofS at h
  cases hf : find L it with
  | none =>
    rw [hf] at h
    cases h
    exact SOf_no w m L c it hS hk (find_none hf)
  | some e =>
    rw [hf] at h
    cases h
    obtain ⟨he, hi⟩ := find_some hf
    exact SOf_yes w m L c it hS hk e he hi

theorem Rel_any {o : ByteArray} {r : Int} {L' : List Ent} (h1 : ((heldO L o).length : Int) = r) (h2 : relL L o = L') (hS : Stk w m L c) (hL : L.length ≤ 1000) :
    Calls Try.prog 25 #[ptr m, .string o] w fun e w' => e = .returned (.int .i64 r) ∧ Stk w' m L' c ∧ Turn m w w' := by
  subst h1 h2
  exact Release_any w m L c o hS hL

theorem Rem_any {o : ByteArray} {xs : List ByteArray} {L' : List Ent} (h1 : heldO L o = xs) (h2 : remL L o = L') (hS : Stk w m L c) (hL : L.length ≤ 1000) :
    Calls Try.prog 23 #[ptr m, .string o] w fun e w' => ∃ v, e = .returned v ∧ Kd.R Kd.string 9 w' w.heap.size (fun _ => True) v xs ∧ Stk w' m L' c ∧ Turn m w w' := by
  subst h1 h2
  exact Remove_any w m L c o hS hL

theorem Hel_any {o : ByteArray} {xs : List ByteArray} (h1 : heldO L o = xs) (hS : Stk w m L c) (hL : L.length ≤ 1000) :
    Calls Try.prog 19 #[ptr m, .string o] w fun e w' => ∃ v, e = .returned v ∧ Kd.R Kd.string 9 w' w.heap.size (fun _ => True) v xs ∧ Below w.heap.size w w' := by
  subst h1
  exact Held_any w m L c o hS hL

theorem Fre_any {xs : List ByteArray} (h1 : held L es = xs) (hS : Stk w m L c) (hL : L.length ≤ 1000) :
    Calls Try.prog 17 #[ptr m] w fun e w' => ∃ v, e = .returned v ∧ Kd.R Kd.string 9 w' w.heap.size (fun _ => True) v xs ∧ Below w.heap.size w w' := by
  subst h1
  exact Free_any w m L c hS hL
end

/-- The reference's Same. -/
theorem Same_any {w : World} {A B : Option Addr} {a b : Nat} {xs ys : List ByteArray} {r : Bool} (hr : decide (xs = ys) = r) (h1 : Kd.C Kd.string w A xs.length xs) (c1 : xs.length ≤ a) (h2 : Kd.C Kd.string w B ys.length ys) (c2 : ys.length ≤ b) (hl : xs.length ≤ 1000) :
    Calls Try.prog 16 #[.slice A xs.length a, .slice B ys.length b] w fun e w' => e = .returned (.bool r) ∧ Below w.heap.size w w' :=
  (sawmillref47_Same.calls 2000 A a xs B b ys r w h1 c1 h2 c2 (by rw [← hr]; exact Same_eq 2000 xs ys (by omega) (by omega))).mono fun e w' ⟨he, hd⟩ => ⟨he, hd.below⟩

theorem lit1 (w : World) (x : ByteArray) : Kd.C Kd.string (w.alloc (.cells #[.string x] 9)) (some ⟨w.heap.size, 0, none⟩) 1 [x] := by
  have h : Kd.R Kd.string 9 (w.alloc (.cells #[.string x] 9)) 0 (fun _ => True) (.slice (some ⟨w.heap.size, 0, none⟩) 1 1) [x] :=
    Kd.R_of_own (World.ownsRow_lit w #[.string x] 1 (Nat.zero_le _) (by unfold maxLen; omega) rfl) (fun _ _ => trivial)
  obtain ⟨A, c, he, _, hC⟩ := Kd.R_reads h
  injection he with he
  subst he
  exact hC

theorem lit2 (w : World) (x y : ByteArray) : Kd.C Kd.string (w.alloc (.cells #[.string x, .string y] 9)) (some ⟨w.heap.size, 0, none⟩) 2 [x, y] := by
  have h : Kd.R Kd.string 9 (w.alloc (.cells #[.string x, .string y] 9)) 0 (fun _ => True) (.slice (some ⟨w.heap.size, 0, none⟩) 2 2) [x, y] :=
    Kd.R_of_own (World.ownsRow_lit w #[.string x, .string y] 2 (Nat.zero_le _) (by unfold maxLen; omega) rfl) (fun _ _ => trivial)
  obtain ⟨A, c, he, _, hC⟩ := Kd.R_reads h
  injection he with he
  subst he
  exact hC

abbrev sa : ByteArray := ⟨#[97]⟩
abbrev sb : ByteArray := ⟨#[98]⟩
abbrev sc : ByteArray := ⟨#[99]⟩
abbrev sd : ByteArray := ⟨#[100]⟩
abbrev so : ByteArray := ⟨#[111]⟩
abbrev sp : ByteArray := ⟨#[112]⟩
theorem e1 : addS [] 0 sa = (0, [⟨sa, 1, es⟩], 1) := by decide +kernel
theorem e2 : addS [⟨sa, 1, es⟩] 1 sb = (0, [⟨sa, 1, es⟩, ⟨sb, 2, es⟩], 2) := by decide +kernel
theorem e3 : addS [⟨sa, 1, es⟩, ⟨sb, 2, es⟩] 2 sc = (0, [⟨sa, 1, es⟩, ⟨sb, 2, es⟩, ⟨sc, 3, es⟩], 3) := by decide +kernel
theorem e4 : resS [⟨sa, 1, es⟩, ⟨sb, 2, es⟩, ⟨sc, 3, es⟩] sb so = (0, [⟨sa, 1, es⟩, ⟨sb, 2, so⟩, ⟨sc, 3, es⟩]) := by decide +kernel
theorem e5 : ofS [⟨sa, 1, es⟩, ⟨sb, 2, so⟩, ⟨sc, 3, es⟩] sb = (so, true) := by decide +kernel
theorem e6 : held [⟨sa, 1, es⟩, ⟨sb, 2, so⟩, ⟨sc, 3, es⟩] es = [sa, sc] := by decide +kernel
theorem e7 : heldO [⟨sa, 1, es⟩, ⟨sb, 2, so⟩, ⟨sc, 3, es⟩] so = [sb] := by decide +kernel
theorem e8 : resS [⟨sa, 1, es⟩, ⟨sb, 2, so⟩, ⟨sc, 3, es⟩] sb sp = (14, [⟨sa, 1, es⟩, ⟨sb, 2, so⟩, ⟨sc, 3, es⟩]) := by decide +kernel
theorem e9 : resS [⟨sa, 1, es⟩, ⟨sb, 2, so⟩, ⟨sc, 3, es⟩] sd sp = (8, [⟨sa, 1, es⟩, ⟨sb, 2, so⟩, ⟨sc, 3, es⟩]) := by decide +kernel
theorem e10 : resS [⟨sa, 1, es⟩, ⟨sb, 2, so⟩, ⟨sc, 3, es⟩] sa es = (6, [⟨sa, 1, es⟩, ⟨sb, 2, so⟩, ⟨sc, 3, es⟩]) := by decide +kernel
theorem e11 : ((heldO [⟨sa, 1, es⟩, ⟨sb, 2, so⟩, ⟨sc, 3, es⟩] so).length : Int) = 1 := by decide +kernel
theorem e12 : relL [⟨sa, 1, es⟩, ⟨sb, 2, so⟩, ⟨sc, 3, es⟩] so = [⟨sa, 1, es⟩, ⟨sb, 2, es⟩, ⟨sc, 3, es⟩] := by decide +kernel
theorem e13 : resS [⟨sa, 1, es⟩, ⟨sb, 2, es⟩, ⟨sc, 3, es⟩] sc so = (0, [⟨sa, 1, es⟩, ⟨sb, 2, es⟩, ⟨sc, 3, so⟩]) := by decide +kernel
theorem e14 : resS [⟨sa, 1, es⟩, ⟨sb, 2, es⟩, ⟨sc, 3, so⟩] sa so = (0, [⟨sa, 1, so⟩, ⟨sb, 2, es⟩, ⟨sc, 3, so⟩]) := by decide +kernel
theorem e15 : heldO [⟨sa, 1, so⟩, ⟨sb, 2, es⟩, ⟨sc, 3, so⟩] so = [sa, sc] := by decide +kernel
theorem e16 : remL [⟨sa, 1, so⟩, ⟨sb, 2, es⟩, ⟨sc, 3, so⟩] so = [⟨sb, 2, es⟩] := by decide +kernel
theorem e17 : addS [⟨sb, 2, es⟩] 3 sb = (7, [⟨sb, 2, es⟩], 3) := by decide +kernel
theorem k1 (x : ByteArray) (h : x.size = 1) : x.size ≤ maxLen := by rw [h]; unfold maxLen; omega

#print axioms e17
#print axioms lit2
#print axioms Same_any
end Go.Proofs.Ytcaennbagdipkaa
