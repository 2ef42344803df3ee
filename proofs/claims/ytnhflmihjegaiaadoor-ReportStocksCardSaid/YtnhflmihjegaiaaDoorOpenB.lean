/- report.Open at fewer than twenty orders, whatever the memory. -/
import Derived.Test.YtnhflmihjegaiaaDoorOpenA
import Derived.Deep.AppendLies
namespace Go.Proofs.YtnhflmihjegaiaaDoor
open Go.RowKit Go.Sort Go.Shelf Go.Lib Go.Proofs.YtnhflmihjegaiaaDoorW.PrintWords P
set_option linter.unusedSimpArgs false
set_option linter.unusedVariables false

/-- The orders among the first k that were not shipped. -/
def opK (l : List S116) (k : Nat) : List Nat := (List.range k).filter fun i => !(rd_T116 l (i : Int)).f1
theorem opK_succ (l : List S116) (k : Nat) : opK l (k + 1) = opK l k ++ if (rd_T116 l (k : Int)).f1 then [] else [k] := by
  unfold opK
  rw [List.range_succ, List.filter_append]
  congr 1
  cases h : (rd_T116 l (k : Int)).f1 <;> simp [h]
theorem opK_lt (l : List S116) (k : Nat) : ∀ i ∈ opK l k, i < k := fun i hi => by
  have := List.mem_filter.1 hi
  simpa using this.1
theorem opK_len (l : List S116) (k : Nat) : (opK l k).length ≤ k := by
  have := List.length_filter_le (fun (i : Nat) => !(rd_T116 l (i : Int)).f1) (List.range k)
  simpa [opK] using this
def ints (xs : List Nat) : List Int := xs.map fun (i : Nat) => (i : Int)
theorem ints_length (xs : List Nat) : (ints xs).length = xs.length := by simp [ints]

/-- The same, as places of the list. -/
def opF (l : List S116) : List (Fin l.length) := (opK l l.length).pmap (fun i h => ⟨i, h⟩) (opK_lt l l.length)
theorem opF_val (l : List S116) : (opF l).map (·.val) = opK l l.length := by
  unfold opF
  rw [List.map_pmap]
  simp
@[reducible] def inhF {n : Nat} (h : 0 < n) : Inhabited (Fin n) := ⟨⟨0, h⟩⟩
def cfO (l : List S116) (i j : Fin l.length) : Int := Lib.compareInt (rd_T116 l ((i.val : Nat) : Int)).f0.f10 (rd_T116 l ((j.val : Nat) : Int)).f0.f10
/-- What Open returns. -/
def openS (l : List S116) (h : 0 < l.length) : List Int :=
  letI := inhF h
  (Sort.insertionSort (ltOf (cfO l)) (opF l).toArray 0 (opF l).toArray.size).toList.map fun i => ((i.val : Nat) : Int)
def openL (l : List S116) : List Int := if h : 0 < l.length then openS l h else []

def encF {n : Nat} (i : Fin n) : Value := .int .i64 ((i.val : Nat) : Int)

theorem add_block (a : Addr) (i : Nat) : (a.add i).block = a.block := by unfold Addr.add; split <;> rfl

theorem cmpReads26 (l : List S116) (h : 0 < l.length) (w : World) (sb : Nat) (ad : Addr) (c blk size : Nat) (hC : Kd.C k116 w (some ad) l.length l) (hs : w.cell? ⟨sb, 5, none⟩ = some (.slice (some ad) l.length c)) (h1 : sb ≠ blk) (h2 : ad.block ≠ blk) :
    letI := inhF h
    CmpReads Tryd.prog 26 #[.pointer (some ⟨sb, 0, none⟩)] encF (cfO l) blk 0 size w := by
  letI := inhF h
  intro m os dk _ x y
  have hcell : ∀ i : Fin l.length, w.cell? ⟨(ad.add (i.val * 12)).block, (ad.add (i.val * 12)).off + 10, none⟩ = some (.int .i64 (rd_T116 l ((i.val : Nat) : Int)).f0.f10) := fun i => by
    obtain ⟨ad', e, g⟩ := at_T116 hC ((i.val : Nat) : Int) (by omega) (by have := i.isLt; omega)
    cases e
    simp only [Int.toNat_natCast] at g
    exact g.2.2.2.2.2.2.2.2.2.2.1
  have hb : ∀ i : Fin l.length, (sortWorld encF w blk 0 m dk os).cell? ⟨(ad.add (i.val * 12)).block, (ad.add (i.val * 12)).off + 10, none⟩ = some (.int .i64 (rd_T116 l ((i.val : Nat) : Int)).f0.f10) := fun i => by
    rw [cell_other encF w blk 0 m dk os _ (by show (ad.add (i.val * 12)).block ≠ blk; rw [add_block]; exact h2) (World.block_lt_of_cell? w _ (hcell i))]
    exact hcell i
  have hs' : (sortWorld encF w blk 0 m dk os).cell? ⟨sb, 5, none⟩ = some (.slice (some ad) l.length c) := by
    rw [cell_other encF w blk 0 m dk os _ h1 (World.block_lt_of_cell? w _ hs)]
    exact hs
  exact closure26 _ sb ad l.length c x.val y.val x.isLt y.isLt _ _ hs' (hb x) (hb y)

section
variable {α : Type} [Inhabited α]
theorem size_swp' (d : Array α) (i j : Nat) : (swp d i j).size = d.size := by simp [swp]
theorem insInner_size (lt : α → α → Bool) (a : Nat) : ∀ (j : Nat) (d : Array α), (insInner lt a j d).size = d.size
  | 0, d => rfl
  | j + 1, d => by
    unfold insInner
    split
    · rw [insInner_size lt a j, size_swp']
    · rfl
theorem insOuter_size (lt : α → α → Bool) (a b : Nat) : ∀ (n i : Nat) (d : Array α), b - i = n → (insOuter lt a b i d).size = d.size
  | 0, i, d, h => by unfold insOuter; rw [if_neg (by omega)]
  | n + 1, i, d, h => by
    unfold insOuter
    rw [if_pos (by omega), insOuter_size lt a b n (i + 1) _ (by omega), insInner_size]
theorem ins_size (lt : α → α → Bool) (d : Array α) (a b : Nat) : (Sort.insertionSort lt d a b).size = d.size := insOuter_size lt a b _ _ d rfl
end

theorem openL_nil {l : List S116} (h : opK l l.length = []) : openL l = [] := by
  unfold openL
  split
  · rename_i h0
    unfold openS
    have : opF l = [] := by
      have := opF_val l
      rw [h] at this
      exact List.map_eq_nil_iff.1 this
    rw [this]
    letI := inhF h0
    have e2 := Array.eq_empty_of_size_eq_zero (ins_size (ltOf (cfO l)) (#[] : Array (Fin l.length)) 0 (#[] : Array (Fin l.length)).size)
    show List.map _ (Sort.insertionSort (ltOf (cfO l)) (#[] : Array (Fin l.length)) 0 (#[] : Array (Fin l.length)).size).toList = []
    rw [e2]
    rfl
  · rfl

set_option maxRecDepth 100000 in
set_option maxHeartbeats 2000000 in
theorem stable25 (l : List S116) (w : World) (base : Nat) (v : Value) (sb : Nat) (A : Option Addr) (c : Nat) (hC : Kd.C k116 w A l.length l) (hs : w.cell? ⟨sb, 5, none⟩ = some (.slice A l.length c)) (hR : Kd.R (Kd.int .i64) 3 w base (fun _ => True) v (ints (opK l l.length)))
    (h1 : ∀ k, v.ownBlock = some k → sb ≠ k) (h2 : 0 < l.length → ∀ k ad, v.ownBlock = some k → A = some ad → ad.block ≠ k) (hl : l.length < 20) :
    Calls Tryd.prog 25 #[v, .func (.func 26) #[] #[.pointer (some ⟨sb, 0, none⟩)]] w fun e w' => e = .returned (.tuple #[]) ∧ Kd.R (Kd.int .i64) 3 w' base (fun _ => True) v (openL l) ∧ Below base w w' := by
  have eg : ∀ args w, (callFunc 26 args).run Tryd.prog w = .ok (.enter 26 args) w := enters_of Tryd.func26 (by kernel_rfl) rfl
  have hO := Kd.own_of_R hR
  by_cases h0 : opK l l.length = []
  · rw [openL_nil h0]
    rw [h0] at hR
    obtain ⟨A', c', rfl⟩ := Kd.R_slice hR
    exact (stable25w (fun w' => w' = w) A' 0 c' (.func (.func 26) #[] #[.pointer (some ⟨sb, 0, none⟩)]) w (by omega) (Tryd.insertionSortCmpFunc_none (α := Nat) A' c' (.func (.func 26) #[] #[.pointer (some ⟨sb, 0, none⟩)]) w)).mono fun e w' ⟨he, hw⟩ => ⟨he, by rw [hw]; exact hR, by rw [hw]; exact Below.refl _ _⟩
  · have hv : v ≠ .slice none 0 0 := by
      intro hv
      subst hv
      rcases hO.2 with ⟨_, h3⟩ | ⟨g, cap, cur, h3, _⟩
      · have : (ints (opK l l.length)).length = 0 := by simpa using h3
        rw [ints_length] at this
        exact h0 (List.length_eq_zero_iff.1 this)
      · cases h3
    obtain ⟨g, cap, rfl, hbg, hg, hnc, hcm, hln, hH⟩ := holds_of_ownsRow (enc := Value.int .i64) (zs := ints (opK l l.length)) hO hv
    have hpos : 0 < l.length := by
      rcases Nat.eq_zero_or_pos l.length with h | h
      · exact absurd (by rw [h]; rfl) h0
      · exact h
    letI := inhF hpos
    have hA : A ≠ none := by
      intro h
      obtain ⟨ad, e, _⟩ := at_T116 hC 0 (Int.le_refl _) (by omega)
      rw [h] at e; cases e
    obtain ⟨ad, rfl⟩ : ∃ ad, A = some ad := by cases A with | none => exact absurd rfl hA | some ad => exact ⟨ad, rfl⟩
    have hcmp := cmpReads26 l hpos w sb ad c g (opF l).toArray.size hC hs (h1 g rfl) (h2 hpos g ad rfl rfl)
    have hlen : (opF l).toArray.size = (opK l l.length).length := by simp [opF]
    have hHF : Holds encF w g 0 (opF l).toArray := by
      intro j hj
      have hj' : j < (opK l l.length).length := by rw [← hlen]; exact hj
      have := hH j (by simpa [ints] using hj')
      have e : encF ((opF l).toArray[j]!) = Value.int .i64 ((ints (opK l l.length)).toArray[j]!) := by
        have hj2 : j < (ints (opK l l.length)).toArray.size := by simpa [ints] using hj'
        rw [getElem!_pos _ j hj, getElem!_pos _ j hj2]
        simp [encF, opF, ints]
      rw [e]
      exact this
    have hk := opK_len l l.length
    have hcon := Tryd.insertionSortCmpFunc_one encF (fun _ => rfl) (cfO l) 26 #[.pointer (some ⟨sb, 0, none⟩)] g 0 cap 0 (opF l).toArray.size (opF l).toArray w eg hcmp hHF (Nat.zero_le _) (Nat.le_refl _) (by omega)
    have hS : openL l = (Sort.insertionSort (ltOf (cfO l)) (opF l).toArray 0 (opF l).toArray.size).toList.map fun i => ((i.val : Nat) : Int) := by
      unfold openL; rw [dif_pos hpos]; rfl
    have hsz : (Sort.insertionSort (ltOf (cfO l)) (opF l).toArray 0 (opF l).toArray.size).size = (opF l).toArray.size := ins_size _ _ _ _
    generalize Sort.insertionSort (ltOf (cfO l)) (opF l).toArray 0 (opF l).toArray.size = S at *
    have hil : (ints (opK l l.length)).length = (opF l).toArray.size := by rw [ints_length, hlen]
    have hm : (opF l).toArray.size < 20 := by omega
    have hO2 : w.ownsRow base 3 1 (.slice (some ⟨g, 0, none⟩) (ints (opK l l.length)).length cap) (ints (opK l l.length)).length ((opF l).map encF) := by
      have e : (opF l).map encF = encs (Value.int .i64) (ints (opK l l.length)) := by
        rw [← opF_val]
        simp [encs, ints, encF, Function.comp_def]
      rw [e]
      exact hO
    have hoe : S.toList.map encF = encs (Value.int .i64) (openL l) := by
      rw [hS]
      simp [encs, encF, Function.comp_def]
    have hol : (openL l).length = (opF l).toArray.size := by rw [hS]; simpa using hsz
    rw [hil] at *
    generalize (opF l).toArray.size = m at *
    refine (stable25w _ (some ⟨g, 0, none⟩) m cap _ w hm hcon).mono fun e w' ⟨he, n, hw⟩ => ⟨he, ?_, ?_⟩
    · have hw2 : w' = putRow encF (Sort.ahead w (0 + n)) g 0 S.toList.toArray := by
        rw [hw, Array.toArray_toList]
        exact Go.Proofs.putRow_drewN encF w 0 n g 0 S
      have h3 := ownsRow_putRow (enc := encF) (q := 0 + n) (k := m) (ys := S.toList) hO2 (by simpa using hsz) (Nat.le_refl _)
      rw [List.take_of_length_le (by simp; omega), hoe, ← hw2, ← hol] at h3
      rw [← hol]
      exact Kd.R_of_own h3 (fun _ _ => trivial)
    · rw [hw]
      have : (putRow encF w g 0 S).drewN n = putRow encF (Sort.ahead w (0 + n)) g 0 S := Go.Proofs.putRow_drewN encF w 0 n g 0 S
      rw [this]
      exact below_putRow (Below.refl _ _) hbg

#print axioms stable25
end Go.Proofs.YtnhflmihjegaiaaDoor
