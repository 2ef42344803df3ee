/- awake: what its calls answer, in plain Lean. -/
import Derived.Test.YtnhflmihjegaiaaDoorTextB
import Derived.Test.YtnhflmihjegaiaaDoorMill
import Derived.Test.YtnhflmihjegaiaaDoorRecB
import Derived.Test.YtnhflmihjegaiaaDoorOpenC
import Derived.Test.YtnhflmihjegaiaaDoorPxInts
namespace Go.Proofs.YtnhflmihjegaiaaDoor
open Go.RowKit Go.Proofs.YtnhflmihjegaiaaDoorW.PrintWords P
set_option linter.unusedSimpArgs false
set_option linter.unusedVariables false

def awL : List S87 := [⟨0, 2000, 2, 5, 1⟩, ⟨0, 2000, 1, 3, 1⟩, ⟨0, 2000, 2, 7, 1⟩, ⟨0, 0, 0, 0, 2⟩]
def awG : List S47 := [⟨⟨#[112, 105, 110, 101]⟩, true, ⟨9, 5, 3, 1, 7⟩⟩]
def awO : List S55 := [⟨50, false⟩, ⟨20, true⟩, ⟨10, false⟩, ⟨50, false⟩]
theorem aw_stock : stockK (itemsK awL 4) 1 4 = [⟨0, 2000, 2, 2, 12⟩, ⟨0, 2000, 1, 1, 3⟩] := by kernel_rfl
theorem aw_open : openL (awO.map ordOf) = [2, 0, 3] := by kernel_rfl
theorem aw_pine : recF (awG.map logOf) ⟨#[112, 105, 110, 101]⟩ = (⟨9, 5, 3, 1, 7⟩, 0) := by
  simp [recF, awG, logOf, recGo, skipL, ByteArray.toList_eq, zeroY]
  kernel_rfl
theorem aw_oak : recF (awG.map logOf) ⟨#[111, 97, 107]⟩ = (⟨0, 0, 0, 0, 0⟩, 0) := by
  simp [recF, awG, logOf, recGo, skipL, ByteArray.toList_eq, zeroY]
def awC : List S60 := [⟨⟨#[112, 108, 97, 110, 107]⟩, 0, 0, 0, 0, [], []⟩]
theorem aw_text : textK awC [⟨0, 2000, 1, 1, 3⟩, ⟨0, 2000, 2, 2, 12⟩] 2 = ⟨#[112, 108, 97, 110, 107, 32, 50, 48, 48, 48, 32, 49, 32, 49, 32, 51, 10, 112, 108, 97, 110, 107, 32, 50, 48, 48, 48, 32, 50, 32, 50, 32, 49, 50, 10]⟩ := by
  simp [textK, addRow, addInts, nameOf, awC, dec, Lib.itoa, Lib.decDigits]
  rfl
theorem perm_two {α : Type} {a b : α} (hne : a ≠ b) {d : List α} (h : d.Perm [a, b]) : d = [a, b] ∨ d = [b, a] := by
  have hl := h.length_eq
  match d, hl with
  | [x, y], _ =>
    have hx : x ∈ [a, b] := h.mem_iff.1 (by simp)
    have hy : y ∈ [a, b] := h.mem_iff.1 (by simp)
    have ha : a ∈ [x, y] := h.mem_iff.2 (by simp)
    have hb : b ∈ [x, y] := h.mem_iff.2 (by simp)
    simp only [List.mem_cons, List.not_mem_nil, or_false] at hx hy ha hb
    rcases hx with rfl | rfl <;> rcases hy with rfl | rfl
    · exact absurd (hb.elim Eq.symm Eq.symm) hne
    · exact Or.inl rfl
    · exact Or.inr rfl
    · exact absurd (ha.elim id id) hne
theorem aw_rows {d : List S42} (hp : d.Perm (stockK (itemsK awL 4) 1 4)) (hw : d.Pairwise (fun a b => ¬ ltT b a)) : d.map toRow = [⟨0, 2000, 1, 1, 3⟩, ⟨0, 2000, 2, 2, 12⟩] := by
  rw [aw_stock] at hp
  rcases perm_two (fun e => by injection e; omega) hp with rfl | rfl
  · exfalso
    rw [List.pairwise_cons] at hw
    exact hw.1 _ (List.mem_singleton.2 rfl) (by unfold ltT; simp)
  · rfl
theorem lenG_fits (a b : Int) : fits (lenG a b) := by
  unfold lenG
  split
  · unfold fits; omega
  · split
    · split
      · unfold fits; omega
      · exact fits_wrap _
    · exact fits_wrap _
theorem wf_fits {n : Int} (h : fits n) : (Lit.int .i64 n).wf = true := by
  unfold Lit.wf
  rw [Bool.and_eq_true]
  exact ⟨decide_eq_true h.1, decide_eq_true h.2⟩
theorem itemsK_wf {ls : List S87} (h : ∀ s ∈ ls, fits s.f0 ∧ fits s.f2) (k : Nat) : ∀ x ∈ itemsK ls k, WfK (itemT x) := by
  intro x hx
  unfold itemsK at hx
  obtain ⟨i, hi, rfl⟩ := List.mem_mapIdx.1 hx
  have hm := h _ (List.mem_of_mem_take (List.getElem_mem hi))
  exact ⟨wf_fits hm.1, wf_fits (lenG_fits _ _), wf_fits hm.2⟩
theorem aw_wf : ∀ x ∈ itemsK awL 4, WfK (itemT x) := itemsK_wf (by
  intro s hs
  simp only [awL, List.mem_cons, List.not_mem_nil, or_false] at hs
  rcases hs with rfl | rfl | rfl | rfl <;> (unfold fits; simp)) 4
theorem aw_names : ∀ x ∈ awC, x.f0.size ≤ 1000 := by
  intro x hx
  rw [List.mem_singleton.1 hx]
  decide
/-- A literal row as an argument. -/
theorem lit_C {α : Type} (d : Kd α) (W : World) (e : Nat) (xs : List α) (inner : List Value) (hrep : Reps (d.M W W.heap.size (fun _ => True)) d.sz xs inner) (hm : xs.length ≤ 1000000) : Kd.C d (W.alloc (.cells inner.toArray e)) (some ⟨W.heap.size, 0, none⟩) xs.length xs := by
  have h2 := World.ownsRow_lit (base := W.heap.size) (e := e) (size := d.sz) W inner.toArray xs.length (Nat.le_refl _) (by simp [maxLen]; omega) (by simpa using hrep.1)
  have R : Kd.R d e (W.alloc (.cells inner.toArray e)) W.heap.size (fun _ => True) (.slice (some ⟨W.heap.size, 0, none⟩) xs.length xs.length) xs := by
    refine ⟨fun _ _ => trivial, inner, by simpa using h2, hrep.imp_ (fun p c hp => d.M_mono (fun k hk => ⟨trivial, fun he => ?_⟩) (Kd.M_below (d.M_bound hp) (below_alloc (Below.refl _ _) _)))⟩
    have h3 : k = W.heap.size := by simpa [Value.ownBlock] using he
    have := hk.2.2.1
    omega
  exact (Kd.R_reads' R).2.2
theorem aw_C87 (W : World) : Kd.C k87 (W.alloc (.cells #[.int .i64 0, .int .i64 2000, .int .i64 2, .int .u32 5, .int .i64 1, .int .i64 0, .int .i64 2000, .int .i64 1, .int .u32 3, .int .i64 1, .int .i64 0, .int .i64 2000, .int .i64 2, .int .u32 7, .int .i64 1, .int .i64 0, .int .i64 0, .int .i64 0, .int .u32 0, .int .i64 2] 87)) (some ⟨W.heap.size, 0, none⟩) 4 awL := by
  have h := ((((Reps.none (k87.M W W.heap.size (fun _ => True)) 5).snoc (k87_mkM W _ _ ⟨0, 2000, 2, 5, 1⟩) rfl).snoc (k87_mkM W _ _ ⟨0, 2000, 1, 3, 1⟩) rfl).snoc (k87_mkM W _ _ ⟨0, 2000, 2, 7, 1⟩) rfl).snoc (k87_mkM W _ _ ⟨0, 0, 0, 0, 2⟩) rfl
  exact lit_C k87 W 87 awL _ h (by decide)
theorem aw_C47 (W : World) : Kd.C k47 (W.alloc (.cells #[.string ⟨#[112, 105, 110, 101]⟩, .bool true, .int .i64 9, .int .i64 5, .int .i64 3, .int .i64 1, .int .i64 7] 47)) (some ⟨W.heap.size, 0, none⟩) 1 awG := by
  have h := (Reps.none (k47.M W W.heap.size (fun _ => True)) 7).snoc (k47_mkM W _ _ ⟨⟨#[112, 105, 110, 101]⟩, true, ⟨9, 5, 3, 1, 7⟩⟩) rfl
  exact lit_C k47 W 47 awG _ h (by decide)
theorem aw_C55 (W : World) : Kd.C k55 (W.alloc (.cells #[.int .i64 50, .bool false, .int .i64 20, .bool true, .int .i64 10, .bool false, .int .i64 50, .bool false] 55)) (some ⟨W.heap.size, 0, none⟩) 4 awO := by
  have h := ((((Reps.none (k55.M W W.heap.size (fun _ => True)) 2).snoc (k55_mkM W _ _ ⟨50, false⟩) rfl).snoc (k55_mkM W _ _ ⟨20, true⟩) rfl).snoc (k55_mkM W _ _ ⟨10, false⟩) rfl).snoc (k55_mkM W _ _ ⟨50, false⟩) rfl
  exact lit_C k55 W 55 awO _ h (by decide)
theorem aw_C60 (W : World) : Kd.C k60 (W.alloc (.cells #[.string ⟨#[112, 108, 97, 110, 107]⟩, .int .i64 0, .int .i64 0, .int .i64 0, .int .i64 0, .slice none 0 0, .slice none 0 0] 60)) (some ⟨W.heap.size, 0, none⟩) 1 awC := by
  have h := (Reps.none (k60.M W W.heap.size (fun _ => True)) 7).snoc (k60_mkM W _ _ ⟨⟨#[112, 108, 97, 110, 107]⟩, 0, 0, 0, 0, [], []⟩ (Kd.R_nil _ _ _ _ _) (Kd.R_nil _ _ _ _ _)) rfl
  exact lit_C k60 W 60 awC _ h (by decide)
theorem aw_I3 (W : World) : Kd.C (Kd.int .i64) (W.alloc (.cells #[.int .i64 2, .int .i64 0, .int .i64 3] 3)) (some ⟨W.heap.size, 0, none⟩) 3 [2, 0, 3] := by
  have h := (((Reps.none ((Kd.int .i64).M W W.heap.size (fun _ => True)) 1).snoc (p := 2) (c := [.int .i64 2]) rfl rfl).snoc (p := 0) (c := [.int .i64 0]) rfl rfl).snoc (p := 3) (c := [.int .i64 3]) rfl rfl
  exact lit_C (Kd.int .i64) W 3 [2, 0, 3] _ h (by decide)
theorem aw_ints (w : World) (A0 A1 : Option Addr) (c0 c1 : Nat) (h0 : Kd.C (Kd.int .i64) w A0 3 [2, 0, 3]) (h0c : 3 ≤ c0) (h1 : Kd.C (Kd.int .i64) w A1 3 [2, 0, 3]) (h1c : 3 ≤ c1) :
    Calls Tryd.prog 21 #[.slice A0 3 c0, .slice A1 3 c1] w fun e w' => e = .returned (.bool true) ∧ Below w.heap.size w w' :=
  (sawmilllaw64_ints.calls 10 A0 c0 [2, 0, 3] A1 c1 [2, 0, 3] true w h0 h0c h1 h1c (by kernel_rfl)).mono (fun e w' h => ⟨h.1, h.2.below⟩)
end Go.Proofs.YtnhflmihjegaiaaDoor
