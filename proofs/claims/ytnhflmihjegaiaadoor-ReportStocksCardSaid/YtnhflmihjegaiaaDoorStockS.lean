/- report.Stock: a board's key is made, in whatever order. -/
import Derived.Test.YtnhflmihjegaiaaDoorStockR
namespace Go.Proofs.YtnhflmihjegaiaaDoor
open Go Go.Proofs Go.RowKit Go.Proofs.YtnhflmihjegaiaaDoorW.PrintWords P Reg
set_option linter.unusedSimpArgs false
set_option linter.unusedVariables false
set_option maxRecDepth 100000
set_option maxHeartbeats 2000000

theorem below_set {B : Nat} {w0 w : World} (h : Below B w0 w) {a : Addr} (ha : B ≤ a.block) (v : Value) : Below B w0 (w.setCell a v) :=
  ⟨h.os, h.tape, h.output, by simpa [World.setCell] using h.size, fun k hk => (Below.heap_setCell w a v k (by omega)).trans (h.block k hk)⟩
structure C4 (xb : Nat) (p a b g : Int) (w : World) : Prop where
  c3 : w.cell? ⟨xb, 3, none⟩ = some (.int .i64 p)
  c8 : w.cell? ⟨xb, 8, none⟩ = some (.int .i64 a)
  c9 : w.cell? ⟨xb, 9, none⟩ = some (.int .i64 b)
  c17 : w.cell? ⟨xb, 17, none⟩ = some (.int .i64 g)
theorem C4.next {xb : Nat} {p a b g : Int} {w w' : World} (h : C4 xb p a b g w) (B : Below w.heap.size w w') : C4 xb p a b g w' :=
  ⟨(B.cell (World.block_lt_of_cell? _ _ h.c3)).trans h.c3, (B.cell (World.block_lt_of_cell? _ _ h.c8)).trans h.c8, (B.cell (World.block_lt_of_cell? _ _ h.c9)).trans h.c9, (B.cell (World.block_lt_of_cell? _ _ h.c17)).trans h.c17⟩
section
variable {W : World} {kb : Nat} {u0 u1 u2 v0 v1 v2 : Value}
theorem set3_0 (h : W.cell? ⟨kb, 0, none⟩ = some u0) : (((W.setCell ⟨kb, 0, none⟩ v0).setCell ⟨kb, 1, none⟩ v1).setCell ⟨kb, 2, none⟩ v2).cell? ⟨kb, 0, none⟩ = some v0 := by
  rw [World.cell?_setCell_other _ _ _ _ (by simp), World.cell?_setCell_other _ _ _ _ (by simp)]
  exact World.cell?_setCell_same _ _ _ (by rw [h])
theorem set3_1 (h : W.cell? ⟨kb, 1, none⟩ = some u1) : (((W.setCell ⟨kb, 0, none⟩ v0).setCell ⟨kb, 1, none⟩ v1).setCell ⟨kb, 2, none⟩ v2).cell? ⟨kb, 1, none⟩ = some v1 := by
  rw [World.cell?_setCell_other _ _ _ _ (by simp)]
  exact World.cell?_setCell_same _ _ _ (by rw [World.cell?_setCell_other _ _ _ _ (by simp), h])
theorem set3_2 (h : W.cell? ⟨kb, 2, none⟩ = some u2) : (((W.setCell ⟨kb, 0, none⟩ v0).setCell ⟨kb, 1, none⟩ v1).setCell ⟨kb, 2, none⟩ v2).cell? ⟨kb, 2, none⟩ = some v2 :=
  World.cell?_setCell_same _ _ _ (by rw [World.cell?_setCell_other _ _ _ _ (by simp), World.cell?_setCell_other _ _ _ _ (by simp), h])
end

theorem reg7 {Q : Exit → Act → World → Prop} (hQ : ∀ c (a : Act) d v w, Q (.panic c) (a.put d v) w → Q (.panic c) a w) (x0 x1 x2 x3 x4 x5 x6 x7 x9 x10 x11 x12 x13 x14 x15 x16 x17 x18 x19 x20 x21 x22 x23 x24 x25 x26 x27 x28 x29 x30 x31 x32 x33 x34 x35 x36 x37 x38 x39 x40 x41 x42 x43 x44 x45 x46 x47 x48 x49 x50 x51 x52 x53 x54 x55 x56 x57 x58 x59 x60 x61 x62 x63 x64 x65 x66 x67 x68 x69 x70 x71 x72 x73 x74 x75 x76 x77 x78 x79 x80 x81 x82 x83 x84 x85 x86 x87 x88 x89 x90 x91 x92 x93 x94 x95 x96 x97 x98 x99 x100 x101 x102 x103 : Value) (wa : World) {xb : Nat} {p a b g : Int} (C0 : C4 xb p a b g wa)
    (hq : ∀ (kb : Nat) (w : World), Below wa.heap.size wa w → wa.heap.size ≤ kb → w.cell? ⟨kb, 0, none⟩ = some (.int .i64 p) → w.cell? ⟨kb, 1, none⟩ = some (.int .i64 (lenG a b)) → w.cell? ⟨kb, 2, none⟩ = some (.int .i64 g) → Q .normal ⟨#[x0, x1, x2, x3, x4, x5, x6, x7, (.pointer (some ⟨xb, 0, none⟩)), (.pointer (some ⟨kb, 0, none⟩)), x10, x11, x12, x13, x14, x15, x16, x17, x18, x19, x20, x21, x22, x23, x24, x25, x26, (.pointer (some ⟨xb, 0, none⟩)), (.pointer (some ⟨xb, 3, none⟩)), (.int .i64 p), (.pointer (some ⟨xb, 0, none⟩)), (.pointer (some ⟨xb, 4, none⟩)), (.pointer (some ⟨xb, 8, none⟩)), (.agg #[.int .i64 a, .int .i64 b]), (.int .i64 (lenG a b)), (.pointer (some ⟨xb, 0, none⟩)), (.pointer (some ⟨xb, 17, none⟩)), (.int .i64 g), (.agg #[.int .i64 p, .int .i64 (lenG a b), .int .i64 g]), x39, x40, x41, x42, x43, x44, x45, x46, x47, x48, x49, x50, x51, x52, x53, x54, x55, x56, x57, x58, x59, x60, x61, x62, x63, x64, x65, x66, x67, x68, x69, x70, x71, x72, x73, x74, x75, x76, x77, x78, x79, x80, x81, x82, x83, x84, x85, x86, x87, x88, x89, x90, x91, x92, x93, x94, x95, x96, x97, x98, x99, x100, x101, x102, x103], []⟩ w) :
    wpAnyH Tryd.prog .any (R Tryd.f16 7) Q (C4 xb p a b g) 14 (L 14 0) ⟨#[x0, x1, x2, x3, x4, x5, x6, x7, (.pointer (some ⟨xb, 0, none⟩)), x9, x10, x11, x12, x13, x14, x15, x16, x17, x18, x19, x20, x21, x22, x23, x24, x25, x26, x27, x28, x29, x30, x31, x32, x33, x34, x35, x36, x37, x38, x39, x40, x41, x42, x43, x44, x45, x46, x47, x48, x49, x50, x51, x52, x53, x54, x55, x56, x57, x58, x59, x60, x61, x62, x63, x64, x65, x66, x67, x68, x69, x70, x71, x72, x73, x74, x75, x76, x77, x78, x79, x80, x81, x82, x83, x84, x85, x86, x87, x88, x89, x90, x91, x92, x93, x94, x95, x96, x97, x98, x99, x100, x101, x102, x103], []⟩ wa := by
  refine RegH.take 0 27 (.pointer (some ⟨xb, 0, none⟩)) hQ C0 (fun _ _ => by kernel_rfl) ?_
  refine RegH.take 1 28 (.pointer (some ⟨xb, 3, none⟩)) hQ C0 (fun _ _ => by kernel_rfl) ?_
  refine RegH.take 2 29 (.int .i64 p) hQ C0 (fun _ c => ldI (s := 28) (by kernel_rfl) (by kernel_rfl) c.c3) ?_
  refine RegH.take 3 30 (.pointer (some ⟨xb, 0, none⟩)) hQ C0 (fun _ _ => by kernel_rfl) ?_
  refine RegH.take 4 31 (.pointer (some ⟨xb, 4, none⟩)) hQ C0 (fun _ _ => by kernel_rfl) ?_
  refine RegH.take 5 32 (.pointer (some ⟨xb, 8, none⟩)) hQ C0 (fun _ _ => by kernel_rfl) ?_
  refine RegH.take 6 33 (.agg #[.int .i64 a, .int .i64 b]) hQ C0 (fun _ c => ld90 (s := 32) (by kernel_rfl) (by kernel_rfl) c.c8 c.c9) ?_
  refine RegH.take 8 35 (.pointer (some ⟨xb, 0, none⟩)) hQ C0 (fun _ _ => by kernel_rfl) ?_
  refine RegH.take 9 36 (.pointer (some ⟨xb, 17, none⟩)) hQ C0 (fun _ _ => by kernel_rfl) ?_
  refine RegH.take 10 37 (.int .i64 g) hQ C0 (fun _ c => ldI (s := 36) (by kernel_rfl) (by kernel_rfl) c.c17) ?_
  refine RegH.any2 7 12 ?_ ?_
  · refine enter 34 28 #[(.agg #[.int .i64 a, .int .i64 b])] ?_
    refine (Len28 a b _).mono ?_
    rintro e w5 ⟨rfl, B5⟩
    refine ⟨_, rfl, C0.next B5, ?_⟩
    refine RegH.take 11 38 (.agg #[.int .i64 p, .int .i64 (lenG a b), .int .i64 g]) hQ (C0.next B5) (fun _ _ => by kernel_rfl) ?_
    have B6 := B5.alloc B5.size (.cells #[.int .i64 0, .int .i64 0, .int .i64 0] 126)
    have hs := B5.size
    have z0 : (w5.alloc (.cells #[.int .i64 0, .int .i64 0, .int .i64 0] 126)).cell? ⟨w5.heap.size, 0, none⟩ = some (.int .i64 0) := (World.cell?_alloc_at _ _ _ 0 rfl).trans rfl
    have z1 : (w5.alloc (.cells #[.int .i64 0, .int .i64 0, .int .i64 0] 126)).cell? ⟨w5.heap.size, 1, none⟩ = some (.int .i64 0) := (World.cell?_alloc_at _ _ _ 1 rfl).trans rfl
    have z2 : (w5.alloc (.cells #[.int .i64 0, .int .i64 0, .int .i64 0] 126)).cell? ⟨w5.heap.size, 2, none⟩ = some (.int .i64 0) := (World.cell?_alloc_at _ _ _ 2 rfl).trans rfl
    have f0 : ∀ j, (w5.alloc (.cells #[.int .i64 0, .int .i64 0, .int .i64 0] 126)).frozen? ⟨w5.heap.size, j, none⟩ = false := fun j => by simp [go_sem]
    refine RegH.any1 12 (value 9 (.pointer (some ⟨w5.heap.size, 0, none⟩)) (w' := w5.alloc (.cells #[.int .i64 0, .int .i64 0, .int .i64 0] 126)) ⟨C0.next B6, ?_⟩)
    have B9 : Below wa.heap.size wa ((((w5.alloc (.cells #[.int .i64 0, .int .i64 0, .int .i64 0] 126)).setCell ⟨w5.heap.size, 0, none⟩ (.int .i64 p)).setCell ⟨w5.heap.size, 1, none⟩ (.int .i64 (lenG a b))).setCell ⟨w5.heap.size, 2, none⟩ (.int .i64 g)) := below_set (below_set (below_set B6 (by show _ ≤ w5.heap.size; omega) _) (by show _ ≤ w5.heap.size; omega) _) (by show _ ≤ w5.heap.size; omega) _
    refine RegH.any1 13 (RegH.skip (w' := ((((w5.alloc (.cells #[.int .i64 0, .int .i64 0, .int .i64 0] 126)).setCell ⟨w5.heap.size, 0, none⟩ (.int .i64 p)).setCell ⟨w5.heap.size, 1, none⟩ (.int .i64 (lenG a b))).setCell ⟨w5.heap.size, 2, none⟩ (.int .i64 g))) ⟨C0.next B9, ?_⟩ (hv := st126 (s := 9) (t := 38) (kb := w5.heap.size) (by kernel_rfl) (by kernel_rfl) (by kernel_rfl) z0 z1 z2 (f0 0) (f0 1) (f0 2)))
    exact RegH.same (l' := L 14 14) (wpAnyH_done (by kernel_rfl) (hq w5.heap.size _ B9 (by omega) (set3_0 z0) (set3_1 z1) (set3_2 z2)) 0)
  · have B4 := (Below.refl wa.heap.size wa).alloc (Nat.le_refl _) (.cells #[.int .i64 0, .int .i64 0, .int .i64 0] 126)
    have hs : wa.heap.size ≤ wa.heap.size := Nat.le_refl _
    have z0 : (wa.alloc (.cells #[.int .i64 0, .int .i64 0, .int .i64 0] 126)).cell? ⟨wa.heap.size, 0, none⟩ = some (.int .i64 0) := (World.cell?_alloc_at _ _ _ 0 rfl).trans rfl
    have z1 : (wa.alloc (.cells #[.int .i64 0, .int .i64 0, .int .i64 0] 126)).cell? ⟨wa.heap.size, 1, none⟩ = some (.int .i64 0) := (World.cell?_alloc_at _ _ _ 1 rfl).trans rfl
    have z2 : (wa.alloc (.cells #[.int .i64 0, .int .i64 0, .int .i64 0] 126)).cell? ⟨wa.heap.size, 2, none⟩ = some (.int .i64 0) := (World.cell?_alloc_at _ _ _ 2 rfl).trans rfl
    have f0 : ∀ j, (wa.alloc (.cells #[.int .i64 0, .int .i64 0, .int .i64 0] 126)).frozen? ⟨wa.heap.size, j, none⟩ = false := fun j => by simp [go_sem]
    refine value 9 (.pointer (some ⟨wa.heap.size, 0, none⟩)) (w' := wa.alloc (.cells #[.int .i64 0, .int .i64 0, .int .i64 0] 126)) ⟨C0.next B4, ?_⟩
    refine RegH.any1 7 (enter 34 28 #[(.agg #[.int .i64 a, .int .i64 b])] ?_)
    refine (Len28 a b _).mono ?_
    rintro e w5 ⟨rfl, B5⟩
    have y0 := (B5.cell (World.block_lt_of_cell? _ _ z0)).trans z0
    have y1 := (B5.cell (World.block_lt_of_cell? _ _ z1)).trans z1
    have y2 := (B5.cell (World.block_lt_of_cell? _ _ z2)).trans z2
    have h0 : ∀ j, w5.frozen? ⟨wa.heap.size, j, none⟩ = false := fun j => (B5.frozen (p := ⟨wa.heap.size, j, none⟩) (World.block_lt_of_cell? _ _ z0 : wa.heap.size < _)).trans (f0 j)
    have B6 := B4.trans (B5.mono B4.size)
    refine ⟨_, rfl, C0.next B6, ?_⟩
    refine RegH.take 11 38 (.agg #[.int .i64 p, .int .i64 (lenG a b), .int .i64 g]) hQ (C0.next B6) (fun _ _ => by kernel_rfl) ?_
    have B9 : Below wa.heap.size wa (((w5.setCell ⟨wa.heap.size, 0, none⟩ (.int .i64 p)).setCell ⟨wa.heap.size, 1, none⟩ (.int .i64 (lenG a b))).setCell ⟨wa.heap.size, 2, none⟩ (.int .i64 g)) := below_set (below_set (below_set B6 (by show _ ≤ wa.heap.size; omega) _) (by show _ ≤ wa.heap.size; omega) _) (by show _ ≤ wa.heap.size; omega) _
    refine RegH.any1 13 (RegH.skip (w' := (((w5.setCell ⟨wa.heap.size, 0, none⟩ (.int .i64 p)).setCell ⟨wa.heap.size, 1, none⟩ (.int .i64 (lenG a b))).setCell ⟨wa.heap.size, 2, none⟩ (.int .i64 g))) ⟨C0.next B9, ?_⟩ (hv := st126 (s := 9) (t := 38) (kb := wa.heap.size) (by kernel_rfl) (by kernel_rfl) (by kernel_rfl) y0 y1 y2 (h0 0) (h0 1) (h0 2)))
    exact RegH.same (l' := L 14 14) (wpAnyH_done (by kernel_rfl) (hq wa.heap.size _ B9 (by omega) (set3_0 y0) (set3_1 y1) (set3_2 y2)) 0)

#print axioms reg7
end Go.Proofs.YtnhflmihjegaiaaDoor
