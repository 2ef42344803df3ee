/- ReportSpecies: its drawn region 15. (gen_reg15.py) -/
import Derived.Test.YtnhflmihjegaiaaDoorOps
import Derived.Test.YtnhflmihjegaiaaDoorMillE
namespace Go.Proofs.YtnhflmihjegaiaaDoor
open Go Go.Proofs Go.RowKit Go.Proofs.YtnhflmihjegaiaaDoorW.PrintWords P Reg
set_option linter.unusedSimpArgs false
set_option linter.unusedVariables false
set_option maxRecDepth 100000
set_option maxHeartbeats 4000000
theorem RegH.pass {P : Program} {Q : Exit → Act → World → Prop} {md : Region.Mode} {S : World → Prop} {f : Func} {k : Nat} (i d : Nat) {n : Nat} {l : Array Bool} {a : Act} {w : World}
    (hQ : ∀ c (a : Act) d v w, Q (.panic c) (a.put d v) w → Q (.panic c) a w) (hS : S w)
    (h : wpAnyH P md (Reg.R f k) Q S n (l.setIfInBounds i true) (a.put (some d) undef) w)
    (hi : (Reg.R f k)[i]? = some (O f k i) := by kernel_rfl) (hd : (O f k i).dst = some d := by kernel_rfl) (hs : Region.noSelect (Reg.R f k) = true := by kernel_rfl)
    (hf : Region.free md (Reg.R f k) l i = true := by kernel_rfl) (hr : (Region.ready md (Reg.R f k) l).contains i = true := by kernel_rfl)
    (hw : Region.wanted (O f k i) (yielded (Reg.R f k) a.tmps) = false := by kernel_rfl) :
    wpAnyH P md (Reg.R f k) Q S (n + 1) l a w :=
  wpAnyH_take hi hs hf hr (fun c a w => hQ c a _ _ w) (Or.inr ⟨hw, rfl⟩) hS (by rw [hd]; exact h)
theorem neqS {a : Act} {o : Oper} {w : World} {s t : Nat} {x y : ByteArray} (hop : o.op = .binOp .neq 9 (.tmp s) (.tmp t) 9) (hs : a.eval (.tmp s) = .string x) (ht : a.eval (.tmp t) = .string y) :
    (execOp a.eval o).run Tryd.prog w = .ok (.value (.bool (!(x.toList == y.toList)))) w := by
  have hu9 := Tryd.underlying9
  obtain ⟨ds, op, ty, pos, aft, gd⟩ := o
  cases hop
  simp only [execOp, hs, ht]
  go_simp
theorem reg15t {Q : Exit → Act → World → Prop} (hQ : ∀ c (a : Act) d v w, Q (.panic c) (a.put d v) w → Q (.panic c) a w) (x1 x2 x3 x4 x5 x6 x7 x11 x12 x13 x14 x15 x16 x17 x18 x19 x20 x21 x22 x23 x24 x25 x26 x27 x28 x29 x30 x31 x32 x33 x34 x35 x36 x37 x38 x39 x40 x41 x42 x43 x44 x45 x46 x47 x48 x49 x50 x51 x52 x53 x54 x55 x56 x57 x58 x59 x60 x61 x62 x63 x64 x65 x66 x67 x68 x69 x70 x71 x72 x73 x74 x75 x76 x77 x78 x79 x80 x81 x82 x83 x84 x85 x86 x87 x88 x89 x90 x91 x92 x93 x94 x95 x96 x97 x98 x99 x100 x101 x102 x103 x104 x105 x106 x107 x108 x109 x110 x111 x112 x113 x114 x115 : Value) (wa : World) {k j len c : Nat} {ad p q : Addr} {x y : ByteArray}
    (hj : j < len) (hk : k < len) (hp : ad.add (j * 7) = p) (hq2 : ad.add (k * 7) = q) (hx : wa.cell? p = some (.string x)) (hy : wa.cell? q = some (.string y))
    (hq : Q .normal ⟨#[(.slice (some ad) len c), x1, x2, x3, x4, x5, x6, x7, (.int .i64 (k : Int)), (.bool (!(x.toList == y.toList))), (.int .i64 (j : Int)), x11, x12, x13, x14, x15, x16, x17, x18, x19, x20, x21, x22, x23, x24, x25, x26, x27, x28, x29, x30, x31, x32, x33, x34, x35, x36, x37, x38, x39, x40, x41, x42, x43, x44, x45, x46, x47, x48, x49, x50, x51, x52, x53, (.bool true), (.bool true), (.slice (some ad) len c), (.int .i64 (j : Int)), (.pointer (some p)), (.pointer (some p)), (.string x), (.slice (some ad) len c), (.int .i64 (k : Int)), (.pointer (some q)), (.pointer (some q)), (.string y), (.bool (!(x.toList == y.toList))), (.bool (!(x.toList == y.toList))), x68, x69, x70, x71, x72, x73, x74, x75, x76, x77, x78, x79, x80, x81, x82, x83, x84, x85, x86, x87, x88, x89, x90, x91, x92, x93, x94, x95, x96, x97, x98, x99, x100, x101, x102, x103, x104, x105, x106, x107, x108, x109, x110, x111, x112, x113, x114, x115], []⟩ wa) :
    wpAnyH Tryd.prog .any (R Tryd.f3 15) Q (fun w => w = wa) 15 (L 15 0) ⟨#[(.slice (some ad) len c), x1, x2, x3, x4, x5, x6, x7, (.int .i64 (k : Int)), (.bool true), (.int .i64 (j : Int)), x11, x12, x13, x14, x15, x16, x17, x18, x19, x20, x21, x22, x23, x24, x25, x26, x27, x28, x29, x30, x31, x32, x33, x34, x35, x36, x37, x38, x39, x40, x41, x42, x43, x44, x45, x46, x47, x48, x49, x50, x51, x52, x53, x54, x55, x56, x57, x58, x59, x60, x61, x62, x63, x64, x65, x66, x67, x68, x69, x70, x71, x72, x73, x74, x75, x76, x77, x78, x79, x80, x81, x82, x83, x84, x85, x86, x87, x88, x89, x90, x91, x92, x93, x94, x95, x96, x97, x98, x99, x100, x101, x102, x103, x104, x105, x106, x107, x108, x109, x110, x111, x112, x113, x114, x115], []⟩ wa := by
  have b0 : (fun w => w = wa) wa := rfl
  refine RegH.take 0 54 (.bool true) hQ b0 (fun _ _ => by kernel_rfl) ?_
  refine RegH.take 1 55 (.bool true) hQ b0 (fun _ _ => by kernel_rfl) ?_
  refine RegH.take 2 56 (.slice (some ad) len c) hQ b0 (fun _ _ => by kernel_rfl) ?_
  refine RegH.take 3 57 (.int .i64 (j : Int)) hQ b0 (fun _ _ => by kernel_rfl) ?_
  refine RegH.take 4 58 (.pointer (some p)) hQ b0 (fun _ _ => idxV (n := len) (c := c) (ad := ad) (k := j) (s := 56) (i := 57) (sz := 7) (by kernel_rfl) (by kernel_rfl) (by kernel_rfl) Tryd.underlying22 (by kernel_rfl) hj hp) ?_
  refine RegH.take 5 59 (.pointer (some p)) hQ b0 (fun _ _ => by kernel_rfl) ?_
  refine RegH.take 6 60 (.string x) hQ b0 (fun w h => by subst h; exact load1 (s := 59) (by kernel_rfl) (by kernel_rfl) hx Tryd.underlying9 rfl) ?_
  refine RegH.take 7 61 (.slice (some ad) len c) hQ b0 (fun _ _ => by kernel_rfl) ?_
  refine RegH.take 8 62 (.int .i64 (k : Int)) hQ b0 (fun _ _ => by kernel_rfl) ?_
  refine RegH.take 9 63 (.pointer (some q)) hQ b0 (fun _ _ => idxV (n := len) (c := c) (ad := ad) (k := k) (s := 61) (i := 62) (sz := 7) (by kernel_rfl) (by kernel_rfl) (by kernel_rfl) Tryd.underlying22 (by kernel_rfl) hk hq2) ?_
  refine RegH.take 10 64 (.pointer (some q)) hQ b0 (fun _ _ => by kernel_rfl) ?_
  refine RegH.take 11 65 (.string y) hQ b0 (fun w h => by subst h; exact load1 (s := 64) (by kernel_rfl) (by kernel_rfl) hy Tryd.underlying9 rfl) ?_
  refine RegH.take 12 66 (.bool (!(x.toList == y.toList))) hQ b0 (fun w h => neqS (s := 60) (t := 65) (by kernel_rfl) (by kernel_rfl) (by kernel_rfl)) ?_
  refine RegH.take 13 67 (.bool (!(x.toList == y.toList))) hQ b0 (fun _ _ => by kernel_rfl) ?_
  refine RegH.take 14 9 (.bool (!(x.toList == y.toList))) hQ b0 (fun _ _ => by kernel_rfl) ?_
  exact RegH.same (l' := L 15 15) (wpAnyH_done (by kernel_rfl) hq 0)
theorem reg15f {Q : Exit → Act → World → Prop} (hQ : ∀ c (a : Act) d v w, Q (.panic c) (a.put d v) w → Q (.panic c) a w) (x1 x2 x3 x4 x5 x6 x7 x11 x12 x13 x14 x15 x16 x17 x18 x19 x20 x21 x22 x23 x24 x25 x26 x27 x28 x29 x30 x31 x32 x33 x34 x35 x36 x37 x38 x39 x40 x41 x42 x43 x44 x45 x46 x47 x48 x49 x50 x51 x52 x53 x54 x55 x56 x57 x58 x59 x60 x61 x62 x63 x64 x65 x66 x67 x68 x69 x70 x71 x72 x73 x74 x75 x76 x77 x78 x79 x80 x81 x82 x83 x84 x85 x86 x87 x88 x89 x90 x91 x92 x93 x94 x95 x96 x97 x98 x99 x100 x101 x102 x103 x104 x105 x106 x107 x108 x109 x110 x111 x112 x113 x114 x115 : Value) (wa : World) {k j len c : Nat} {ad p q : Addr} {x y : ByteArray}
    (hj : j < len) (hk : k < len) (hp : ad.add (j * 7) = p) (hq2 : ad.add (k * 7) = q) (hx : wa.cell? p = some (.string x)) (hy : wa.cell? q = some (.string y))
    (hq : Q .normal ⟨#[(.slice (some ad) len c), x1, x2, x3, x4, x5, x6, x7, (.int .i64 (k : Int)), (.bool false), (.int .i64 (j : Int)), x11, x12, x13, x14, x15, x16, x17, x18, x19, x20, x21, x22, x23, x24, x25, x26, x27, x28, x29, x30, x31, x32, x33, x34, x35, x36, x37, x38, x39, x40, x41, x42, x43, x44, x45, x46, x47, x48, x49, x50, x51, x52, x53, (.bool false), (.bool false), (undef), (undef), (undef), (undef), (undef), (undef), (undef), (undef), (undef), (undef), (undef), (.bool false), x68, x69, x70, x71, x72, x73, x74, x75, x76, x77, x78, x79, x80, x81, x82, x83, x84, x85, x86, x87, x88, x89, x90, x91, x92, x93, x94, x95, x96, x97, x98, x99, x100, x101, x102, x103, x104, x105, x106, x107, x108, x109, x110, x111, x112, x113, x114, x115], []⟩ wa) :
    wpAnyH Tryd.prog .any (R Tryd.f3 15) Q (fun w => w = wa) 15 (L 15 0) ⟨#[(.slice (some ad) len c), x1, x2, x3, x4, x5, x6, x7, (.int .i64 (k : Int)), (.bool false), (.int .i64 (j : Int)), x11, x12, x13, x14, x15, x16, x17, x18, x19, x20, x21, x22, x23, x24, x25, x26, x27, x28, x29, x30, x31, x32, x33, x34, x35, x36, x37, x38, x39, x40, x41, x42, x43, x44, x45, x46, x47, x48, x49, x50, x51, x52, x53, x54, x55, x56, x57, x58, x59, x60, x61, x62, x63, x64, x65, x66, x67, x68, x69, x70, x71, x72, x73, x74, x75, x76, x77, x78, x79, x80, x81, x82, x83, x84, x85, x86, x87, x88, x89, x90, x91, x92, x93, x94, x95, x96, x97, x98, x99, x100, x101, x102, x103, x104, x105, x106, x107, x108, x109, x110, x111, x112, x113, x114, x115], []⟩ wa := by
  have b0 : (fun w => w = wa) wa := rfl
  refine RegH.take 0 54 (.bool false) hQ b0 (fun _ _ => by kernel_rfl) ?_
  refine RegH.take 1 55 (.bool false) hQ b0 (fun _ _ => by kernel_rfl) ?_
  refine RegH.pass 2 56 hQ b0 ?_
  refine RegH.pass 3 57 hQ b0 ?_
  refine RegH.pass 4 58 hQ b0 ?_
  refine RegH.pass 5 59 hQ b0 ?_
  refine RegH.pass 6 60 hQ b0 ?_
  refine RegH.pass 7 61 hQ b0 ?_
  refine RegH.pass 8 62 hQ b0 ?_
  refine RegH.pass 9 63 hQ b0 ?_
  refine RegH.pass 10 64 hQ b0 ?_
  refine RegH.pass 11 65 hQ b0 ?_
  refine RegH.pass 12 66 hQ b0 ?_
  refine RegH.take 13 67 (.bool false) hQ b0 (fun _ _ => by kernel_rfl) ?_
  refine RegH.take 14 9 (.bool false) hQ b0 (fun _ _ => by kernel_rfl) ?_
  exact RegH.same (l' := L 15 15) (wpAnyH_done (by kernel_rfl) hq 0)
theorem reg19 {Q : Exit → Act → World → Prop} (hQ : ∀ c (a : Act) d v w, Q (.panic c) (a.put d v) w → Q (.panic c) a w) (x1 x2 x4 x5 x6 x7 x9 x10 x11 x12 x13 x14 x15 x16 x17 x18 x19 x20 x21 x22 x23 x24 x25 x26 x27 x28 x29 x30 x31 x32 x33 x34 x35 x36 x37 x38 x39 x40 x41 x42 x43 x44 x45 x46 x47 x48 x49 x50 x51 x52 x53 x54 x55 x56 x57 x58 x59 x60 x61 x62 x63 x64 x65 x66 x67 x68 x69 x70 x71 x72 x73 x74 x75 x76 x77 x78 x79 x80 x81 x82 x83 x84 x85 x86 x87 x88 x89 x90 x91 x92 x93 x94 x95 x96 x97 x98 x99 x100 x101 x102 x103 x104 x105 x106 x107 x108 x109 x110 x111 x112 x113 x114 x115 : Value) (wa : World) {b3 k len c : Nat} {ad p : Addr} {x : ByteArray} {cs : List Value} (n : S42) (er : Int)
    (hk : k < len) (hp : ad.add (k * 7) = p) (hx : wa.cell? p = some (.string x)) (hb : wa.heap[b3]? = some (.cells cs.toArray 32 (0, 0))) (hl : cs.length = 10)
    (hR : ∀ W, Below wa.heap.size wa W → Calls Tryd.prog 11 #[.agg cs.toArray, .string x] W fun e w' => e = .returned (.tuple #[.agg #[.int .i64 n.f0, .int .i64 n.f1, .int .i64 n.f2, .int .i64 n.f3, .int .i64 n.f4], .int .i64 er]) ∧ Below W.heap.size W w')
    (hq : ∀ (nb : Nat) w, Below wa.heap.size wa w → w.heap[nb]? = some (.cells #[.int .i64 n.f0, .int .i64 n.f1, .int .i64 n.f2, .int .i64 n.f3, .int .i64 n.f4] 42 (0, 0)) → wa.heap.size ≤ nb → Q .normal ⟨#[(.slice (some ad) len c), x1, x2, (.pointer (some ⟨b3, 0, none⟩)), x4, x5, x6, x7, (.int .i64 (k : Int)), x9, x10, (.pointer (some ⟨nb, 0, none⟩)), (.int .i64 er), x13, x14, x15, x16, x17, x18, x19, x20, x21, x22, x23, x24, x25, x26, x27, x28, x29, x30, x31, x32, x33, x34, x35, x36, x37, x38, x39, x40, x41, x42, x43, x44, x45, x46, x47, x48, x49, x50, x51, x52, x53, x54, x55, x56, x57, x58, x59, x60, x61, x62, x63, x64, x65, x66, x67, x68, x69, x70, x71, x72, x73, x74, x75, x76, (.tuple #[.agg #[.int .i64 n.f0, .int .i64 n.f1, .int .i64 n.f2, .int .i64 n.f3, .int .i64 n.f4], .int .i64 er]), (.agg cs.toArray), (.slice (some ad) len c), (.int .i64 (k : Int)), (.pointer (some p)), (.pointer (some p)), (.string x), (.tuple #[.agg #[.int .i64 n.f0, .int .i64 n.f1, .int .i64 n.f2, .int .i64 n.f3, .int .i64 n.f4], .int .i64 er]), (.agg #[.int .i64 n.f0, .int .i64 n.f1, .int .i64 n.f2, .int .i64 n.f3, .int .i64 n.f4]), (.int .i64 er), x87, x88, x89, x90, x91, x92, x93, x94, x95, x96, x97, x98, x99, x100, x101, x102, x103, x104, x105, x106, x107, x108, x109, x110, x111, x112, x113, x114, x115], []⟩ w) :
    wpAnyH Tryd.prog .any (R Tryd.f3 19) Q (Below wa.heap.size wa) 13 (L 13 0) ⟨#[(.slice (some ad) len c), x1, x2, (.pointer (some ⟨b3, 0, none⟩)), x4, x5, x6, x7, (.int .i64 (k : Int)), x9, x10, x11, x12, x13, x14, x15, x16, x17, x18, x19, x20, x21, x22, x23, x24, x25, x26, x27, x28, x29, x30, x31, x32, x33, x34, x35, x36, x37, x38, x39, x40, x41, x42, x43, x44, x45, x46, x47, x48, x49, x50, x51, x52, x53, x54, x55, x56, x57, x58, x59, x60, x61, x62, x63, x64, x65, x66, x67, x68, x69, x70, x71, x72, x73, x74, x75, x76, x77, x78, x79, x80, x81, x82, x83, x84, x85, x86, x87, x88, x89, x90, x91, x92, x93, x94, x95, x96, x97, x98, x99, x100, x101, x102, x103, x104, x105, x106, x107, x108, x109, x110, x111, x112, x113, x114, x115], []⟩ wa := by
  have b0 := Below.refl wa.heap.size wa
  refine RegH.take 0 78 (.agg cs.toArray) hQ b0 (fun w b => loadR (s := 3) (by kernel_rfl) (by kernel_rfl) cs _ (row_cells (blk_below hb b)) Tryd.underlying32 rfl (by rw [hl]; kernel_rfl)) ?_
  refine RegH.take 1 79 (.slice (some ad) len c) hQ b0 (fun _ _ => by kernel_rfl) ?_
  refine RegH.take 2 80 (.int .i64 (k : Int)) hQ b0 (fun _ _ => by kernel_rfl) ?_
  refine RegH.take 3 81 (.pointer (some p)) hQ b0 (fun _ _ => idxV (n := len) (c := c) (ad := ad) (k := k) (s := 79) (i := 80) (sz := 7) (by kernel_rfl) (by kernel_rfl) (by kernel_rfl) Tryd.underlying22 (by kernel_rfl) hk hp) ?_
  refine RegH.take 4 82 (.pointer (some p)) hQ b0 (fun _ _ => by kernel_rfl) ?_
  refine RegH.take 5 83 (.string x) hQ b0 (fun w b => load1 (s := 82) (by kernel_rfl) (by kernel_rfl) ((b.cell (World.block_lt_of_cell? _ _ hx)).trans hx) Tryd.underlying9 rfl) ?_
  refine RegH.any2 6 10 ?_ ?_
  · refine enter 84 11 #[.agg cs.toArray, .string x] ?_
    refine (hR wa b0).mono ?_
    rintro e w5 ⟨rfl, B5⟩
    refine ⟨_, rfl, B5, ?_⟩
    refine RegH.take 7 77 (.tuple #[.agg #[.int .i64 n.f0, .int .i64 n.f1, .int .i64 n.f2, .int .i64 n.f3, .int .i64 n.f4], .int .i64 er]) hQ B5 (fun _ _ => by kernel_rfl) ?_
    refine RegH.take 8 85 (.agg #[.int .i64 n.f0, .int .i64 n.f1, .int .i64 n.f2, .int .i64 n.f3, .int .i64 n.f4]) hQ B5 (fun _ _ => by kernel_rfl) ?_
    refine RegH.take 9 86 (.int .i64 er) hQ B5 (fun _ _ => by kernel_rfl) ?_
    have hsz := B5.size
    have B6 := B5.alloc hsz (.cells #[.int .i64 0, .int .i64 0, .int .i64 0, .int .i64 0, .int .i64 0] 42)
    refine RegH.any1 10 (value 11 (.pointer (some ⟨w5.heap.size, 0, none⟩)) (w' := w5.alloc (.cells #[.int .i64 0, .int .i64 0, .int .i64 0, .int .i64 0, .int .i64 0] 42)) ⟨B6, ?_⟩)
    have hb6 : (w5.alloc (.cells #[.int .i64 0, .int .i64 0, .int .i64 0, .int .i64 0, .int .i64 0] 42)).heap[w5.heap.size]? = some (.cells #[.int .i64 0, .int .i64 0, .int .i64 0, .int .i64 0, .int .i64 0] 42 (0, 0)) := blk_new _ _
    have B7 : Below wa.heap.size wa ((w5.alloc (.cells #[.int .i64 0, .int .i64 0, .int .i64 0, .int .i64 0, .int .i64 0] 42)).setRow w5.heap.size #[.int .i64 n.f0, .int .i64 n.f1, .int .i64 n.f2, .int .i64 n.f3, .int .i64 n.f4]) := below_setRow B6 hsz _
    refine RegH.any1 11 (RegH.skip (w' := (w5.alloc (.cells #[.int .i64 0, .int .i64 0, .int .i64 0, .int .i64 0, .int .i64 0] 42)).setRow w5.heap.size #[.int .i64 n.f0, .int .i64 n.f1, .int .i64 n.f2, .int .i64 n.f3, .int .i64 n.f4]) ⟨B7, ?_⟩ (hv := storeR (t := 42) (s := 11) (u := 85) (g := w5.heap.size) (by kernel_rfl) (by kernel_rfl) (by kernel_rfl) hb6 (by kernel_rfl) rfl (by simp [Value.oneCell'])))
    refine RegH.take 12 12 (.int .i64 er) hQ B7 (fun _ _ => by kernel_rfl) ?_
    exact RegH.same (l' := L 13 13) (wpAnyH_done (by kernel_rfl) (hq w5.heap.size _ B7 (setRow_heap _ _ _ _ _ _ hb6) hsz) 0)
  · have hsz : wa.heap.size ≤ wa.heap.size := Nat.le_refl _
    have B6 := b0.alloc hsz (.cells #[.int .i64 0, .int .i64 0, .int .i64 0, .int .i64 0, .int .i64 0] 42)
    have hb6 : (wa.alloc (.cells #[.int .i64 0, .int .i64 0, .int .i64 0, .int .i64 0, .int .i64 0] 42)).heap[wa.heap.size]? = some (.cells #[.int .i64 0, .int .i64 0, .int .i64 0, .int .i64 0, .int .i64 0] 42 (0, 0)) := blk_new _ _
    have hz : (wa.alloc (.cells #[.int .i64 0, .int .i64 0, .int .i64 0, .int .i64 0, .int .i64 0] 42)).heap.size = wa.heap.size + 1 := by simp [go_sem]
    refine value 11 (.pointer (some ⟨wa.heap.size, 0, none⟩)) (w' := wa.alloc (.cells #[.int .i64 0, .int .i64 0, .int .i64 0, .int .i64 0, .int .i64 0] 42)) ⟨B6, ?_⟩
    generalize wa.alloc (.cells #[.int .i64 0, .int .i64 0, .int .i64 0, .int .i64 0, .int .i64 0] 42) = wb at *
    refine RegH.any1 6 (enter 84 11 #[.agg cs.toArray, .string x] ?_)
    refine (hR wb B6).mono ?_
    rintro e w5 ⟨rfl, B5⟩
    have B8 : Below wa.heap.size wa w5 := B6.trans (B5.mono (by omega))
    refine ⟨_, rfl, B8, ?_⟩
    refine RegH.take 7 77 (.tuple #[.agg #[.int .i64 n.f0, .int .i64 n.f1, .int .i64 n.f2, .int .i64 n.f3, .int .i64 n.f4], .int .i64 er]) hQ B8 (fun _ _ => by kernel_rfl) ?_
    refine RegH.take 8 85 (.agg #[.int .i64 n.f0, .int .i64 n.f1, .int .i64 n.f2, .int .i64 n.f3, .int .i64 n.f4]) hQ B8 (fun _ _ => by kernel_rfl) ?_
    refine RegH.take 9 86 (.int .i64 er) hQ B8 (fun _ _ => by kernel_rfl) ?_
    have hb7 := blk_below hb6 B5
    have B7 : Below wa.heap.size wa (w5.setRow wa.heap.size #[.int .i64 n.f0, .int .i64 n.f1, .int .i64 n.f2, .int .i64 n.f3, .int .i64 n.f4]) := below_setRow B8 hsz _
    refine RegH.any1 11 (RegH.skip (w' := w5.setRow wa.heap.size #[.int .i64 n.f0, .int .i64 n.f1, .int .i64 n.f2, .int .i64 n.f3, .int .i64 n.f4]) ⟨B7, ?_⟩ (hv := storeR (t := 42) (s := 11) (u := 85) (g := wa.heap.size) (by kernel_rfl) (by kernel_rfl) (by kernel_rfl) hb7 (by kernel_rfl) rfl (by simp [Value.oneCell'])))
    refine RegH.take 12 12 (.int .i64 er) hQ B7 (fun _ _ => by kernel_rfl) ?_
    exact RegH.same (l' := L 13 13) (wpAnyH_done (by kernel_rfl) (hq wa.heap.size _ B7 (setRow_heap _ _ _ _ _ _ hb7) hsz) 0)
end Go.Proofs.YtnhflmihjegaiaaDoor
