/- mill: its drawn region 17, in every order. (gen_millr.py) -/
import Derived.Test.YtnhflmihjegaiaaDoorMillI
import Derived.Test.YtnhflmihjegaiaaDoorPx3
namespace Go.Proofs.YtnhflmihjegaiaaDoor
open Go Go.Proofs Go.RowKit Go.Proofs.YtnhflmihjegaiaaDoorW.PrintWords P Reg
set_option linter.unusedSimpArgs false
set_option linter.unusedVariables false
set_option maxRecDepth 100000
set_option maxHeartbeats 4000000
theorem mreg17 {Q : Exit → Act → World → Prop} (hQ : ∀ c (a : Act) d v w, Q (.panic c) (a.put d v) w → Q (.panic c) a w) (x3 x4 x5 x6 x7 x10 x11 x13 x14 x15 x16 x17 x18 x19 x20 x21 x22 x23 x24 x25 x26 x27 x28 x29 x30 x31 x32 x33 x34 x35 x36 x37 x38 x39 x40 x41 x42 x43 x44 x45 x46 x47 x48 x49 x50 x51 x52 x53 x54 x55 x56 x57 x58 x59 x60 x61 x62 x63 x64 x65 x66 x67 x68 x69 x70 x71 x72 x73 x74 x75 x76 x77 x78 x79 x80 x81 x82 x83 x84 x85 x86 x87 x88 x89 x90 x91 x92 x93 x94 x95 x96 x97 x98 x99 x100 x101 x102 x103 x104 x105 x106 x107 x108 x109 x110 x111 x112 x113 x114 x115 x116 x117 x118 x119 x120 x121 x122 x123 x124 x125 x126 x127 x128 x129 x130 x131 x132 x133 x134 x135 x136 x137 x138 x139 x140 x141 x142 : Value) (wa w0 : World) {B : Nat} (A0 A1 : Option Addr) (n0 c0 n1 c1 : Nat) {ad p : Addr} {n c k : Nat} (s : S55) {v2 v3 v5 u2 u3 u5 : Value} {L0 : List S111} {I : List S100} {O0 : List S116} {L1 : List S112} {I1 : List S101} {O1 : List S117}
    (M : MI B w0 wa v2 v3 v5 u2 u3 u5 L0 I O0 L1 I1 O1) (hk : k < n) (hp : ad.add (k * 2) = p) (hb : ad.block < B) (hc : ∀ j v, [.int .i64 s.f0, .bool s.f1][j]? = some v → wa.cell? (p.add j) = some v) (hl : O1.length ≤ 100000)
    (hq : ∀ (w : World) (v11 v1 : Value) (W : World), MI B w0 w v2 v3 v5 u2 u3 v1 L0 I O0 L1 I1 (O1 ++ [ordOf1 s]) → Q .normal ⟨#[(.slice A0 n0 c0), (.slice A1 n1 c1), (.slice (some ad) n c), x3, x4, x5, x6, x7, (.pointer (some ⟨B + 1 + 1, 0, none⟩)), (.pointer (some ⟨B + 1 + 1 + 1, 0, none⟩)), x10, x11, (.int .i64 (k : Int)), x13, x14, x15, x16, x17, x18, x19, x20, x21, x22, x23, x24, x25, x26, x27, x28, x29, x30, x31, x32, x33, x34, x35, x36, x37, x38, x39, x40, x41, x42, x43, x44, x45, x46, x47, x48, x49, x50, x51, x52, x53, x54, x55, x56, x57, x58, x59, x60, x61, x62, x63, x64, x65, x66, x67, x68, x69, x70, x71, x72, x73, x74, x75, x76, x77, x78, x79, x80, x81, x82, x83, x84, x85, x86, x87, x88, x89, x90, x91, x92, x93, x94, x95, x96, x97, x98, x99, x100, x101, x102, x103, x104, x105, x106, x107, x108, x109, x110, x111, x112, x113, x114, x115, x116, x117, x118, x119, x120, x121, x122, x123, (.pointer (some ⟨B + 1 + 1 + 1, 5, none⟩)), u5, (.slice (some ad) n c), (.int .i64 (k : Int)), (.pointer (some p)), (.pointer (some p)), (.int .i64 s.f0), (.agg #[.string ⟨#[]⟩, .string ⟨#[]⟩, .int .i64 0, .int .i64 0, .int .i64 0, .int .i64 0, .int .i64 0, .int .i64 0, .int .i64 0, .int .i64 0, .int .i64 s.f0]), (.slice (some ad) n c), (.int .i64 (k : Int)), (.pointer (some p)), (.pointer (some (p.add 1))), (.bool s.f1), (.agg #[.string ⟨#[]⟩, .string ⟨#[]⟩, .int .i64 0, .int .i64 0, .int .i64 0, .int .i64 0, .int .i64 0, .int .i64 0, .int .i64 0, .int .i64 0, .int .i64 s.f0, .bool s.f1]), (.slice (some ⟨W.heap.size, 0, none⟩) 1 1), v1, (.pointer (some ⟨B + 1 + 1 + 1, 5, none⟩)), x141, x142], []⟩ w) :
    wpAnyH Tryd.prog .any (R Tryd.f10 17) Q (Below B wa) 18 (L 18 0) ⟨#[(.slice A0 n0 c0), (.slice A1 n1 c1), (.slice (some ad) n c), x3, x4, x5, x6, x7, (.pointer (some ⟨B + 1 + 1, 0, none⟩)), (.pointer (some ⟨B + 1 + 1 + 1, 0, none⟩)), x10, x11, (.int .i64 (k : Int)), x13, x14, x15, x16, x17, x18, x19, x20, x21, x22, x23, x24, x25, x26, x27, x28, x29, x30, x31, x32, x33, x34, x35, x36, x37, x38, x39, x40, x41, x42, x43, x44, x45, x46, x47, x48, x49, x50, x51, x52, x53, x54, x55, x56, x57, x58, x59, x60, x61, x62, x63, x64, x65, x66, x67, x68, x69, x70, x71, x72, x73, x74, x75, x76, x77, x78, x79, x80, x81, x82, x83, x84, x85, x86, x87, x88, x89, x90, x91, x92, x93, x94, x95, x96, x97, x98, x99, x100, x101, x102, x103, x104, x105, x106, x107, x108, x109, x110, x111, x112, x113, x114, x115, x116, x117, x118, x119, x120, x121, x122, x123, x124, x125, x126, x127, x128, x129, x130, x131, x132, x133, x134, x135, x136, x137, x138, x139, x140, x141, x142], []⟩ wa := by
  have hpb : p.block = ad.block := by rw [← hp, Addr.block_add]
  have hr : ∀ w, Below B wa w → ∀ j v, [.int .i64 s.f0, .bool s.f1][j]? = some v → w.cell? (p.add j) = some v := fun w b j v hv => (b.cell (by rw [Addr.block_add, hpb]; exact hb)).trans (hc j v hv)
  have b0 := Below.refl B wa
  have hms := M.size
  have tail : ∀ (W : World) (v11 : Value) (MW : MI B w0 W v2 v3 v5 u2 u3 u5 L0 I O0 L1 I1 O1) (bW : Below B wa W) , wpAnyH Tryd.prog .any (R Tryd.f10 17) Q (Below B wa) 3 (L 18 15) ⟨#[(.slice A0 n0 c0), (.slice A1 n1 c1), (.slice (some ad) n c), x3, x4, x5, x6, x7, (.pointer (some ⟨B + 1 + 1, 0, none⟩)), (.pointer (some ⟨B + 1 + 1 + 1, 0, none⟩)), x10, x11, (.int .i64 (k : Int)), x13, x14, x15, x16, x17, x18, x19, x20, x21, x22, x23, x24, x25, x26, x27, x28, x29, x30, x31, x32, x33, x34, x35, x36, x37, x38, x39, x40, x41, x42, x43, x44, x45, x46, x47, x48, x49, x50, x51, x52, x53, x54, x55, x56, x57, x58, x59, x60, x61, x62, x63, x64, x65, x66, x67, x68, x69, x70, x71, x72, x73, x74, x75, x76, x77, x78, x79, x80, x81, x82, x83, x84, x85, x86, x87, x88, x89, x90, x91, x92, x93, x94, x95, x96, x97, x98, x99, x100, x101, x102, x103, x104, x105, x106, x107, x108, x109, x110, x111, x112, x113, x114, x115, x116, x117, x118, x119, x120, x121, x122, x123, (.pointer (some ⟨B + 1 + 1 + 1, 5, none⟩)), u5, (.slice (some ad) n c), (.int .i64 (k : Int)), (.pointer (some p)), (.pointer (some p)), (.int .i64 s.f0), (.agg #[.string ⟨#[]⟩, .string ⟨#[]⟩, .int .i64 0, .int .i64 0, .int .i64 0, .int .i64 0, .int .i64 0, .int .i64 0, .int .i64 0, .int .i64 0, .int .i64 s.f0]), (.slice (some ad) n c), (.int .i64 (k : Int)), (.pointer (some p)), (.pointer (some (p.add 1))), (.bool s.f1), (.agg #[.string ⟨#[]⟩, .string ⟨#[]⟩, .int .i64 0, .int .i64 0, .int .i64 0, .int .i64 0, .int .i64 0, .int .i64 0, .int .i64 0, .int .i64 0, .int .i64 s.f0, .bool s.f1]), (.slice (some ⟨W.heap.size, 0, none⟩) 1 1), x139, x140, x141, x142], []⟩ (W.alloc (.cells #[.string ⟨#[]⟩, .string ⟨#[]⟩, .int .i64 0, .int .i64 0, .int .i64 0, .int .i64 0, .int .i64 0, .int .i64 0, .int .i64 0, .int .i64 0, .int .i64 s.f0, .bool s.f1] 117)) := by
    intro W v11 MW bW 
    have hsW := bW.size
    have hown : ∀ k, u5.ownBlock = some k → B + 4 ≤ k := fun k hk => Kd.R_base MW.q5 k hk
    have hlt : ∀ k, u5.ownBlock = some k → k < wa.heap.size := fun k hk => ((Kd.R_bound M.q5).1 k hk).2.2.1
    refine RegH.any1 15 (pushStep k117 (N := 139) (B + 4) (.tmp 125) (.tmp 138) 36 117 _ 112 (by kernel_rfl) Tryd.underlying36 info117 (by kernel_rfl) (by decide) (by decide) u5 O1 (ordOf1 s) [.string ⟨#[]⟩, .string ⟨#[]⟩, .int .i64 0, .int .i64 0, .int .i64 0, .int .i64 0, .int .i64 0, .int .i64 0, .int .i64 0, .int .i64 0, .int .i64 s.f0, .bool s.f1] (by kernel_rfl) (by kernel_rfl) (fun k => wa.heap.size ≤ k) (k117_mkM W (B + 4) _ (ordOf1 s)) (fun k h => ⟨trivial, fun e => by have := hlt k e.symm; omega⟩) MW.q5 (by have := MW.size; omega) (by omega) ?_)
    intro v1 w6 hR6 hg6
    have M7 := MW.push_q5 hR6 hg6
    have bs6 := blk_grown MW.bt hg6 (fun e => by have := hown _ e.symm; omega)
    obtain ⟨A6, c6, e6⟩ : ∃ A6 c6, v1 = .slice A6 (O1.length + 1) c6 := by
      obtain ⟨A, c, e, _⟩ := Kd.R_reads hR6
      exact ⟨A, c, by rw [e, List.length_append]; rfl⟩
    have b6 : Below B wa w6 := bW.grown hg6 (by have := MW.size; omega) (fun k e => by have := hown k e; omega)
    refine ⟨b6, ?_⟩
    refine RegH.take 16 140 (.pointer (some ⟨B + 1 + 1 + 1, 5, none⟩)) hQ b6 (fun _ _ => by kernel_rfl) ?_
    have b7 : Below B wa (w6.setCell ⟨B + 1 + 1 + 1, 5, none⟩ v1) := b6.setCell (by show B ≤ B + 1 + 1 + 1; omega) _
    subst e6
    refine RegH.any1 17 (RegH.skip (w' := w6.setCell ⟨B + 1 + 1 + 1, 5, none⟩ (.slice A6 (O1.length + 1) c6)) ⟨b7, ?_⟩ (hv := storeS (t := 36) (s := 140) (u := 139) (b := B + 1 + 1 + 1) (j := 5) (by kernel_rfl) (by kernel_rfl) (by kernel_rfl) (by kernel_rfl) (blk_cell bs6 5) (blk_frozen bs6 _)))
    exact RegH.same (l' := L 18 18) (wpAnyH_done (by kernel_rfl) (hq _ v11 _ W M7) 0)
  refine RegH.take 0 124 (.pointer (some ⟨B + 1 + 1 + 1, 5, none⟩)) hQ b0 (fun _ _ => by kernel_rfl) ?_
  refine RegH.take 2 126 (.slice (some ad) n c) hQ b0 (fun _ _ => by kernel_rfl) ?_
  refine RegH.take 3 127 (.int .i64 (k : Int)) hQ b0 (fun _ _ => by kernel_rfl) ?_
  refine RegH.take 4 128 (.pointer (some p)) hQ b0 (fun _ _ => idxV (n := n) (c := c) (ad := ad) (k := k) (s := 126) (i := 127) (sz := 2) (by kernel_rfl) (by kernel_rfl) (by kernel_rfl) Tryd.underlying50 (by kernel_rfl) hk hp) ?_
  refine RegH.take 5 129 (.pointer (some p)) hQ b0 (fun _ _ => by kernel_rfl) ?_
  refine RegH.take 6 130 (.int .i64 s.f0) hQ b0 (fun w b => load1 (s := 129) (by kernel_rfl) (by kernel_rfl) (by simpa [Addr.add] using hr w b 0 _ rfl) Tryd.underlying3 rfl) ?_
  refine RegH.take 7 131 (.agg #[.string ⟨#[]⟩, .string ⟨#[]⟩, .int .i64 0, .int .i64 0, .int .i64 0, .int .i64 0, .int .i64 0, .int .i64 0, .int .i64 0, .int .i64 0, .int .i64 s.f0]) hQ b0 (fun _ _ => by kernel_rfl) ?_
  refine RegH.take 8 132 (.slice (some ad) n c) hQ b0 (fun _ _ => by kernel_rfl) ?_
  refine RegH.take 9 133 (.int .i64 (k : Int)) hQ b0 (fun _ _ => by kernel_rfl) ?_
  refine RegH.take 10 134 (.pointer (some p)) hQ b0 (fun _ _ => idxV (n := n) (c := c) (ad := ad) (k := k) (s := 132) (i := 133) (sz := 2) (by kernel_rfl) (by kernel_rfl) (by kernel_rfl) Tryd.underlying50 (by kernel_rfl) hk hp) ?_
  refine RegH.take 11 135 (.pointer (some (p.add 1))) hQ b0 (fun _ _ => by kernel_rfl) ?_
  refine RegH.take 12 136 (.bool s.f1) hQ b0 (fun w b => load1 (s := 135) (by kernel_rfl) (by kernel_rfl) (hr w b 1 _ rfl) Tryd.underlying4 rfl) ?_
  refine RegH.take 13 137 (.agg #[.string ⟨#[]⟩, .string ⟨#[]⟩, .int .i64 0, .int .i64 0, .int .i64 0, .int .i64 0, .int .i64 0, .int .i64 0, .int .i64 0, .int .i64 0, .int .i64 s.f0, .bool s.f1]) hQ b0 (fun _ _ => by kernel_rfl) ?_
  have b2 := b0.alloc (by omega) (.cells #[.string ⟨#[]⟩, .string ⟨#[]⟩, .int .i64 0, .int .i64 0, .int .i64 0, .int .i64 0, .int .i64 0, .int .i64 0, .int .i64 0, .int .i64 0, .int .i64 s.f0, .bool s.f1] 117)
  refine RegH.any2 1 14 ?_ ?_
  · refine value 125 u5 (hv := load1 (s := 124) (by kernel_rfl) (by kernel_rfl) (blk_cell M.bt 5) Tryd.underlying36 rfl) ⟨b0, ?_⟩
    refine RegH.any1 14 (value 138 (.slice (some ⟨wa.heap.size, 0, none⟩) 1 1) (w' := wa.alloc (.cells #[.string ⟨#[]⟩, .string ⟨#[]⟩, .int .i64 0, .int .i64 0, .int .i64 0, .int .i64 0, .int .i64 0, .int .i64 0, .int .i64 0, .int .i64 0, .int .i64 s.f0, .bool s.f1] 117)) ⟨b2, ?_⟩)
    exact RegH.same (tail wa .nilIface M b0)
  · refine value 138 (.slice (some ⟨wa.heap.size, 0, none⟩) 1 1) (w' := wa.alloc (.cells #[.string ⟨#[]⟩, .string ⟨#[]⟩, .int .i64 0, .int .i64 0, .int .i64 0, .int .i64 0, .int .i64 0, .int .i64 0, .int .i64 0, .int .i64 0, .int .i64 s.f0, .bool s.f1] 117)) ⟨b2, ?_⟩
    refine RegH.any1 1 (value 125 u5 (hv := load1 (s := 124) (by kernel_rfl) (by kernel_rfl) (blk_cell (blk_alloc M.bt _) 5) Tryd.underlying36 rfl) ⟨b2, ?_⟩)
    exact RegH.same (tail wa .nilIface M b0)
end Go.Proofs.YtnhflmihjegaiaaDoor
