/- ReportSums: its drawn regions. (gen_sumr.py) -/
import Derived.Test.YtnhflmihjegaiaaDoorSpcR
import Derived.Test.YtnhflmihjegaiaaDoorSumA
namespace Go.Proofs.YtnhflmihjegaiaaDoor
open Go Go.Proofs Go.RowKit Go.Proofs.YtnhflmihjegaiaaDoorW.PrintWords P Reg
set_option linter.unusedSimpArgs false
set_option linter.unusedVariables false
set_option maxRecDepth 100000
set_option maxHeartbeats 4000000
theorem wrapE (n : Int) : IntKind.i64.wrap n = wrap64 n := by
  unfold wrap64
  simp [IntKind.wrap, IntKind.signed, IntKind.bits]
  try omega
theorem addV {a : Act} {o : Oper} {w : World} {s t : Nat} {x y : Int} (hop : o.op = .binOp .add 3 (.tmp s) (.tmp t) 3) (hs : a.eval (.tmp s) = .int .i64 x) (ht : a.eval (.tmp t) = .int .i64 y) :
    (execOp a.eval o).run Tryd.prog w = .ok (.value (.int .i64 (wrap64 (x + y)))) w := by
  have hu3 := Tryd.underlying3
  obtain ⟨ds, op, ty, pos, aft, gd⟩ := o
  cases hop
  simp only [execOp, hs, ht]
  go_simp
  exact wrapE _
theorem subV {a : Act} {o : Oper} {w : World} {s t : Nat} {x y : Int} (hop : o.op = .binOp .sub 3 (.tmp s) (.tmp t) 3) (hs : a.eval (.tmp s) = .int .i64 x) (ht : a.eval (.tmp t) = .int .i64 y) :
    (execOp a.eval o).run Tryd.prog w = .ok (.value (.int .i64 (wrap64 (x - y)))) w := by
  have hu3 := Tryd.underlying3
  obtain ⟨ds, op, ty, pos, aft, gd⟩ := o
  cases hop
  simp only [execOp, hs, ht]
  go_simp
  exact wrapE _
theorem sub1V {a : Act} {o : Oper} {w : World} {s : Nat} {x : Int} (hop : o.op = .binOp .sub 3 (.tmp s) (.const (.int .i64 1)) 3) (hs : a.eval (.tmp s) = .int .i64 x) :
    (execOp a.eval o).run Tryd.prog w = .ok (.value (.int .i64 (wrap64 (x - 1)))) w := by
  have hu3 := Tryd.underlying3
  have hc : a.eval (.const (.int .i64 1)) = .int .i64 1 := rfl
  obtain ⟨ds, op, ty, pos, aft, gd⟩ := o
  cases hop
  simp only [execOp, hs, hc]
  go_simp
  exact wrapE _
theorem eqlV {a : Act} {o : Oper} {w : World} {s t : Nat} {x y : Int} (hop : o.op = .binOp .eql 3 (.tmp s) (.tmp t) 3) (hs : a.eval (.tmp s) = .int .i64 x) (ht : a.eval (.tmp t) = .int .i64 y) :
    (execOp a.eval o).run Tryd.prog w = .ok (.value (.bool (decide (x = y)))) w := by
  have hu3 := Tryd.underlying3
  obtain ⟨ds, op, ty, pos, aft, gd⟩ := o
  cases hop
  simp only [execOp, hs, ht]
  go_simp
  by_cases h : x = y <;> simp [h]
theorem convV {a : Act} {o : Oper} {w : World} {s : Nat} {x : Int} (hop : o.op = .convert 85 3 (.tmp s)) (hs : a.eval (.tmp s) = .int .u32 x) :
    (execOp a.eval o).run Tryd.prog w = .ok (.value (.int .i64 (wrap64 x))) w := by
  have hu3 := Tryd.underlying3
  have hu85 := Tryd.underlying85
  obtain ⟨ds, op, ty, pos, aft, gd⟩ := o
  cases hop
  simp only [execOp, hs]
  go_simp
  exact wrapE _
section
open Go.Proofs.YtnhflmihjegaiaaDoorW.PrintMore
attribute [local go_sem] max2_int min2_int max_two min_two
theorem minV {a : Act} {o : Oper} {w : World} {s : Nat} {x : Int} (hop : o.op = .call { callee := .builtin .min, args := #[.tmp s, .const (.int .i64 1073741824)], argTypes := #[3, 3] }) (hs : a.eval (.tmp s) = .int .i64 x) :
    (execOp a.eval o).run Tryd.prog w = .ok (.value (.int .i64 (mn x 1073741824))) w := by
  have hu3 := Tryd.underlying3
  have hc : a.eval (.const (.int .i64 1073741824)) = .int .i64 1073741824 := rfl
  obtain ⟨ds, op, ty, pos, aft, gd⟩ := o
  cases hop
  simp only [execOp, List.map_toArray, List.map_cons, List.map_nil, hs, hc, Array.map]
  have hs2 : a.tmps[s]?.getD undef = .int .i64 x := by simpa [Act.eval] using hs
  go_simp
  rfl
theorem maxV {a : Act} {o : Oper} {w : World} {s : Nat} {x : Int} (hop : o.op = .call { callee := .builtin .max, args := #[.const (.int .i64 0), .tmp s], argTypes := #[3, 3] }) (hs : a.eval (.tmp s) = .int .i64 x) :
    (execOp a.eval o).run Tryd.prog w = .ok (.value (.int .i64 (mx 0 x))) w := by
  have hu3 := Tryd.underlying3
  have hc : a.eval (.const (.int .i64 0)) = .int .i64 0 := rfl
  obtain ⟨ds, op, ty, pos, aft, gd⟩ := o
  cases hop
  simp only [execOp, List.map_toArray, List.map_cons, List.map_nil, hs, hc, Array.map]
  have hs2 : a.tmps[s]?.getD undef = .int .i64 x := by simpa [Act.eval] using hs
  go_simp
  rfl
end
theorem sreg11 {Q : Exit → Act → World → Prop} (hQ : ∀ c (a : Act) d v w, Q (.panic c) (a.put d v) w → Q (.panic c) a w) (x0 x1 x2 x3 x4 x5 x6 x11 x12 x13 x14 x15 x16 x17 x18 x19 x20 x21 x22 x23 x24 x25 x26 x27 x28 x29 x30 x31 x32 x33 x34 x35 x36 x37 x38 x39 x40 x41 x42 x43 x44 x45 x46 x47 x48 x49 x50 x51 x52 x53 x54 x55 x56 x57 x58 x59 x60 x61 x62 x63 x64 x65 x66 x67 x68 x69 x70 x71 x72 x73 x74 x75 x76 x77 x78 x79 x80 x81 x82 x83 x84 x85 x86 x87 x88 x89 x90 x91 x92 x93 x94 x95 x96 x97 x98 x99 x100 x101 x102 x103 x104 x105 x106 x107 x108 x109 x110 x111 x112 x113 x114 x115 x116 x117 x118 x119 x120 x121 x122 x123 x124 x125 x126 x127 x128 x129 x130 x131 x132 x133 x134 x135 x136 x137 x138 x139 x140 x141 x142 x143 x144 x145 x146 x147 x148 x149 x150 x151 x152 x153 x154 x155 x156 x157 x158 x159 x160 x161 x162 x163 x164 x165 x166 x167 x168 x169 x170 x171 x172 x173 x174 x175 x176 x177 x178 x179 x180 x181 x182 x183 x184 x185 x186 x187 x188 x189 x190 x191 x192 x193 x194 x195 x196 x197 x198 x199 x200 x201 x202 x203 : Value) (wa : World) {i n cap : Nat} {ar p : Addr} {C V u3 u4 : Int}
    (hi : i < n) (hp : ar.add (i * 5) = p) (h3 : wa.cell? (p.add 3) = some (.int .i64 u3)) (h4 : wa.cell? (p.add 4) = some (.int .i64 u4))
    (hq : Q .normal ⟨#[x0, x1, x2, x3, x4, x5, x6, (.slice (some ar) n cap), (.int .i64 (wrap64 (C + u3))), (.int .i64 (wrap64 (V + u4))), (.int .i64 ((i : Int))), x11, x12, x13, x14, x15, x16, x17, x18, x19, x20, x21, x22, x23, x24, x25, x26, x27, x28, x29, x30, x31, x32, x33, x34, x35, x36, x37, x38, x39, x40, x41, x42, (.int .i64 (C)), (.slice (some ar) n cap), (.int .i64 ((i : Int))), (.pointer (some p)), (.pointer (some (p.add 3))), (.int .i64 (u3)), (.int .i64 (wrap64 (C + u3))), (.int .i64 (V)), (.slice (some ar) n cap), (.int .i64 ((i : Int))), (.pointer (some p)), (.pointer (some (p.add 4))), (.int .i64 (u4)), (.int .i64 (wrap64 (V + u4))), x57, x58, x59, x60, x61, x62, x63, x64, x65, x66, x67, x68, x69, x70, x71, x72, x73, x74, x75, x76, x77, x78, x79, x80, x81, x82, x83, x84, x85, x86, x87, x88, x89, x90, x91, x92, x93, x94, x95, x96, x97, x98, x99, x100, x101, x102, x103, x104, x105, x106, x107, x108, x109, x110, x111, x112, x113, x114, x115, x116, x117, x118, x119, x120, x121, x122, x123, x124, x125, x126, x127, x128, x129, x130, x131, x132, x133, x134, x135, x136, x137, x138, x139, x140, x141, x142, x143, x144, x145, x146, x147, x148, x149, x150, x151, x152, x153, x154, x155, x156, x157, x158, x159, x160, x161, x162, x163, x164, x165, x166, x167, x168, x169, x170, x171, x172, x173, x174, x175, x176, x177, x178, x179, x180, x181, x182, x183, x184, x185, x186, x187, x188, x189, x190, x191, x192, x193, x194, x195, x196, x197, x198, x199, x200, x201, x202, x203], []⟩ wa) :
    wpAnyH Tryd.prog .any (R Tryd.f8 11) Q (fun w => w = wa) 16 (L 16 0) ⟨#[x0, x1, x2, x3, x4, x5, x6, (.slice (some ar) n cap), (.int .i64 (C)), (.int .i64 (V)), (.int .i64 ((i : Int))), x11, x12, x13, x14, x15, x16, x17, x18, x19, x20, x21, x22, x23, x24, x25, x26, x27, x28, x29, x30, x31, x32, x33, x34, x35, x36, x37, x38, x39, x40, x41, x42, x43, x44, x45, x46, x47, x48, x49, x50, x51, x52, x53, x54, x55, x56, x57, x58, x59, x60, x61, x62, x63, x64, x65, x66, x67, x68, x69, x70, x71, x72, x73, x74, x75, x76, x77, x78, x79, x80, x81, x82, x83, x84, x85, x86, x87, x88, x89, x90, x91, x92, x93, x94, x95, x96, x97, x98, x99, x100, x101, x102, x103, x104, x105, x106, x107, x108, x109, x110, x111, x112, x113, x114, x115, x116, x117, x118, x119, x120, x121, x122, x123, x124, x125, x126, x127, x128, x129, x130, x131, x132, x133, x134, x135, x136, x137, x138, x139, x140, x141, x142, x143, x144, x145, x146, x147, x148, x149, x150, x151, x152, x153, x154, x155, x156, x157, x158, x159, x160, x161, x162, x163, x164, x165, x166, x167, x168, x169, x170, x171, x172, x173, x174, x175, x176, x177, x178, x179, x180, x181, x182, x183, x184, x185, x186, x187, x188, x189, x190, x191, x192, x193, x194, x195, x196, x197, x198, x199, x200, x201, x202, x203], []⟩ wa := by
  have b0 : (fun w => w = wa) wa := rfl
  refine RegH.take 0 43 (.int .i64 (C)) hQ b0 (fun _ _ => by kernel_rfl) ?_
  refine RegH.take 1 44 (.slice (some ar) n cap) hQ b0 (fun _ _ => by kernel_rfl) ?_
  refine RegH.take 2 45 (.int .i64 ((i : Int))) hQ b0 (fun _ _ => by kernel_rfl) ?_
  refine RegH.take 3 46 (.pointer (some p)) hQ b0 (fun _ _ => idxV (n := n) (c := cap) (ad := ar) (k := i) (s := 44) (i := 45) (sz := 5) (by kernel_rfl) (by kernel_rfl) (by kernel_rfl) Tryd.underlying62 (by kernel_rfl) hi hp) ?_
  refine RegH.take 4 47 (.pointer (some (p.add 3))) hQ b0 (fun _ _ => by kernel_rfl) ?_
  refine RegH.take 5 48 (.int .i64 (u3)) hQ b0 (fun w h => by subst h; exact load1 (s := 47) (by kernel_rfl) (by kernel_rfl) h3 Tryd.underlying3 rfl) ?_
  refine RegH.take 6 49 (.int .i64 (wrap64 (C + u3))) hQ b0 (fun _ _ => addV (s := 43) (t := 48) (by kernel_rfl) (by kernel_rfl) (by kernel_rfl)) ?_
  refine RegH.take 7 50 (.int .i64 (V)) hQ b0 (fun _ _ => by kernel_rfl) ?_
  refine RegH.take 8 51 (.slice (some ar) n cap) hQ b0 (fun _ _ => by kernel_rfl) ?_
  refine RegH.take 9 52 (.int .i64 ((i : Int))) hQ b0 (fun _ _ => by kernel_rfl) ?_
  refine RegH.take 10 53 (.pointer (some p)) hQ b0 (fun _ _ => idxV (n := n) (c := cap) (ad := ar) (k := i) (s := 51) (i := 52) (sz := 5) (by kernel_rfl) (by kernel_rfl) (by kernel_rfl) Tryd.underlying62 (by kernel_rfl) hi hp) ?_
  refine RegH.take 11 54 (.pointer (some (p.add 4))) hQ b0 (fun _ _ => by kernel_rfl) ?_
  refine RegH.take 12 55 (.int .i64 (u4)) hQ b0 (fun w h => by subst h; exact load1 (s := 54) (by kernel_rfl) (by kernel_rfl) h4 Tryd.underlying3 rfl) ?_
  refine RegH.take 13 56 (.int .i64 (wrap64 (V + u4))) hQ b0 (fun _ _ => addV (s := 50) (t := 55) (by kernel_rfl) (by kernel_rfl) (by kernel_rfl)) ?_
  refine RegH.take 14 8 (.int .i64 (wrap64 (C + u3))) hQ b0 (fun _ _ => by kernel_rfl) ?_
  refine RegH.take 15 9 (.int .i64 (wrap64 (V + u4))) hQ b0 (fun _ _ => by kernel_rfl) ?_
  exact RegH.same (l' := L 16 16) (wpAnyH_done (by kernel_rfl) hq 0)
theorem sreg20 {Q : Exit → Act → World → Prop} (hQ : ∀ c (a : Act) d v w, Q (.panic c) (a.put d v) w → Q (.panic c) a w) (x1 x2 x3 x4 x5 x6 x7 x10 x11 x12 x14 x15 x16 x17 x18 x19 x20 x21 x22 x23 x24 x25 x26 x27 x28 x29 x30 x31 x32 x33 x34 x35 x36 x37 x38 x39 x40 x41 x42 x43 x44 x45 x46 x47 x48 x49 x50 x51 x52 x53 x54 x55 x56 x57 x58 x59 x60 x61 x62 x63 x64 x65 x66 x67 x68 x69 x70 x71 x72 x73 x74 x75 x76 x77 x78 x79 x80 x81 x82 x83 x84 x85 x86 x87 x88 x89 x90 x91 x92 x93 x94 x95 x96 x97 x98 x99 x100 x101 x102 x103 x104 x105 x106 x107 x108 x109 x110 x111 x112 x113 x114 x115 x116 x117 x118 x119 x120 x121 x122 x123 x124 x125 x126 x127 x128 x129 x130 x131 x132 x133 x134 x135 x136 x137 x138 x139 x140 x141 x142 x143 x144 x145 x146 x147 x148 x149 x150 x151 x152 x153 x154 x155 x156 x157 x158 x159 x160 x161 x162 x163 x164 x165 x166 x167 x168 x169 x170 x171 x172 x173 x174 x175 x176 x177 x178 x179 x180 x181 x182 x183 x184 x185 x186 x187 x188 x189 x190 x191 x192 x193 x194 x195 x196 x197 x198 x199 x200 x201 x202 x203 : Value) (wa : World) {i ln c : Nat} {al p : Addr} {C V u3 : Int}
    (hi : i < ln) (hp : al.add (i * 5) = p) (h3 : wa.cell? (p.add 3) = some (.int .u32 u3))
    (hq : Q .normal ⟨#[(.slice (some al) ln c), x1, x2, x3, x4, x5, x6, x7, (.int .i64 (wrap64 (C - 1))), (.int .i64 (wrap64 (V - wrap64 u3))), x10, x11, x12, (.int .i64 ((i : Int))), x14, x15, x16, x17, x18, x19, x20, x21, x22, x23, x24, x25, x26, x27, x28, x29, x30, x31, x32, x33, x34, x35, x36, x37, x38, x39, x40, x41, x42, x43, x44, x45, x46, x47, x48, x49, x50, x51, x52, x53, x54, x55, x56, x57, x58, x59, x60, x61, x62, x63, x64, x65, x66, x67, x68, x69, x70, x71, x72, x73, x74, x75, x76, x77, x78, x79, x80, x81, x82, x83, x84, x85, x86, x87, x88, x89, x90, x91, x92, x93, x94, x95, x96, x97, x98, x99, x100, x101, x102, x103, x104, x105, x106, x107, x108, x109, x110, x111, x112, x113, (.int .i64 (C)), (.int .i64 (wrap64 (C - 1))), (.int .i64 (V)), (.slice (some al) ln c), (.int .i64 ((i : Int))), (.pointer (some p)), (.pointer (some (p.add 3))), (.int .u32 u3), (.int .i64 (wrap64 u3)), (.int .i64 (wrap64 (V - wrap64 u3))), x124, x125, x126, x127, x128, x129, x130, x131, x132, x133, x134, x135, x136, x137, x138, x139, x140, x141, x142, x143, x144, x145, x146, x147, x148, x149, x150, x151, x152, x153, x154, x155, x156, x157, x158, x159, x160, x161, x162, x163, x164, x165, x166, x167, x168, x169, x170, x171, x172, x173, x174, x175, x176, x177, x178, x179, x180, x181, x182, x183, x184, x185, x186, x187, x188, x189, x190, x191, x192, x193, x194, x195, x196, x197, x198, x199, x200, x201, x202, x203], []⟩ wa) :
    wpAnyH Tryd.prog .any (R Tryd.f8 20) Q (fun w => w = wa) 12 (L 12 0) ⟨#[(.slice (some al) ln c), x1, x2, x3, x4, x5, x6, x7, (.int .i64 (C)), (.int .i64 (V)), x10, x11, x12, (.int .i64 ((i : Int))), x14, x15, x16, x17, x18, x19, x20, x21, x22, x23, x24, x25, x26, x27, x28, x29, x30, x31, x32, x33, x34, x35, x36, x37, x38, x39, x40, x41, x42, x43, x44, x45, x46, x47, x48, x49, x50, x51, x52, x53, x54, x55, x56, x57, x58, x59, x60, x61, x62, x63, x64, x65, x66, x67, x68, x69, x70, x71, x72, x73, x74, x75, x76, x77, x78, x79, x80, x81, x82, x83, x84, x85, x86, x87, x88, x89, x90, x91, x92, x93, x94, x95, x96, x97, x98, x99, x100, x101, x102, x103, x104, x105, x106, x107, x108, x109, x110, x111, x112, x113, x114, x115, x116, x117, x118, x119, x120, x121, x122, x123, x124, x125, x126, x127, x128, x129, x130, x131, x132, x133, x134, x135, x136, x137, x138, x139, x140, x141, x142, x143, x144, x145, x146, x147, x148, x149, x150, x151, x152, x153, x154, x155, x156, x157, x158, x159, x160, x161, x162, x163, x164, x165, x166, x167, x168, x169, x170, x171, x172, x173, x174, x175, x176, x177, x178, x179, x180, x181, x182, x183, x184, x185, x186, x187, x188, x189, x190, x191, x192, x193, x194, x195, x196, x197, x198, x199, x200, x201, x202, x203], []⟩ wa := by
  have b0 : (fun w => w = wa) wa := rfl
  refine RegH.take 0 114 (.int .i64 (C)) hQ b0 (fun _ _ => by kernel_rfl) ?_
  refine RegH.take 1 115 (.int .i64 (wrap64 (C - 1))) hQ b0 (fun _ _ => sub1V (s := 114) (by kernel_rfl) (by kernel_rfl)) ?_
  refine RegH.take 2 116 (.int .i64 (V)) hQ b0 (fun _ _ => by kernel_rfl) ?_
  refine RegH.take 3 117 (.slice (some al) ln c) hQ b0 (fun _ _ => by kernel_rfl) ?_
  refine RegH.take 4 118 (.int .i64 ((i : Int))) hQ b0 (fun _ _ => by kernel_rfl) ?_
  refine RegH.take 5 119 (.pointer (some p)) hQ b0 (fun _ _ => idxV (n := ln) (c := c) (ad := al) (k := i) (s := 117) (i := 118) (sz := 5) (by kernel_rfl) (by kernel_rfl) (by kernel_rfl) Tryd.underlying57 (by kernel_rfl) hi hp) ?_
  refine RegH.take 6 120 (.pointer (some (p.add 3))) hQ b0 (fun _ _ => by kernel_rfl) ?_
  refine RegH.take 7 121 (.int .u32 u3) hQ b0 (fun w h => by subst h; exact load1 (s := 120) (by kernel_rfl) (by kernel_rfl) h3 Tryd.underlying85 rfl) ?_
  refine RegH.take 8 122 (.int .i64 (wrap64 u3)) hQ b0 (fun _ _ => convV (s := 121) (by kernel_rfl) (by kernel_rfl)) ?_
  refine RegH.take 9 123 (.int .i64 (wrap64 (V - wrap64 u3))) hQ b0 (fun _ _ => subV (s := 116) (t := 122) (by kernel_rfl) (by kernel_rfl) (by kernel_rfl)) ?_
  refine RegH.take 10 8 (.int .i64 (wrap64 (C - 1))) hQ b0 (fun _ _ => by kernel_rfl) ?_
  refine RegH.take 11 9 (.int .i64 (wrap64 (V - wrap64 u3))) hQ b0 (fun _ _ => by kernel_rfl) ?_
  exact RegH.same (l' := L 12 12) (wpAnyH_done (by kernel_rfl) hq 0)
theorem sreg25a {Q : Exit → Act → World → Prop} (hQ : ∀ c (a : Act) d v w, Q (.panic c) (a.put d v) w → Q (.panic c) a w) (x1 x2 x3 x4 x5 x6 x8 x9 x10 x11 x12 x14 x16 x17 x18 x19 x20 x21 x22 x23 x24 x25 x26 x27 x28 x29 x30 x31 x32 x33 x34 x35 x36 x37 x38 x39 x40 x41 x42 x43 x44 x45 x46 x47 x48 x49 x50 x51 x52 x53 x54 x55 x56 x57 x58 x59 x60 x61 x62 x63 x64 x65 x66 x67 x68 x69 x70 x71 x72 x73 x74 x75 x76 x77 x78 x79 x80 x81 x82 x83 x84 x85 x86 x87 x88 x89 x90 x91 x92 x93 x94 x95 x96 x97 x98 x99 x100 x101 x102 x103 x104 x105 x106 x107 x108 x109 x110 x111 x112 x113 x114 x115 x116 x117 x118 x119 x120 x121 x122 x123 x124 x125 x126 x127 x128 x129 x130 x131 x132 x133 x134 x135 x136 x137 x138 x139 x140 x141 x142 x143 x144 x145 x146 x147 x148 x149 x150 x151 x152 x153 x154 x155 x156 x157 x158 x159 x160 x161 x162 x163 x164 x165 x166 x167 x168 x169 x170 x171 x172 x173 x174 x175 x176 x177 x178 x179 x180 x181 x182 x183 x184 x185 x186 x187 x188 x189 x190 x191 x192 x193 x194 x195 x196 x197 x198 x199 x200 x201 x202 x203 : Value) (wa : World) {i j n cap ln c : Nat} {ar al p q : Addr} {r0 r1 r2 s0 s1 s2 : Int} {b2 : Bool}
    (hi : i < ln) (hj : j < n) (hp : al.add (i * 5) = p) (hq5 : ar.add (j * 5) = q) (hr0 : wa.cell? q = some (.int .i64 r0)) (hr1 : wa.cell? (q.add 1) = some (.int .i64 r1)) (hr2 : wa.cell? (q.add 2) = some (.int .i64 r2)) (hs0 : wa.cell? p = some (.int .i64 s0)) (hs1 : wa.cell? (p.add 1) = some (.int .i64 s1)) (hs2 : wa.cell? (p.add 2) = some (.int .i64 s2)) (hb0 : decide (r0 = s0) = false)
    (hq : Q .normal ⟨#[(.slice (some al) ln c), x1, x2, x3, x4, x5, x6, (.slice (some ar) n cap), x8, x9, x10, x11, x12, (.int .i64 ((i : Int))), x14, (.int .i64 ((j : Int))), x16, x17, x18, x19, x20, x21, x22, x23, x24, x25, x26, x27, x28, x29, x30, x31, x32, x33, x34, x35, x36, x37, x38, x39, x40, x41, x42, x43, x44, x45, x46, x47, x48, x49, x50, x51, x52, x53, x54, x55, x56, x57, x58, x59, x60, x61, x62, x63, x64, x65, x66, x67, x68, x69, x70, x71, x72, x73, x74, x75, x76, x77, x78, x79, x80, x81, x82, x83, x84, x85, x86, x87, x88, x89, x90, x91, x92, x93, x94, x95, x96, x97, x98, x99, x100, x101, x102, x103, x104, x105, x106, x107, x108, x109, x110, x111, x112, x113, x114, x115, x116, x117, x118, x119, x120, x121, x122, x123, x124, x125, x126, x127, x128, x129, (.slice (some ar) n cap), (.int .i64 ((j : Int))), (.pointer (some q)), (.pointer (some q)), (.int .i64 (r0)), (.slice (some al) ln c), (.int .i64 ((i : Int))), (.pointer (some p)), (.pointer (some p)), (.int .i64 (s0)), (.bool false), (.bool false), (undef), (undef), (undef), (undef), (undef), (undef), (undef), (undef), (undef), (undef), (undef), (undef), (undef), (.bool false), (.bool false), (undef), (undef), (undef), (undef), (undef), (undef), (undef), (undef), (undef), (undef), (undef), (.bool false), x169, x170, x171, x172, x173, x174, x175, x176, x177, x178, x179, x180, x181, x182, x183, x184, x185, x186, x187, x188, x189, x190, x191, x192, x193, x194, x195, x196, x197, x198, x199, x200, x201, x202, x203], []⟩ wa) :
    wpAnyH Tryd.prog .any (R Tryd.f8 25) Q (fun w => w = wa) 39 (L 39 0) ⟨#[(.slice (some al) ln c), x1, x2, x3, x4, x5, x6, (.slice (some ar) n cap), x8, x9, x10, x11, x12, (.int .i64 ((i : Int))), x14, (.int .i64 ((j : Int))), x16, x17, x18, x19, x20, x21, x22, x23, x24, x25, x26, x27, x28, x29, x30, x31, x32, x33, x34, x35, x36, x37, x38, x39, x40, x41, x42, x43, x44, x45, x46, x47, x48, x49, x50, x51, x52, x53, x54, x55, x56, x57, x58, x59, x60, x61, x62, x63, x64, x65, x66, x67, x68, x69, x70, x71, x72, x73, x74, x75, x76, x77, x78, x79, x80, x81, x82, x83, x84, x85, x86, x87, x88, x89, x90, x91, x92, x93, x94, x95, x96, x97, x98, x99, x100, x101, x102, x103, x104, x105, x106, x107, x108, x109, x110, x111, x112, x113, x114, x115, x116, x117, x118, x119, x120, x121, x122, x123, x124, x125, x126, x127, x128, x129, x130, x131, x132, x133, x134, x135, x136, x137, x138, x139, x140, x141, x142, x143, x144, x145, x146, x147, x148, x149, x150, x151, x152, x153, x154, x155, x156, x157, x158, x159, x160, x161, x162, x163, x164, x165, x166, x167, x168, x169, x170, x171, x172, x173, x174, x175, x176, x177, x178, x179, x180, x181, x182, x183, x184, x185, x186, x187, x188, x189, x190, x191, x192, x193, x194, x195, x196, x197, x198, x199, x200, x201, x202, x203], []⟩ wa := by
  have b0 : (fun w => w = wa) wa := rfl
  refine RegH.take 0 130 (.slice (some ar) n cap) hQ b0 (fun _ _ => by kernel_rfl) ?_
  refine RegH.take 1 131 (.int .i64 ((j : Int))) hQ b0 (fun _ _ => by kernel_rfl) ?_
  refine RegH.take 2 132 (.pointer (some q)) hQ b0 (fun _ _ => idxV (n := n) (c := cap) (ad := ar) (k := j) (s := 130) (i := 131) (sz := 5) (by kernel_rfl) (by kernel_rfl) (by kernel_rfl) Tryd.underlying62 (by kernel_rfl) hj hq5) ?_
  refine RegH.take 3 133 (.pointer (some q)) hQ b0 (fun _ _ => by kernel_rfl) ?_
  refine RegH.take 4 134 (.int .i64 (r0)) hQ b0 (fun w h => by subst h; exact load1 (s := 133) (by kernel_rfl) (by kernel_rfl) hr0 Tryd.underlying3 rfl) ?_
  refine RegH.take 5 135 (.slice (some al) ln c) hQ b0 (fun _ _ => by kernel_rfl) ?_
  refine RegH.take 6 136 (.int .i64 ((i : Int))) hQ b0 (fun _ _ => by kernel_rfl) ?_
  refine RegH.take 7 137 (.pointer (some p)) hQ b0 (fun _ _ => idxV (n := ln) (c := c) (ad := al) (k := i) (s := 135) (i := 136) (sz := 5) (by kernel_rfl) (by kernel_rfl) (by kernel_rfl) Tryd.underlying57 (by kernel_rfl) hi hp) ?_
  refine RegH.take 8 138 (.pointer (some p)) hQ b0 (fun _ _ => by kernel_rfl) ?_
  refine RegH.take 9 139 (.int .i64 (s0)) hQ b0 (fun w h => by subst h; exact load1 (s := 138) (by kernel_rfl) (by kernel_rfl) hs0 Tryd.underlying3 rfl) ?_
  refine RegH.take 10 140 (.bool false) hQ b0 (fun _ _ => by rw [eqlV (s := 134) (t := 139) (x := r0) (y := s0) (by kernel_rfl) (by kernel_rfl) (by kernel_rfl), hb0]) ?_
  refine RegH.take 11 141 (.bool false) hQ b0 (fun _ _ => by kernel_rfl) ?_
  refine RegH.pass 12 142 hQ b0 ?_
  refine RegH.pass 13 143 hQ b0 ?_
  refine RegH.pass 14 144 hQ b0 ?_
  refine RegH.pass 15 145 hQ b0 ?_
  refine RegH.pass 16 146 hQ b0 ?_
  refine RegH.pass 17 147 hQ b0 ?_
  refine RegH.pass 18 148 hQ b0 ?_
  refine RegH.pass 19 149 hQ b0 ?_
  refine RegH.pass 20 150 hQ b0 ?_
  refine RegH.pass 21 151 hQ b0 ?_
  refine RegH.pass 22 152 hQ b0 ?_
  refine RegH.pass 23 153 hQ b0 ?_
  refine RegH.pass 24 154 hQ b0 ?_
  refine RegH.take 25 155 (.bool false) hQ b0 (fun _ _ => by kernel_rfl) ?_
  refine RegH.take 26 156 (.bool false) hQ b0 (fun _ _ => by kernel_rfl) ?_
  refine RegH.pass 27 157 hQ b0 ?_
  refine RegH.pass 28 158 hQ b0 ?_
  refine RegH.pass 29 159 hQ b0 ?_
  refine RegH.pass 30 160 hQ b0 ?_
  refine RegH.pass 31 161 hQ b0 ?_
  refine RegH.pass 32 162 hQ b0 ?_
  refine RegH.pass 33 163 hQ b0 ?_
  refine RegH.pass 34 164 hQ b0 ?_
  refine RegH.pass 35 165 hQ b0 ?_
  refine RegH.pass 36 166 hQ b0 ?_
  refine RegH.pass 37 167 hQ b0 ?_
  refine RegH.take 38 168 (.bool false) hQ b0 (fun _ _ => by kernel_rfl) ?_
  exact RegH.same (l' := L 39 39) (wpAnyH_done (by kernel_rfl) hq 0)
theorem sreg25b {Q : Exit → Act → World → Prop} (hQ : ∀ c (a : Act) d v w, Q (.panic c) (a.put d v) w → Q (.panic c) a w) (x1 x2 x3 x4 x5 x6 x8 x9 x10 x11 x12 x14 x16 x17 x18 x19 x20 x21 x22 x23 x24 x25 x26 x27 x28 x29 x30 x31 x32 x33 x34 x35 x36 x37 x38 x39 x40 x41 x42 x43 x44 x45 x46 x47 x48 x49 x50 x51 x52 x53 x54 x55 x56 x57 x58 x59 x60 x61 x62 x63 x64 x65 x66 x67 x68 x69 x70 x71 x72 x73 x74 x75 x76 x77 x78 x79 x80 x81 x82 x83 x84 x85 x86 x87 x88 x89 x90 x91 x92 x93 x94 x95 x96 x97 x98 x99 x100 x101 x102 x103 x104 x105 x106 x107 x108 x109 x110 x111 x112 x113 x114 x115 x116 x117 x118 x119 x120 x121 x122 x123 x124 x125 x126 x127 x128 x129 x130 x131 x132 x133 x134 x135 x136 x137 x138 x139 x140 x141 x142 x143 x144 x145 x146 x147 x148 x149 x150 x151 x152 x153 x154 x155 x156 x157 x158 x159 x160 x161 x162 x163 x164 x165 x166 x167 x168 x169 x170 x171 x172 x173 x174 x175 x176 x177 x178 x179 x180 x181 x182 x183 x184 x185 x186 x187 x188 x189 x190 x191 x192 x193 x194 x195 x196 x197 x198 x199 x200 x201 x202 x203 : Value) (wa : World) {i j n cap ln c : Nat} {ar al p q : Addr} {r0 r1 r2 s0 s1 s2 : Int} {b2 : Bool}
    (hi : i < ln) (hj : j < n) (hp : al.add (i * 5) = p) (hq5 : ar.add (j * 5) = q) (hr0 : wa.cell? q = some (.int .i64 r0)) (hr1 : wa.cell? (q.add 1) = some (.int .i64 r1)) (hr2 : wa.cell? (q.add 2) = some (.int .i64 r2)) (hs0 : wa.cell? p = some (.int .i64 s0)) (hs1 : wa.cell? (p.add 1) = some (.int .i64 s1)) (hs2 : wa.cell? (p.add 2) = some (.int .i64 s2)) (hb0 : decide (r0 = s0) = true) (hb1 : decide (r1 = mx 0 (mn s1 1073741824)) = false)
    (hq : Q .normal ⟨#[(.slice (some al) ln c), x1, x2, x3, x4, x5, x6, (.slice (some ar) n cap), x8, x9, x10, x11, x12, (.int .i64 ((i : Int))), x14, (.int .i64 ((j : Int))), x16, x17, x18, x19, x20, x21, x22, x23, x24, x25, x26, x27, x28, x29, x30, x31, x32, x33, x34, x35, x36, x37, x38, x39, x40, x41, x42, x43, x44, x45, x46, x47, x48, x49, x50, x51, x52, x53, x54, x55, x56, x57, x58, x59, x60, x61, x62, x63, x64, x65, x66, x67, x68, x69, x70, x71, x72, x73, x74, x75, x76, x77, x78, x79, x80, x81, x82, x83, x84, x85, x86, x87, x88, x89, x90, x91, x92, x93, x94, x95, x96, x97, x98, x99, x100, x101, x102, x103, x104, x105, x106, x107, x108, x109, x110, x111, x112, x113, x114, x115, x116, x117, x118, x119, x120, x121, x122, x123, x124, x125, x126, x127, x128, x129, (.slice (some ar) n cap), (.int .i64 ((j : Int))), (.pointer (some q)), (.pointer (some q)), (.int .i64 (r0)), (.slice (some al) ln c), (.int .i64 ((i : Int))), (.pointer (some p)), (.pointer (some p)), (.int .i64 (s0)), (.bool true), (.bool true), (.slice (some ar) n cap), (.int .i64 ((j : Int))), (.pointer (some q)), (.pointer (some (q.add 1))), (.int .i64 (r1)), (.slice (some al) ln c), (.int .i64 ((i : Int))), (.pointer (some p)), (.pointer (some (p.add 1))), (.int .i64 (s1)), (.int .i64 (mn s1 1073741824)), (.int .i64 (mx 0 (mn s1 1073741824))), (.bool false), (.bool false), (.bool false), (undef), (undef), (undef), (undef), (undef), (undef), (undef), (undef), (undef), (undef), (undef), (.bool false), x169, x170, x171, x172, x173, x174, x175, x176, x177, x178, x179, x180, x181, x182, x183, x184, x185, x186, x187, x188, x189, x190, x191, x192, x193, x194, x195, x196, x197, x198, x199, x200, x201, x202, x203], []⟩ wa) :
    wpAnyH Tryd.prog .any (R Tryd.f8 25) Q (fun w => w = wa) 39 (L 39 0) ⟨#[(.slice (some al) ln c), x1, x2, x3, x4, x5, x6, (.slice (some ar) n cap), x8, x9, x10, x11, x12, (.int .i64 ((i : Int))), x14, (.int .i64 ((j : Int))), x16, x17, x18, x19, x20, x21, x22, x23, x24, x25, x26, x27, x28, x29, x30, x31, x32, x33, x34, x35, x36, x37, x38, x39, x40, x41, x42, x43, x44, x45, x46, x47, x48, x49, x50, x51, x52, x53, x54, x55, x56, x57, x58, x59, x60, x61, x62, x63, x64, x65, x66, x67, x68, x69, x70, x71, x72, x73, x74, x75, x76, x77, x78, x79, x80, x81, x82, x83, x84, x85, x86, x87, x88, x89, x90, x91, x92, x93, x94, x95, x96, x97, x98, x99, x100, x101, x102, x103, x104, x105, x106, x107, x108, x109, x110, x111, x112, x113, x114, x115, x116, x117, x118, x119, x120, x121, x122, x123, x124, x125, x126, x127, x128, x129, x130, x131, x132, x133, x134, x135, x136, x137, x138, x139, x140, x141, x142, x143, x144, x145, x146, x147, x148, x149, x150, x151, x152, x153, x154, x155, x156, x157, x158, x159, x160, x161, x162, x163, x164, x165, x166, x167, x168, x169, x170, x171, x172, x173, x174, x175, x176, x177, x178, x179, x180, x181, x182, x183, x184, x185, x186, x187, x188, x189, x190, x191, x192, x193, x194, x195, x196, x197, x198, x199, x200, x201, x202, x203], []⟩ wa := by
  have b0 : (fun w => w = wa) wa := rfl
  refine RegH.take 0 130 (.slice (some ar) n cap) hQ b0 (fun _ _ => by kernel_rfl) ?_
  refine RegH.take 1 131 (.int .i64 ((j : Int))) hQ b0 (fun _ _ => by kernel_rfl) ?_
  refine RegH.take 2 132 (.pointer (some q)) hQ b0 (fun _ _ => idxV (n := n) (c := cap) (ad := ar) (k := j) (s := 130) (i := 131) (sz := 5) (by kernel_rfl) (by kernel_rfl) (by kernel_rfl) Tryd.underlying62 (by kernel_rfl) hj hq5) ?_
  refine RegH.take 3 133 (.pointer (some q)) hQ b0 (fun _ _ => by kernel_rfl) ?_
  refine RegH.take 4 134 (.int .i64 (r0)) hQ b0 (fun w h => by subst h; exact load1 (s := 133) (by kernel_rfl) (by kernel_rfl) hr0 Tryd.underlying3 rfl) ?_
  refine RegH.take 5 135 (.slice (some al) ln c) hQ b0 (fun _ _ => by kernel_rfl) ?_
  refine RegH.take 6 136 (.int .i64 ((i : Int))) hQ b0 (fun _ _ => by kernel_rfl) ?_
  refine RegH.take 7 137 (.pointer (some p)) hQ b0 (fun _ _ => idxV (n := ln) (c := c) (ad := al) (k := i) (s := 135) (i := 136) (sz := 5) (by kernel_rfl) (by kernel_rfl) (by kernel_rfl) Tryd.underlying57 (by kernel_rfl) hi hp) ?_
  refine RegH.take 8 138 (.pointer (some p)) hQ b0 (fun _ _ => by kernel_rfl) ?_
  refine RegH.take 9 139 (.int .i64 (s0)) hQ b0 (fun w h => by subst h; exact load1 (s := 138) (by kernel_rfl) (by kernel_rfl) hs0 Tryd.underlying3 rfl) ?_
  refine RegH.take 10 140 (.bool true) hQ b0 (fun _ _ => by rw [eqlV (s := 134) (t := 139) (x := r0) (y := s0) (by kernel_rfl) (by kernel_rfl) (by kernel_rfl), hb0]) ?_
  refine RegH.take 11 141 (.bool true) hQ b0 (fun _ _ => by kernel_rfl) ?_
  refine RegH.take 12 142 (.slice (some ar) n cap) hQ b0 (fun _ _ => by kernel_rfl) ?_
  refine RegH.take 13 143 (.int .i64 ((j : Int))) hQ b0 (fun _ _ => by kernel_rfl) ?_
  refine RegH.take 14 144 (.pointer (some q)) hQ b0 (fun _ _ => idxV (n := n) (c := cap) (ad := ar) (k := j) (s := 142) (i := 143) (sz := 5) (by kernel_rfl) (by kernel_rfl) (by kernel_rfl) Tryd.underlying62 (by kernel_rfl) hj hq5) ?_
  refine RegH.take 15 145 (.pointer (some (q.add 1))) hQ b0 (fun _ _ => by kernel_rfl) ?_
  refine RegH.take 16 146 (.int .i64 (r1)) hQ b0 (fun w h => by subst h; exact load1 (s := 145) (by kernel_rfl) (by kernel_rfl) hr1 Tryd.underlying3 rfl) ?_
  refine RegH.take 17 147 (.slice (some al) ln c) hQ b0 (fun _ _ => by kernel_rfl) ?_
  refine RegH.take 18 148 (.int .i64 ((i : Int))) hQ b0 (fun _ _ => by kernel_rfl) ?_
  refine RegH.take 19 149 (.pointer (some p)) hQ b0 (fun _ _ => idxV (n := ln) (c := c) (ad := al) (k := i) (s := 147) (i := 148) (sz := 5) (by kernel_rfl) (by kernel_rfl) (by kernel_rfl) Tryd.underlying57 (by kernel_rfl) hi hp) ?_
  refine RegH.take 20 150 (.pointer (some (p.add 1))) hQ b0 (fun _ _ => by kernel_rfl) ?_
  refine RegH.take 21 151 (.int .i64 (s1)) hQ b0 (fun w h => by subst h; exact load1 (s := 150) (by kernel_rfl) (by kernel_rfl) hs1 Tryd.underlying3 rfl) ?_
  refine RegH.take 22 152 (.int .i64 (mn s1 1073741824)) hQ b0 (fun _ _ => minV (s := 151) (by kernel_rfl) (by kernel_rfl)) ?_
  refine RegH.take 23 153 (.int .i64 (mx 0 (mn s1 1073741824))) hQ b0 (fun _ _ => maxV (s := 152) (by kernel_rfl) (by kernel_rfl)) ?_
  refine RegH.take 24 154 (.bool false) hQ b0 (fun _ _ => by rw [eqlV (s := 146) (t := 153) (x := r1) (y := mx 0 (mn s1 1073741824)) (by kernel_rfl) (by kernel_rfl) (by kernel_rfl), hb1]) ?_
  refine RegH.take 25 155 (.bool false) hQ b0 (fun _ _ => by kernel_rfl) ?_
  refine RegH.take 26 156 (.bool false) hQ b0 (fun _ _ => by kernel_rfl) ?_
  refine RegH.pass 27 157 hQ b0 ?_
  refine RegH.pass 28 158 hQ b0 ?_
  refine RegH.pass 29 159 hQ b0 ?_
  refine RegH.pass 30 160 hQ b0 ?_
  refine RegH.pass 31 161 hQ b0 ?_
  refine RegH.pass 32 162 hQ b0 ?_
  refine RegH.pass 33 163 hQ b0 ?_
  refine RegH.pass 34 164 hQ b0 ?_
  refine RegH.pass 35 165 hQ b0 ?_
  refine RegH.pass 36 166 hQ b0 ?_
  refine RegH.pass 37 167 hQ b0 ?_
  refine RegH.take 38 168 (.bool false) hQ b0 (fun _ _ => by kernel_rfl) ?_
  exact RegH.same (l' := L 39 39) (wpAnyH_done (by kernel_rfl) hq 0)
theorem sreg25c {Q : Exit → Act → World → Prop} (hQ : ∀ c (a : Act) d v w, Q (.panic c) (a.put d v) w → Q (.panic c) a w) (x1 x2 x3 x4 x5 x6 x8 x9 x10 x11 x12 x14 x16 x17 x18 x19 x20 x21 x22 x23 x24 x25 x26 x27 x28 x29 x30 x31 x32 x33 x34 x35 x36 x37 x38 x39 x40 x41 x42 x43 x44 x45 x46 x47 x48 x49 x50 x51 x52 x53 x54 x55 x56 x57 x58 x59 x60 x61 x62 x63 x64 x65 x66 x67 x68 x69 x70 x71 x72 x73 x74 x75 x76 x77 x78 x79 x80 x81 x82 x83 x84 x85 x86 x87 x88 x89 x90 x91 x92 x93 x94 x95 x96 x97 x98 x99 x100 x101 x102 x103 x104 x105 x106 x107 x108 x109 x110 x111 x112 x113 x114 x115 x116 x117 x118 x119 x120 x121 x122 x123 x124 x125 x126 x127 x128 x129 x130 x131 x132 x133 x134 x135 x136 x137 x138 x139 x140 x141 x142 x143 x144 x145 x146 x147 x148 x149 x150 x151 x152 x153 x154 x155 x156 x157 x158 x159 x160 x161 x162 x163 x164 x165 x166 x167 x168 x169 x170 x171 x172 x173 x174 x175 x176 x177 x178 x179 x180 x181 x182 x183 x184 x185 x186 x187 x188 x189 x190 x191 x192 x193 x194 x195 x196 x197 x198 x199 x200 x201 x202 x203 : Value) (wa : World) {i j n cap ln c : Nat} {ar al p q : Addr} {r0 r1 r2 s0 s1 s2 : Int} {b2 : Bool}
    (hi : i < ln) (hj : j < n) (hp : al.add (i * 5) = p) (hq5 : ar.add (j * 5) = q) (hr0 : wa.cell? q = some (.int .i64 r0)) (hr1 : wa.cell? (q.add 1) = some (.int .i64 r1)) (hr2 : wa.cell? (q.add 2) = some (.int .i64 r2)) (hs0 : wa.cell? p = some (.int .i64 s0)) (hs1 : wa.cell? (p.add 1) = some (.int .i64 s1)) (hs2 : wa.cell? (p.add 2) = some (.int .i64 s2)) (hb0 : decide (r0 = s0) = true) (hb1 : decide (r1 = mx 0 (mn s1 1073741824)) = true) (hb2 : decide (r2 = s2) = b2)
    (hq : Q .normal ⟨#[(.slice (some al) ln c), x1, x2, x3, x4, x5, x6, (.slice (some ar) n cap), x8, x9, x10, x11, x12, (.int .i64 ((i : Int))), x14, (.int .i64 ((j : Int))), x16, x17, x18, x19, x20, x21, x22, x23, x24, x25, x26, x27, x28, x29, x30, x31, x32, x33, x34, x35, x36, x37, x38, x39, x40, x41, x42, x43, x44, x45, x46, x47, x48, x49, x50, x51, x52, x53, x54, x55, x56, x57, x58, x59, x60, x61, x62, x63, x64, x65, x66, x67, x68, x69, x70, x71, x72, x73, x74, x75, x76, x77, x78, x79, x80, x81, x82, x83, x84, x85, x86, x87, x88, x89, x90, x91, x92, x93, x94, x95, x96, x97, x98, x99, x100, x101, x102, x103, x104, x105, x106, x107, x108, x109, x110, x111, x112, x113, x114, x115, x116, x117, x118, x119, x120, x121, x122, x123, x124, x125, x126, x127, x128, x129, (.slice (some ar) n cap), (.int .i64 ((j : Int))), (.pointer (some q)), (.pointer (some q)), (.int .i64 (r0)), (.slice (some al) ln c), (.int .i64 ((i : Int))), (.pointer (some p)), (.pointer (some p)), (.int .i64 (s0)), (.bool true), (.bool true), (.slice (some ar) n cap), (.int .i64 ((j : Int))), (.pointer (some q)), (.pointer (some (q.add 1))), (.int .i64 (r1)), (.slice (some al) ln c), (.int .i64 ((i : Int))), (.pointer (some p)), (.pointer (some (p.add 1))), (.int .i64 (s1)), (.int .i64 (mn s1 1073741824)), (.int .i64 (mx 0 (mn s1 1073741824))), (.bool true), (.bool true), (.bool true), (.slice (some ar) n cap), (.int .i64 ((j : Int))), (.pointer (some q)), (.pointer (some (q.add 2))), (.int .i64 (r2)), (.slice (some al) ln c), (.int .i64 ((i : Int))), (.pointer (some p)), (.pointer (some (p.add 2))), (.int .i64 (s2)), (.bool b2), (.bool b2), x169, x170, x171, x172, x173, x174, x175, x176, x177, x178, x179, x180, x181, x182, x183, x184, x185, x186, x187, x188, x189, x190, x191, x192, x193, x194, x195, x196, x197, x198, x199, x200, x201, x202, x203], []⟩ wa) :
    wpAnyH Tryd.prog .any (R Tryd.f8 25) Q (fun w => w = wa) 39 (L 39 0) ⟨#[(.slice (some al) ln c), x1, x2, x3, x4, x5, x6, (.slice (some ar) n cap), x8, x9, x10, x11, x12, (.int .i64 ((i : Int))), x14, (.int .i64 ((j : Int))), x16, x17, x18, x19, x20, x21, x22, x23, x24, x25, x26, x27, x28, x29, x30, x31, x32, x33, x34, x35, x36, x37, x38, x39, x40, x41, x42, x43, x44, x45, x46, x47, x48, x49, x50, x51, x52, x53, x54, x55, x56, x57, x58, x59, x60, x61, x62, x63, x64, x65, x66, x67, x68, x69, x70, x71, x72, x73, x74, x75, x76, x77, x78, x79, x80, x81, x82, x83, x84, x85, x86, x87, x88, x89, x90, x91, x92, x93, x94, x95, x96, x97, x98, x99, x100, x101, x102, x103, x104, x105, x106, x107, x108, x109, x110, x111, x112, x113, x114, x115, x116, x117, x118, x119, x120, x121, x122, x123, x124, x125, x126, x127, x128, x129, x130, x131, x132, x133, x134, x135, x136, x137, x138, x139, x140, x141, x142, x143, x144, x145, x146, x147, x148, x149, x150, x151, x152, x153, x154, x155, x156, x157, x158, x159, x160, x161, x162, x163, x164, x165, x166, x167, x168, x169, x170, x171, x172, x173, x174, x175, x176, x177, x178, x179, x180, x181, x182, x183, x184, x185, x186, x187, x188, x189, x190, x191, x192, x193, x194, x195, x196, x197, x198, x199, x200, x201, x202, x203], []⟩ wa := by
  have b0 : (fun w => w = wa) wa := rfl
  refine RegH.take 0 130 (.slice (some ar) n cap) hQ b0 (fun _ _ => by kernel_rfl) ?_
  refine RegH.take 1 131 (.int .i64 ((j : Int))) hQ b0 (fun _ _ => by kernel_rfl) ?_
  refine RegH.take 2 132 (.pointer (some q)) hQ b0 (fun _ _ => idxV (n := n) (c := cap) (ad := ar) (k := j) (s := 130) (i := 131) (sz := 5) (by kernel_rfl) (by kernel_rfl) (by kernel_rfl) Tryd.underlying62 (by kernel_rfl) hj hq5) ?_
  refine RegH.take 3 133 (.pointer (some q)) hQ b0 (fun _ _ => by kernel_rfl) ?_
  refine RegH.take 4 134 (.int .i64 (r0)) hQ b0 (fun w h => by subst h; exact load1 (s := 133) (by kernel_rfl) (by kernel_rfl) hr0 Tryd.underlying3 rfl) ?_
  refine RegH.take 5 135 (.slice (some al) ln c) hQ b0 (fun _ _ => by kernel_rfl) ?_
  refine RegH.take 6 136 (.int .i64 ((i : Int))) hQ b0 (fun _ _ => by kernel_rfl) ?_
  refine RegH.take 7 137 (.pointer (some p)) hQ b0 (fun _ _ => idxV (n := ln) (c := c) (ad := al) (k := i) (s := 135) (i := 136) (sz := 5) (by kernel_rfl) (by kernel_rfl) (by kernel_rfl) Tryd.underlying57 (by kernel_rfl) hi hp) ?_
  refine RegH.take 8 138 (.pointer (some p)) hQ b0 (fun _ _ => by kernel_rfl) ?_
  refine RegH.take 9 139 (.int .i64 (s0)) hQ b0 (fun w h => by subst h; exact load1 (s := 138) (by kernel_rfl) (by kernel_rfl) hs0 Tryd.underlying3 rfl) ?_
  refine RegH.take 10 140 (.bool true) hQ b0 (fun _ _ => by rw [eqlV (s := 134) (t := 139) (x := r0) (y := s0) (by kernel_rfl) (by kernel_rfl) (by kernel_rfl), hb0]) ?_
  refine RegH.take 11 141 (.bool true) hQ b0 (fun _ _ => by kernel_rfl) ?_
  refine RegH.take 12 142 (.slice (some ar) n cap) hQ b0 (fun _ _ => by kernel_rfl) ?_
  refine RegH.take 13 143 (.int .i64 ((j : Int))) hQ b0 (fun _ _ => by kernel_rfl) ?_
  refine RegH.take 14 144 (.pointer (some q)) hQ b0 (fun _ _ => idxV (n := n) (c := cap) (ad := ar) (k := j) (s := 142) (i := 143) (sz := 5) (by kernel_rfl) (by kernel_rfl) (by kernel_rfl) Tryd.underlying62 (by kernel_rfl) hj hq5) ?_
  refine RegH.take 15 145 (.pointer (some (q.add 1))) hQ b0 (fun _ _ => by kernel_rfl) ?_
  refine RegH.take 16 146 (.int .i64 (r1)) hQ b0 (fun w h => by subst h; exact load1 (s := 145) (by kernel_rfl) (by kernel_rfl) hr1 Tryd.underlying3 rfl) ?_
  refine RegH.take 17 147 (.slice (some al) ln c) hQ b0 (fun _ _ => by kernel_rfl) ?_
  refine RegH.take 18 148 (.int .i64 ((i : Int))) hQ b0 (fun _ _ => by kernel_rfl) ?_
  refine RegH.take 19 149 (.pointer (some p)) hQ b0 (fun _ _ => idxV (n := ln) (c := c) (ad := al) (k := i) (s := 147) (i := 148) (sz := 5) (by kernel_rfl) (by kernel_rfl) (by kernel_rfl) Tryd.underlying57 (by kernel_rfl) hi hp) ?_
  refine RegH.take 20 150 (.pointer (some (p.add 1))) hQ b0 (fun _ _ => by kernel_rfl) ?_
  refine RegH.take 21 151 (.int .i64 (s1)) hQ b0 (fun w h => by subst h; exact load1 (s := 150) (by kernel_rfl) (by kernel_rfl) hs1 Tryd.underlying3 rfl) ?_
  refine RegH.take 22 152 (.int .i64 (mn s1 1073741824)) hQ b0 (fun _ _ => minV (s := 151) (by kernel_rfl) (by kernel_rfl)) ?_
  refine RegH.take 23 153 (.int .i64 (mx 0 (mn s1 1073741824))) hQ b0 (fun _ _ => maxV (s := 152) (by kernel_rfl) (by kernel_rfl)) ?_
  refine RegH.take 24 154 (.bool true) hQ b0 (fun _ _ => by rw [eqlV (s := 146) (t := 153) (x := r1) (y := mx 0 (mn s1 1073741824)) (by kernel_rfl) (by kernel_rfl) (by kernel_rfl), hb1]) ?_
  refine RegH.take 25 155 (.bool true) hQ b0 (fun _ _ => by kernel_rfl) ?_
  refine RegH.take 26 156 (.bool true) hQ b0 (fun _ _ => by kernel_rfl) ?_
  refine RegH.take 27 157 (.slice (some ar) n cap) hQ b0 (fun _ _ => by kernel_rfl) ?_
  refine RegH.take 28 158 (.int .i64 ((j : Int))) hQ b0 (fun _ _ => by kernel_rfl) ?_
  refine RegH.take 29 159 (.pointer (some q)) hQ b0 (fun _ _ => idxV (n := n) (c := cap) (ad := ar) (k := j) (s := 157) (i := 158) (sz := 5) (by kernel_rfl) (by kernel_rfl) (by kernel_rfl) Tryd.underlying62 (by kernel_rfl) hj hq5) ?_
  refine RegH.take 30 160 (.pointer (some (q.add 2))) hQ b0 (fun _ _ => by kernel_rfl) ?_
  refine RegH.take 31 161 (.int .i64 (r2)) hQ b0 (fun w h => by subst h; exact load1 (s := 160) (by kernel_rfl) (by kernel_rfl) hr2 Tryd.underlying3 rfl) ?_
  refine RegH.take 32 162 (.slice (some al) ln c) hQ b0 (fun _ _ => by kernel_rfl) ?_
  refine RegH.take 33 163 (.int .i64 ((i : Int))) hQ b0 (fun _ _ => by kernel_rfl) ?_
  refine RegH.take 34 164 (.pointer (some p)) hQ b0 (fun _ _ => idxV (n := ln) (c := c) (ad := al) (k := i) (s := 162) (i := 163) (sz := 5) (by kernel_rfl) (by kernel_rfl) (by kernel_rfl) Tryd.underlying57 (by kernel_rfl) hi hp) ?_
  refine RegH.take 35 165 (.pointer (some (p.add 2))) hQ b0 (fun _ _ => by kernel_rfl) ?_
  refine RegH.take 36 166 (.int .i64 (s2)) hQ b0 (fun w h => by subst h; exact load1 (s := 165) (by kernel_rfl) (by kernel_rfl) hs2 Tryd.underlying3 rfl) ?_
  refine RegH.take 37 167 (.bool b2) hQ b0 (fun _ _ => by rw [eqlV (s := 161) (t := 166) (x := r2) (y := s2) (by kernel_rfl) (by kernel_rfl) (by kernel_rfl), hb2]) ?_
  refine RegH.take 38 168 (.bool b2) hQ b0 (fun _ _ => by kernel_rfl) ?_
  exact RegH.same (l' := L 39 39) (wpAnyH_done (by kernel_rfl) hq 0)
theorem sreg13 {Q : Exit → Act → World → Prop} (hQ : ∀ c (a : Act) d v w, Q (.panic c) (a.put d v) w → Q (.panic c) a w) (x0 x1 x2 x3 x4 x5 x6 x8 x9 x11 x12 x13 x14 x15 x16 x17 x18 x19 x20 x21 x22 x23 x24 x25 x26 x27 x28 x29 x30 x31 x32 x33 x34 x35 x36 x37 x38 x39 x40 x41 x42 x43 x44 x45 x46 x47 x48 x49 x50 x51 x52 x53 x54 x55 x56 x57 x58 x59 x60 x61 x62 x63 x64 x65 x66 x67 x68 x69 x70 x71 x72 x73 x74 x75 x76 x77 x78 x79 x80 x81 x82 x83 x84 x85 x86 x87 x88 x89 x90 x91 x92 x93 x94 x95 x96 x97 x98 x99 x100 x101 x102 x103 x104 x105 x106 x107 x108 x109 x110 x111 x112 x113 x114 x115 x116 x117 x118 x119 x120 x121 x122 x123 x124 x125 x126 x127 x128 x129 x130 x131 x132 x133 x134 x135 x136 x137 x138 x139 x140 x141 x142 x143 x144 x145 x146 x147 x148 x149 x150 x151 x152 x153 x154 x155 x156 x157 x158 x159 x160 x161 x162 x163 x164 x165 x166 x167 x168 x169 x170 x171 x172 x173 x174 x175 x176 x177 x178 x179 x180 x181 x182 x183 x184 x185 x186 x187 x188 x189 x190 x191 x192 x193 x194 x195 x196 x197 x198 x199 x200 x201 x202 x203 : Value) (wa : World) {i k n cap : Nat} {ar p q : Addr} (a b : S84)
    (hki : k = i + 1) (hi : k < n) (hn : n ≤ 100000) (hp : ar.add (i * 5) = p) (hq2 : ar.add (k * 5) = q) (ha : ∀ j v, ([.int .i64 a.f0, .int .i64 a.f1, .int .i64 a.f2, .int .i64 a.f3, .int .i64 a.f4] : List Value)[j]? = some v → wa.cell? (p.add j) = some v) (hb : ∀ j v, ([.int .i64 b.f0, .int .i64 b.f1, .int .i64 b.f2, .int .i64 b.f3, .int .i64 b.f4] : List Value)[j]? = some v → wa.cell? (q.add j) = some v)
    (hq : ∀ (ba bb : Nat) w, Below wa.heap.size wa w → w.heap[ba]? = some (.cells #[.int .i64 a.f0, .int .i64 a.f1, .int .i64 a.f2, .int .i64 a.f3, .int .i64 a.f4] 84 (0, 0)) → w.heap[bb]? = some (.cells #[.int .i64 b.f0, .int .i64 b.f1, .int .i64 b.f2, .int .i64 b.f3, .int .i64 b.f4] 84 (0, 0)) → Q .normal ⟨#[x0, x1, x2, x3, x4, x5, x6, (.slice (some ar) n cap), x8, x9, (.int .i64 ((k : Int))), (.pointer (some ⟨ba, 0, none⟩)), (.pointer (some ⟨bb, 0, none⟩)), x13, x14, x15, x16, x17, x18, x19, x20, x21, x22, x23, x24, x25, x26, x27, x28, x29, x30, x31, x32, x33, x34, x35, x36, x37, x38, x39, x40, x41, x42, x43, x44, x45, x46, x47, x48, x49, x50, x51, x52, x53, x54, x55, x56, x57, x58, (.slice (some ar) n cap), (.int .i64 ((k : Int))), (.int .i64 ((i : Int))), (.pointer (some p)), (.agg #[.int .i64 a.f0, .int .i64 a.f1, .int .i64 a.f2, .int .i64 a.f3, .int .i64 a.f4]), (.slice (some ar) n cap), (.int .i64 ((k : Int))), (.pointer (some q)), (.agg #[.int .i64 b.f0, .int .i64 b.f1, .int .i64 b.f2, .int .i64 b.f3, .int .i64 b.f4]), x68, x69, x70, x71, x72, x73, x74, x75, x76, x77, x78, x79, x80, x81, x82, x83, x84, x85, x86, x87, x88, x89, x90, x91, x92, x93, x94, x95, x96, x97, x98, x99, x100, x101, x102, x103, x104, x105, x106, x107, x108, x109, x110, x111, x112, x113, x114, x115, x116, x117, x118, x119, x120, x121, x122, x123, x124, x125, x126, x127, x128, x129, x130, x131, x132, x133, x134, x135, x136, x137, x138, x139, x140, x141, x142, x143, x144, x145, x146, x147, x148, x149, x150, x151, x152, x153, x154, x155, x156, x157, x158, x159, x160, x161, x162, x163, x164, x165, x166, x167, x168, x169, x170, x171, x172, x173, x174, x175, x176, x177, x178, x179, x180, x181, x182, x183, x184, x185, x186, x187, x188, x189, x190, x191, x192, x193, x194, x195, x196, x197, x198, x199, x200, x201, x202, x203], []⟩ w) :
    wpAnyH Tryd.prog .any (R Tryd.f8 13) Q (Below wa.heap.size wa) 13 (L 13 0) ⟨#[x0, x1, x2, x3, x4, x5, x6, (.slice (some ar) n cap), x8, x9, (.int .i64 ((k : Int))), x11, x12, x13, x14, x15, x16, x17, x18, x19, x20, x21, x22, x23, x24, x25, x26, x27, x28, x29, x30, x31, x32, x33, x34, x35, x36, x37, x38, x39, x40, x41, x42, x43, x44, x45, x46, x47, x48, x49, x50, x51, x52, x53, x54, x55, x56, x57, x58, x59, x60, x61, x62, x63, x64, x65, x66, x67, x68, x69, x70, x71, x72, x73, x74, x75, x76, x77, x78, x79, x80, x81, x82, x83, x84, x85, x86, x87, x88, x89, x90, x91, x92, x93, x94, x95, x96, x97, x98, x99, x100, x101, x102, x103, x104, x105, x106, x107, x108, x109, x110, x111, x112, x113, x114, x115, x116, x117, x118, x119, x120, x121, x122, x123, x124, x125, x126, x127, x128, x129, x130, x131, x132, x133, x134, x135, x136, x137, x138, x139, x140, x141, x142, x143, x144, x145, x146, x147, x148, x149, x150, x151, x152, x153, x154, x155, x156, x157, x158, x159, x160, x161, x162, x163, x164, x165, x166, x167, x168, x169, x170, x171, x172, x173, x174, x175, x176, x177, x178, x179, x180, x181, x182, x183, x184, x185, x186, x187, x188, x189, x190, x191, x192, x193, x194, x195, x196, x197, x198, x199, x200, x201, x202, x203], []⟩ wa := by
  have b0 := Below.refl wa.heap.size wa
  have hw : wrap64 ((k : Int) - 1) = (i : Int) := by unfold wrap64; omega
  refine RegH.take 0 59 (.slice (some ar) n cap) hQ b0 (fun _ _ => by kernel_rfl) ?_
  refine RegH.take 1 60 (.int .i64 ((k : Int))) hQ b0 (fun _ _ => by kernel_rfl) ?_
  refine RegH.take 2 61 (.int .i64 ((i : Int))) hQ b0 (fun _ _ => by rw [sub1V (s := 60) (x := (k : Int)) (by kernel_rfl) (by kernel_rfl), hw]) ?_
  refine RegH.take 3 62 (.pointer (some p)) hQ b0 (fun _ _ => idxV (n := n) (c := cap) (ad := ar) (k := i) (s := 59) (i := 61) (sz := 5) (by kernel_rfl) (by kernel_rfl) (by kernel_rfl) Tryd.underlying62 (by kernel_rfl) (by omega) hp) ?_
  refine RegH.take 4 63 (.agg #[.int .i64 a.f0, .int .i64 a.f1, .int .i64 a.f2, .int .i64 a.f3, .int .i64 a.f4]) hQ b0 (fun w h => loadR (s := 62) (by kernel_rfl) (by kernel_rfl) [.int .i64 a.f0, .int .i64 a.f1, .int .i64 a.f2, .int .i64 a.f3, .int .i64 a.f4] _ (fun j v hv => (h.cell (World.block_lt_of_cell? _ _ (ha j v hv))).trans (ha j v hv)) Tryd.underlying84 rfl (by kernel_rfl)) ?_
  refine RegH.take 5 64 (.slice (some ar) n cap) hQ b0 (fun _ _ => by kernel_rfl) ?_
  refine RegH.take 6 65 (.int .i64 ((k : Int))) hQ b0 (fun _ _ => by kernel_rfl) ?_
  refine RegH.take 7 66 (.pointer (some q)) hQ b0 (fun _ _ => idxV (n := n) (c := cap) (ad := ar) (k := k) (s := 64) (i := 65) (sz := 5) (by kernel_rfl) (by kernel_rfl) (by kernel_rfl) Tryd.underlying62 (by kernel_rfl) hi hq2) ?_
  refine RegH.take 8 67 (.agg #[.int .i64 b.f0, .int .i64 b.f1, .int .i64 b.f2, .int .i64 b.f3, .int .i64 b.f4]) hQ b0 (fun w h => loadR (s := 66) (by kernel_rfl) (by kernel_rfl) [.int .i64 b.f0, .int .i64 b.f1, .int .i64 b.f2, .int .i64 b.f3, .int .i64 b.f4] _ (fun j v hv => (h.cell (World.block_lt_of_cell? _ _ (hb j v hv))).trans (hb j v hv)) Tryd.underlying84 rfl (by kernel_rfl)) ?_
  have z1 : (wa.alloc (.cells #[.int .i64 0, .int .i64 0, .int .i64 0, .int .i64 0, .int .i64 0] 84)).heap.size = wa.heap.size + 1 := by simp [go_sem]
  have B1 := b0.alloc (Nat.le_refl _) (.cells #[.int .i64 0, .int .i64 0, .int .i64 0, .int .i64 0, .int .i64 0] 84)
  have h1 : (wa.alloc (.cells #[.int .i64 0, .int .i64 0, .int .i64 0, .int .i64 0, .int .i64 0] 84)).heap[wa.heap.size]? = some (.cells #[.int .i64 0, .int .i64 0, .int .i64 0, .int .i64 0, .int .i64 0] 84 (0, 0)) := blk_new _ _
  obtain ⟨w1, hw1⟩ : ∃ w1, w1 = wa.alloc (.cells #[.int .i64 0, .int .i64 0, .int .i64 0, .int .i64 0, .int .i64 0] 84) := ⟨_, rfl⟩
  rw [← hw1] at z1 B1 h1
  have B2 := B1.alloc (by omega) (.cells #[.int .i64 0, .int .i64 0, .int .i64 0, .int .i64 0, .int .i64 0] 84)
  have h2 : (w1.alloc (.cells #[.int .i64 0, .int .i64 0, .int .i64 0, .int .i64 0, .int .i64 0] 84)).heap[w1.heap.size]? = some (.cells #[.int .i64 0, .int .i64 0, .int .i64 0, .int .i64 0, .int .i64 0] 84 (0, 0)) := blk_new _ _
  have h3 : (w1.alloc (.cells #[.int .i64 0, .int .i64 0, .int .i64 0, .int .i64 0, .int .i64 0] 84)).heap[wa.heap.size]? = some (.cells #[.int .i64 0, .int .i64 0, .int .i64 0, .int .i64 0, .int .i64 0] 84 (0, 0)) := blk_alloc h1 _
  refine RegH.any2 9 10 ?_ ?_
  · refine value 11 (.pointer (some ⟨wa.heap.size, 0, none⟩)) (w' := wa.alloc (.cells #[.int .i64 0, .int .i64 0, .int .i64 0, .int .i64 0, .int .i64 0] 84)) ⟨(by rw [← hw1]; exact B1), ?_⟩
    rw [← hw1]
    refine RegH.any1 10 (value 12 (.pointer (some ⟨w1.heap.size, 0, none⟩)) (w' := w1.alloc (.cells #[.int .i64 0, .int .i64 0, .int .i64 0, .int .i64 0, .int .i64 0] 84)) ⟨B2, ?_⟩)
    have g1 : ((w1.alloc (.cells #[.int .i64 0, .int .i64 0, .int .i64 0, .int .i64 0, .int .i64 0] 84)).setRow wa.heap.size #[.int .i64 a.f0, .int .i64 a.f1, .int .i64 a.f2, .int .i64 a.f3, .int .i64 a.f4]).heap[wa.heap.size]? = some (.cells #[.int .i64 a.f0, .int .i64 a.f1, .int .i64 a.f2, .int .i64 a.f3, .int .i64 a.f4] 84 (0, 0)) := setRow_heap _ _ _ _ _ _ h3
    have g2 : ((w1.alloc (.cells #[.int .i64 0, .int .i64 0, .int .i64 0, .int .i64 0, .int .i64 0] 84)).setRow wa.heap.size #[.int .i64 a.f0, .int .i64 a.f1, .int .i64 a.f2, .int .i64 a.f3, .int .i64 a.f4]).heap[w1.heap.size]? = some (.cells #[.int .i64 0, .int .i64 0, .int .i64 0, .int .i64 0, .int .i64 0] 84 (0, 0)) := (setRow_other _ _ _ _ (by omega)).trans h2
    have B3 := below_setRow B2 (show wa.heap.size ≤ wa.heap.size by omega) #[.int .i64 a.f0, .int .i64 a.f1, .int .i64 a.f2, .int .i64 a.f3, .int .i64 a.f4]
    have B4 := below_setRow B3 (show wa.heap.size ≤ w1.heap.size by omega) #[.int .i64 b.f0, .int .i64 b.f1, .int .i64 b.f2, .int .i64 b.f3, .int .i64 b.f4]
    refine RegH.any1 11 (RegH.skip (w' := (w1.alloc (.cells #[.int .i64 0, .int .i64 0, .int .i64 0, .int .i64 0, .int .i64 0] 84)).setRow wa.heap.size #[.int .i64 a.f0, .int .i64 a.f1, .int .i64 a.f2, .int .i64 a.f3, .int .i64 a.f4]) ⟨B3, ?_⟩ (hv := storeR (t := 84) (s := 11) (u := 63) (g := wa.heap.size) (by kernel_rfl) (by kernel_rfl) (by kernel_rfl) h3 (by kernel_rfl) rfl (by simp [Value.oneCell'])))
    refine RegH.any1 12 (RegH.skip (w' := ((w1.alloc (.cells #[.int .i64 0, .int .i64 0, .int .i64 0, .int .i64 0, .int .i64 0] 84)).setRow wa.heap.size #[.int .i64 a.f0, .int .i64 a.f1, .int .i64 a.f2, .int .i64 a.f3, .int .i64 a.f4]).setRow w1.heap.size #[.int .i64 b.f0, .int .i64 b.f1, .int .i64 b.f2, .int .i64 b.f3, .int .i64 b.f4]) ⟨B4, ?_⟩ (hv := storeR (t := 84) (s := 12) (u := 67) (g := w1.heap.size) (by kernel_rfl) (by kernel_rfl) (by kernel_rfl) g2 (by kernel_rfl) rfl (by simp [Value.oneCell'])))
    exact RegH.same (l' := L 13 13) (wpAnyH_done (by kernel_rfl) (hq wa.heap.size w1.heap.size _ B4 ((setRow_other _ _ _ _ (by omega)).trans g1) (setRow_heap _ _ _ _ _ _ g2)) 0)
  · refine value 12 (.pointer (some ⟨wa.heap.size, 0, none⟩)) (w' := wa.alloc (.cells #[.int .i64 0, .int .i64 0, .int .i64 0, .int .i64 0, .int .i64 0] 84)) ⟨(by rw [← hw1]; exact B1), ?_⟩
    rw [← hw1]
    refine RegH.any1 9 (value 11 (.pointer (some ⟨w1.heap.size, 0, none⟩)) (w' := w1.alloc (.cells #[.int .i64 0, .int .i64 0, .int .i64 0, .int .i64 0, .int .i64 0] 84)) ⟨B2, ?_⟩)
    have g1 : ((w1.alloc (.cells #[.int .i64 0, .int .i64 0, .int .i64 0, .int .i64 0, .int .i64 0] 84)).setRow w1.heap.size #[.int .i64 a.f0, .int .i64 a.f1, .int .i64 a.f2, .int .i64 a.f3, .int .i64 a.f4]).heap[w1.heap.size]? = some (.cells #[.int .i64 a.f0, .int .i64 a.f1, .int .i64 a.f2, .int .i64 a.f3, .int .i64 a.f4] 84 (0, 0)) := setRow_heap _ _ _ _ _ _ h2
    have g2 : ((w1.alloc (.cells #[.int .i64 0, .int .i64 0, .int .i64 0, .int .i64 0, .int .i64 0] 84)).setRow w1.heap.size #[.int .i64 a.f0, .int .i64 a.f1, .int .i64 a.f2, .int .i64 a.f3, .int .i64 a.f4]).heap[wa.heap.size]? = some (.cells #[.int .i64 0, .int .i64 0, .int .i64 0, .int .i64 0, .int .i64 0] 84 (0, 0)) := (setRow_other _ _ _ _ (by omega)).trans h3
    have B3 := below_setRow B2 (show wa.heap.size ≤ w1.heap.size by omega) #[.int .i64 a.f0, .int .i64 a.f1, .int .i64 a.f2, .int .i64 a.f3, .int .i64 a.f4]
    have B4 := below_setRow B3 (show wa.heap.size ≤ wa.heap.size by omega) #[.int .i64 b.f0, .int .i64 b.f1, .int .i64 b.f2, .int .i64 b.f3, .int .i64 b.f4]
    refine RegH.any1 11 (RegH.skip (w' := (w1.alloc (.cells #[.int .i64 0, .int .i64 0, .int .i64 0, .int .i64 0, .int .i64 0] 84)).setRow w1.heap.size #[.int .i64 a.f0, .int .i64 a.f1, .int .i64 a.f2, .int .i64 a.f3, .int .i64 a.f4]) ⟨B3, ?_⟩ (hv := storeR (t := 84) (s := 11) (u := 63) (g := w1.heap.size) (by kernel_rfl) (by kernel_rfl) (by kernel_rfl) h2 (by kernel_rfl) rfl (by simp [Value.oneCell'])))
    refine RegH.any1 12 (RegH.skip (w' := ((w1.alloc (.cells #[.int .i64 0, .int .i64 0, .int .i64 0, .int .i64 0, .int .i64 0] 84)).setRow w1.heap.size #[.int .i64 a.f0, .int .i64 a.f1, .int .i64 a.f2, .int .i64 a.f3, .int .i64 a.f4]).setRow wa.heap.size #[.int .i64 b.f0, .int .i64 b.f1, .int .i64 b.f2, .int .i64 b.f3, .int .i64 b.f4]) ⟨B4, ?_⟩ (hv := storeR (t := 84) (s := 12) (u := 67) (g := wa.heap.size) (by kernel_rfl) (by kernel_rfl) (by kernel_rfl) g2 (by kernel_rfl) rfl (by simp [Value.oneCell'])))
    exact RegH.same (l' := L 13 13) (wpAnyH_done (by kernel_rfl) (hq w1.heap.size wa.heap.size _ B4 ((setRow_other _ _ _ _ (by omega)).trans g1) (setRow_heap _ _ _ _ _ _ g2)) 0)
end Go.Proofs.YtnhflmihjegaiaaDoor
