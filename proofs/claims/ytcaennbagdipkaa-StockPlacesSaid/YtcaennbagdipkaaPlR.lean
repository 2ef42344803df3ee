/- StockPlaces: the drawn region of its third loop: in whatever order its operations come up, it ends with 'false'. -/
import Derived.Test.YtcaennbagdipkaaReg
import Derived.Test.YtcaennbagdipkaaLawsP
namespace Go.Proofs.Ytcaennbagdipkaa.stockPlaces
open Go Go.Proofs Go.RowKit Go.Proofs.YtcaennbagdipkaaW.PrintWords Go.Proofs.Ytcaennbagdipkaa Reg P
set_option linter.unusedVariables false
set_option maxRecDepth 100000
set_option maxHeartbeats 2000000

theorem noSel28 : Region.noSelect (R Try.f5 28) = true := by kernel_rfl
theorem ixA {a : Act} {o : Oper} {s t b4 n d j : Nat} (hop : o.op = .indexAddr 31 (.tmp s) (.tmp t)) (hs : a.eval (.tmp s) = .slice (some ⟨b4, 0, none⟩) n d) (ht : a.eval (.tmp t) = .int .i64 ((j : Nat) : Int)) (hj : j < n) (w : World) :
    (execOp a.eval o).run Try.prog w = .ok (.value (.pointer (some ⟨b4, j, none⟩))) w := by
  have hu31 := Try.underlying31
  have h1 : (0 : Int) ≤ (j : Int) := by omega
  have h2 : (j : Int) < (n : Int) := by omega
  obtain ⟨ds, op, ty, pos, aft, gd⟩ := o
  cases hop
  simp only [execOp, hs, ht]
  go_simp
theorem ld {a : Act} {o : Oper} {w : World} {s b4 j : Nat} {x : ByteArray} (hop : o.op = .load 9 (.tmp s)) (hs : a.eval (.tmp s) = .pointer (some ⟨b4, j, none⟩)) (q : w.cell? ⟨b4, j, none⟩ = some (.string x)) :
    (execOp a.eval o).run Try.prog w = .ok (.value (.string x)) w := by
  obtain ⟨ds, op, ty, pos, aft, gd⟩ := o
  cases hop
  simp only [execOp, hs]
  go_simp
theorem eql_yes {a : Act} {o : Oper} {s : Nat} {x : ByteArray} (hop : o.op = .binOp .eql 9 (.tmp s) (.const (.string { data := #[] })) 9) (hs : a.eval (.tmp s) = .string x) (hx : x.toList = []) (w : World) :
    (execOp a.eval o).run Try.prog w = .ok (.value (.bool true)) w := by
  have hie : x.toList.isEmpty = true := by rw [hx]; rfl
  have hie1 : (x.toList == ([] : List UInt8)) = true := beq_iff_eq.mpr hx
  obtain ⟨ds, op, ty, pos, aft, gd⟩ := o
  cases hop
  simp only [execOp, hs]
  go_simp
theorem neq_yes {a : Act} {o : Oper} {s : Nat} {x : ByteArray} (hop : o.op = .binOp .neq 9 (.tmp s) (.const (.string { data := #[] })) 9) (hs : a.eval (.tmp s) = .string x) (hx : x.toList = []) (w : World) :
    (execOp a.eval o).run Try.prog w = .ok (.value (.bool false)) w := by
  have hie : x.toList.isEmpty = true := by rw [hx]; rfl
  have hie1 : (x.toList == ([] : List UInt8)) = true := beq_iff_eq.mpr hx
  have hie2 : (x.toList != ([] : List UInt8)) = false := bne_eq_false_iff_eq.mpr hx
  obtain ⟨ds, op, ty, pos, aft, gd⟩ := o
  cases hop
  simp only [execOp, hs]
  go_simp
theorem eql_no {a : Act} {o : Oper} {s : Nat} {x : ByteArray} (hop : o.op = .binOp .eql 9 (.tmp s) (.const (.string { data := #[] })) 9) (hs : a.eval (.tmp s) = .string x) (hx : x.toList ≠ []) (w : World) :
    (execOp a.eval o).run Try.prog w = .ok (.value (.bool false)) w := by
  have hie : x.toList.isEmpty = false := by cases h : x.toList with | nil => exact absurd h hx | cons _ _ => rfl
  have hie1 : (x.toList == ([] : List UInt8)) = false := beq_eq_false_iff_ne.mpr hx
  obtain ⟨ds, op, ty, pos, aft, gd⟩ := o
  cases hop
  simp only [execOp, hs]
  go_simp
theorem neq_no {a : Act} {o : Oper} {s : Nat} {x : ByteArray} (hop : o.op = .binOp .neq 9 (.tmp s) (.const (.string { data := #[] })) 9) (hs : a.eval (.tmp s) = .string x) (hx : x.toList ≠ []) (w : World) :
    (execOp a.eval o).run Try.prog w = .ok (.value (.bool true)) w := by
  have hie : x.toList.isEmpty = false := by cases h : x.toList with | nil => exact absurd h hx | cons _ _ => rfl
  have hie1 : (x.toList == ([] : List UInt8)) = false := beq_eq_false_iff_ne.mpr hx
  have hie2 : (x.toList != ([] : List UInt8)) = true := bne_iff_ne.mpr hx
  obtain ⟨ds, op, ty, pos, aft, gd⟩ := o
  cases hop
  simp only [execOp, hs]
  go_simp

theorem reg28_yes {Q : Exit → Act → World → Prop} (hQ : ∀ c (a : Act) d v w, Q (.panic c) (a.put d v) w → Q (.panic c) a w) (x0 x1 x2 x5 x6 x7 x8 x9 x10 x11 x13 x17 x18 x19 x20 x21 x22 x23 x24 x25 x26 x27 x28 x29 x30 x31 x32 x33 x34 x35 x36 x37 x38 x39 x40 x41 x42 x43 x44 x45 x46 x47 x48 x49 x50 x51 x52 x53 x54 x55 x56 x57 x58 x59 x60 x61 x62 x63 x64 x65 x66 x67 x68 x69 x70 x71 x72 x73 x74 x75 x76 x77 x78 x79 x80 x81 x82 x83 x84 x85 x86 x87 x88 x89 x90 x91 x92 x93 x94 x95 x96 x97 x98 x99 x100 x101 x102 x103 x104 x105 x106 x107 x108 x109 x110 x111 x112 x113 x114 x115 x116 x117 x118 x119 x120 x121 x122 x123 x124 x125 x126 x127 x128 x129 x130 x131 x132 x133 x134 x135 x136 x137 x138 x139 x140 x141 x142 x143 x144 x145 x146 x147 x148 x149 x150 x151 x152 x153 x154 x155 x156 x157 x158 x159 x160 x161 x162 x163 x164 x165 x166 x167 x168 x169 x170 x171 x172 x173 x174 x175 x176 x177 x178 x179 x180 x181 x182 x183 x184 x185 x186 x187 x188 x189 x190 x191 x192 x193 x194 x195 x196 x197 x198 x199 x200 x201 x202 x203 : Value) (ds : List Deferred) (w0 : World)
    {b4 d4 m j dF : Nat} {AF : Option Addr} {I F : List ByteArray} {x o : ByteArray} (hj : j < I.length) (q : w0.cell? ⟨b4, j, none⟩ = some (.string x)) (RI : Kd.C Kd.string w0 (some ⟨b4, 0, none⟩) I.length I) (hdI : I.length ≤ d4) (hI : I.length ≤ 100000) (hci : cnt I x = 1)
    (RF : Kd.C Kd.string w0 AF F.length F) (hdF : F.length ≤ dF) (hF : F.length ≤ 100000) (ho : o.toList = []) (hcf : cnt F x = 1)
    (hq : ∀ (w : World), Below w0.heap.size w0 w → Q .normal ⟨#[x0, x1, x2, (ptr m), (.slice (some ⟨b4, 0, none⟩) I.length d4), x5, x6, x7, x8, x9, x10, x11, (.slice AF F.length dF), x13, (.int .i64 ((j : Nat) : Int)), (.string o), (.bool true), x17, x18, x19, x20, x21, x22, x23, x24, x25, x26, x27, x28, x29, x30, x31, x32, x33, x34, x35, x36, x37, x38, x39, x40, x41, x42, x43, x44, x45, x46, x47, x48, x49, x50, x51, x52, x53, x54, x55, x56, x57, x58, x59, x60, x61, x62, x63, x64, x65, x66, x67, x68, x69, x70, x71, x72, x73, x74, x75, x76, x77, x78, x79, x80, x81, x82, x83, x84, x85, x86, x87, x88, x89, x90, x91, x92, x93, x94, x95, x96, x97, x98, x99, x100, x101, x102, x103, x104, x105, x106, x107, x108, x109, x110, x111, x112, x113, x114, x115, x116, x117, (.bool true), (.bool false), (.bool false), (.slice (some ⟨b4, 0, none⟩) I.length d4), (.slice (some ⟨b4, 0, none⟩) I.length d4), (.int .i64 ((j : Nat) : Int)), (.pointer (some ⟨b4, j, none⟩)), (.string x), (.int .i64 1), (.bool false), (.bool false), (.bool false), (.string o), (.bool true), (.bool true), (.slice AF F.length dF), (.slice (some ⟨b4, 0, none⟩) I.length d4), (.int .i64 ((j : Nat) : Int)), (.pointer (some ⟨b4, j, none⟩)), (.string x), (.int .i64 1), (.bool false), (.bool false), (.bool false), (.bool false), (.string o), (.bool false), (.bool false), undef, undef, undef, undef, undef, undef, undef, undef, undef, undef, undef, undef, undef, undef, undef, undef, undef, undef, (.bool false), (.bool false), x166, x167, x168, x169, x170, x171, x172, x173, x174, x175, x176, x177, x178, x179, x180, x181, x182, x183, x184, x185, x186, x187, x188, x189, x190, x191, x192, x193, x194, x195, x196, x197, x198, x199, x200, x201, x202, x203], ds⟩ w) :
    wpAny Try.prog .any (R Try.f5 28) Q 48 (L 48 0) ⟨#[x0, x1, x2, (ptr m), (.slice (some ⟨b4, 0, none⟩) I.length d4), x5, x6, x7, x8, x9, x10, x11, (.slice AF F.length dF), x13, (.int .i64 ((j : Nat) : Int)), (.string o), (.bool true), x17, x18, x19, x20, x21, x22, x23, x24, x25, x26, x27, x28, x29, x30, x31, x32, x33, x34, x35, x36, x37, x38, x39, x40, x41, x42, x43, x44, x45, x46, x47, x48, x49, x50, x51, x52, x53, x54, x55, x56, x57, x58, x59, x60, x61, x62, x63, x64, x65, x66, x67, x68, x69, x70, x71, x72, x73, x74, x75, x76, x77, x78, x79, x80, x81, x82, x83, x84, x85, x86, x87, x88, x89, x90, x91, x92, x93, x94, x95, x96, x97, x98, x99, x100, x101, x102, x103, x104, x105, x106, x107, x108, x109, x110, x111, x112, x113, x114, x115, x116, x117, x118, x119, x120, x121, x122, x123, x124, x125, x126, x127, x128, x129, x130, x131, x132, x133, x134, x135, x136, x137, x138, x139, x140, x141, x142, x143, x144, x145, x146, x147, x148, x149, x150, x151, x152, x153, x154, x155, x156, x157, x158, x159, x160, x161, x162, x163, x164, x165, x166, x167, x168, x169, x170, x171, x172, x173, x174, x175, x176, x177, x178, x179, x180, x181, x182, x183, x184, x185, x186, x187, x188, x189, x190, x191, x192, x193, x194, x195, x196, x197, x198, x199, x200, x201, x202, x203], ds⟩ w0 := by
  have HB := Lib.hid (Below.refl w0.heap.size w0)
  refine take 0 (o := (O Try.f5 28 0)) 118 (.bool true) (by kernel_rfl) (by kernel_rfl) noSel28 (by kernel_rfl) (by kernel_rfl) hQ (by kernel_rfl) (fun _ => by kernel_rfl) ?_
  refine take 1 (o := (O Try.f5 28 1)) 119 (.bool false) (by kernel_rfl) (by kernel_rfl) noSel28 (by kernel_rfl) (by kernel_rfl) hQ (by kernel_rfl) (fun _ => by kernel_rfl) ?_
  refine take 2 (o := (O Try.f5 28 2)) 120 (.bool false) (by kernel_rfl) (by kernel_rfl) noSel28 (by kernel_rfl) (by kernel_rfl) hQ (by kernel_rfl) (fun _ => by kernel_rfl) ?_
  refine take 3 (o := (O Try.f5 28 3)) 121 (.slice (some ⟨b4, 0, none⟩) I.length d4) (by kernel_rfl) (by kernel_rfl) noSel28 (by kernel_rfl) (by kernel_rfl) hQ (by kernel_rfl) (fun _ => by kernel_rfl) ?_
  refine take 4 (o := (O Try.f5 28 4)) 122 (.slice (some ⟨b4, 0, none⟩) I.length d4) (by kernel_rfl) (by kernel_rfl) noSel28 (by kernel_rfl) (by kernel_rfl) hQ (by kernel_rfl) (fun _ => by kernel_rfl) ?_
  refine take 5 (o := (O Try.f5 28 5)) 123 (.int .i64 ((j : Nat) : Int)) (by kernel_rfl) (by kernel_rfl) noSel28 (by kernel_rfl) (by kernel_rfl) hQ (by kernel_rfl) (fun _ => by kernel_rfl) ?_
  refine take 6 (o := (O Try.f5 28 6)) 124 (.pointer (some ⟨b4, j, none⟩)) (by kernel_rfl) (by kernel_rfl) noSel28 (by kernel_rfl) (by kernel_rfl) hQ (by kernel_rfl) (fun w => ixA (s := 122) (t := 123) (d := d4) (by kernel_rfl) (by kernel_rfl) (by kernel_rfl) hj w) ?_
  refine any1 7 (by kernel_rfl) ?_
  refine value (o := (O Try.f5 28 7)) 125 (.string x) (w' := w0) (by kernel_rfl) (by kernel_rfl) (by kernel_rfl) (ld (s := 124) (by kernel_rfl) (by kernel_rfl) q) ?_
  refine any1 8 (by kernel_rfl) ?_
  refine enter (o := (O Try.f5 28 8)) 126 24 #[(.slice (some ⟨b4, 0, none⟩) I.length d4), (.string x)] (by kernel_rfl) (by kernel_rfl) (by kernel_rfl) (by kernel_rfl) ?_
  refine (index_any (xs := I) (x := x) hci RI hdI hI).mono ?_; rintro e w2 ⟨rfl, B⟩; refine ⟨_, rfl, ?_⟩
  have HB3 := Lib.hid (HB.out.trans (B.mono HB.out.size))
  have RI3 := Kd.C_below RI B
  have RF3 := Kd.C_below RF B
  have q3 := (B.cell (World.block_lt_of_cell? _ _ q)).trans q
  clear B
  refine take 9 (o := (O Try.f5 28 9)) 127 (.bool false) (by kernel_rfl) (by kernel_rfl) noSel28 (by kernel_rfl) (by kernel_rfl) hQ (by kernel_rfl) (fun _ => by kernel_rfl) ?_
  refine take 10 (o := (O Try.f5 28 10)) 128 (.bool false) (by kernel_rfl) (by kernel_rfl) noSel28 (by kernel_rfl) (by kernel_rfl) hQ (by kernel_rfl) (fun _ => by kernel_rfl) ?_
  refine take 11 (o := (O Try.f5 28 11)) 129 (.bool false) (by kernel_rfl) (by kernel_rfl) noSel28 (by kernel_rfl) (by kernel_rfl) hQ (by kernel_rfl) (fun _ => by kernel_rfl) ?_
  refine take 12 (o := (O Try.f5 28 12)) 130 (.string o) (by kernel_rfl) (by kernel_rfl) noSel28 (by kernel_rfl) (by kernel_rfl) hQ (by kernel_rfl) (fun _ => by kernel_rfl) ?_
  refine take 13 (o := (O Try.f5 28 13)) 131 (.bool true) (by kernel_rfl) (by kernel_rfl) noSel28 (by kernel_rfl) (by kernel_rfl) hQ (by kernel_rfl) (fun w => eql_yes (s := 130) (by kernel_rfl) (by kernel_rfl) ho w) ?_
  refine take 14 (o := (O Try.f5 28 14)) 132 (.bool true) (by kernel_rfl) (by kernel_rfl) noSel28 (by kernel_rfl) (by kernel_rfl) hQ (by kernel_rfl) (fun _ => by kernel_rfl) ?_
  refine take 15 (o := (O Try.f5 28 15)) 133 (.slice AF F.length dF) (by kernel_rfl) (by kernel_rfl) noSel28 (by kernel_rfl) (by kernel_rfl) hQ (by kernel_rfl) (fun _ => by kernel_rfl) ?_
  refine take 16 (o := (O Try.f5 28 16)) 134 (.slice (some ⟨b4, 0, none⟩) I.length d4) (by kernel_rfl) (by kernel_rfl) noSel28 (by kernel_rfl) (by kernel_rfl) hQ (by kernel_rfl) (fun _ => by kernel_rfl) ?_
  refine take 17 (o := (O Try.f5 28 17)) 135 (.int .i64 ((j : Nat) : Int)) (by kernel_rfl) (by kernel_rfl) noSel28 (by kernel_rfl) (by kernel_rfl) hQ (by kernel_rfl) (fun _ => by kernel_rfl) ?_
  refine take 18 (o := (O Try.f5 28 18)) 136 (.pointer (some ⟨b4, j, none⟩)) (by kernel_rfl) (by kernel_rfl) noSel28 (by kernel_rfl) (by kernel_rfl) hQ (by kernel_rfl) (fun w => ixA (s := 134) (t := 135) (d := d4) (by kernel_rfl) (by kernel_rfl) (by kernel_rfl) hj w) ?_
  refine any1 19 (by kernel_rfl) ?_
  refine value (o := (O Try.f5 28 19)) 137 (.string x) (w' := w2) (by kernel_rfl) (by kernel_rfl) (by kernel_rfl) (ld (s := 136) (by kernel_rfl) (by kernel_rfl) q3) ?_
  refine any1 20 (by kernel_rfl) ?_
  refine enter (o := (O Try.f5 28 20)) 138 24 #[(.slice AF F.length dF), (.string x)] (by kernel_rfl) (by kernel_rfl) (by kernel_rfl) (by kernel_rfl) ?_
  refine (index_any (xs := F) (x := x) hcf RF3 hdF hF).mono ?_; rintro e w5 ⟨rfl, B⟩; refine ⟨_, rfl, ?_⟩
  have HB6 := Lib.hid (HB3.out.trans (B.mono HB3.out.size))
  have RI6 := Kd.C_below RI3 B
  have RF6 := Kd.C_below RF3 B
  have q6 := (B.cell (World.block_lt_of_cell? _ _ q3)).trans q3
  clear B
  refine take 21 (o := (O Try.f5 28 21)) 139 (.bool false) (by kernel_rfl) (by kernel_rfl) noSel28 (by kernel_rfl) (by kernel_rfl) hQ (by kernel_rfl) (fun _ => by kernel_rfl) ?_
  refine take 22 (o := (O Try.f5 28 22)) 140 (.bool false) (by kernel_rfl) (by kernel_rfl) noSel28 (by kernel_rfl) (by kernel_rfl) hQ (by kernel_rfl) (fun _ => by kernel_rfl) ?_
  refine take 23 (o := (O Try.f5 28 23)) 141 (.bool false) (by kernel_rfl) (by kernel_rfl) noSel28 (by kernel_rfl) (by kernel_rfl) hQ (by kernel_rfl) (fun _ => by kernel_rfl) ?_
  refine take 24 (o := (O Try.f5 28 24)) 142 (.bool false) (by kernel_rfl) (by kernel_rfl) noSel28 (by kernel_rfl) (by kernel_rfl) hQ (by kernel_rfl) (fun _ => by kernel_rfl) ?_
  refine take 25 (o := (O Try.f5 28 25)) 143 (.string o) (by kernel_rfl) (by kernel_rfl) noSel28 (by kernel_rfl) (by kernel_rfl) hQ (by kernel_rfl) (fun _ => by kernel_rfl) ?_
  refine take 26 (o := (O Try.f5 28 26)) 144 (.bool false) (by kernel_rfl) (by kernel_rfl) noSel28 (by kernel_rfl) (by kernel_rfl) hQ (by kernel_rfl) (fun w => neq_yes (s := 143) (by kernel_rfl) (by kernel_rfl) ho w) ?_
  refine take 27 (o := (O Try.f5 28 27)) 145 (.bool false) (by kernel_rfl) (by kernel_rfl) noSel28 (by kernel_rfl) (by kernel_rfl) hQ (by kernel_rfl) (fun _ => by kernel_rfl) ?_
  refine pass 28 (o := (O Try.f5 28 28)) 146 (by kernel_rfl) (by kernel_rfl) noSel28 (by kernel_rfl) (by kernel_rfl) hQ (by kernel_rfl) ?_
  refine pass 29 (o := (O Try.f5 28 29)) 147 (by kernel_rfl) (by kernel_rfl) noSel28 (by kernel_rfl) (by kernel_rfl) hQ (by kernel_rfl) ?_
  refine pass 30 (o := (O Try.f5 28 30)) 148 (by kernel_rfl) (by kernel_rfl) noSel28 (by kernel_rfl) (by kernel_rfl) hQ (by kernel_rfl) ?_
  refine pass 31 (o := (O Try.f5 28 31)) 149 (by kernel_rfl) (by kernel_rfl) noSel28 (by kernel_rfl) (by kernel_rfl) hQ (by kernel_rfl) ?_
  refine pass 32 (o := (O Try.f5 28 32)) 150 (by kernel_rfl) (by kernel_rfl) noSel28 (by kernel_rfl) (by kernel_rfl) hQ (by kernel_rfl) ?_
  refine pass 33 (o := (O Try.f5 28 33)) 151 (by kernel_rfl) (by kernel_rfl) noSel28 (by kernel_rfl) (by kernel_rfl) hQ (by kernel_rfl) ?_
  refine pass 34 (o := (O Try.f5 28 34)) 152 (by kernel_rfl) (by kernel_rfl) noSel28 (by kernel_rfl) (by kernel_rfl) hQ (by kernel_rfl) ?_
  refine pass 35 (o := (O Try.f5 28 35)) 153 (by kernel_rfl) (by kernel_rfl) noSel28 (by kernel_rfl) (by kernel_rfl) hQ (by kernel_rfl) ?_
  refine pass 36 (o := (O Try.f5 28 36)) 154 (by kernel_rfl) (by kernel_rfl) noSel28 (by kernel_rfl) (by kernel_rfl) hQ (by kernel_rfl) ?_
  refine pass 37 (o := (O Try.f5 28 37)) 155 (by kernel_rfl) (by kernel_rfl) noSel28 (by kernel_rfl) (by kernel_rfl) hQ (by kernel_rfl) ?_
  refine pass 38 (o := (O Try.f5 28 38)) 156 (by kernel_rfl) (by kernel_rfl) noSel28 (by kernel_rfl) (by kernel_rfl) hQ (by kernel_rfl) ?_
  refine pass 39 (o := (O Try.f5 28 39)) 157 (by kernel_rfl) (by kernel_rfl) noSel28 (by kernel_rfl) (by kernel_rfl) hQ (by kernel_rfl) ?_
  refine pass 40 (o := (O Try.f5 28 40)) 158 (by kernel_rfl) (by kernel_rfl) noSel28 (by kernel_rfl) (by kernel_rfl) hQ (by kernel_rfl) ?_
  refine pass 41 (o := (O Try.f5 28 41)) 159 (by kernel_rfl) (by kernel_rfl) noSel28 (by kernel_rfl) (by kernel_rfl) hQ (by kernel_rfl) ?_
  refine pass 42 (o := (O Try.f5 28 42)) 160 (by kernel_rfl) (by kernel_rfl) noSel28 (by kernel_rfl) (by kernel_rfl) hQ (by kernel_rfl) ?_
  refine pass 43 (o := (O Try.f5 28 43)) 161 (by kernel_rfl) (by kernel_rfl) noSel28 (by kernel_rfl) (by kernel_rfl) hQ (by kernel_rfl) ?_
  refine pass 44 (o := (O Try.f5 28 44)) 162 (by kernel_rfl) (by kernel_rfl) noSel28 (by kernel_rfl) (by kernel_rfl) hQ (by kernel_rfl) ?_
  refine pass 45 (o := (O Try.f5 28 45)) 163 (by kernel_rfl) (by kernel_rfl) noSel28 (by kernel_rfl) (by kernel_rfl) hQ (by kernel_rfl) ?_
  refine take 46 (o := (O Try.f5 28 46)) 164 (.bool false) (by kernel_rfl) (by kernel_rfl) noSel28 (by kernel_rfl) (by kernel_rfl) hQ (by kernel_rfl) (fun _ => by kernel_rfl) ?_
  refine take 47 (o := (O Try.f5 28 47)) 165 (.bool false) (by kernel_rfl) (by kernel_rfl) noSel28 (by kernel_rfl) (by kernel_rfl) hQ (by kernel_rfl) (fun _ => by kernel_rfl) ?_
  exact same (l' := L 48 48) (a' := ⟨#[x0, x1, x2, (ptr m), (.slice (some ⟨b4, 0, none⟩) I.length d4), x5, x6, x7, x8, x9, x10, x11, (.slice AF F.length dF), x13, (.int .i64 ((j : Nat) : Int)), (.string o), (.bool true), x17, x18, x19, x20, x21, x22, x23, x24, x25, x26, x27, x28, x29, x30, x31, x32, x33, x34, x35, x36, x37, x38, x39, x40, x41, x42, x43, x44, x45, x46, x47, x48, x49, x50, x51, x52, x53, x54, x55, x56, x57, x58, x59, x60, x61, x62, x63, x64, x65, x66, x67, x68, x69, x70, x71, x72, x73, x74, x75, x76, x77, x78, x79, x80, x81, x82, x83, x84, x85, x86, x87, x88, x89, x90, x91, x92, x93, x94, x95, x96, x97, x98, x99, x100, x101, x102, x103, x104, x105, x106, x107, x108, x109, x110, x111, x112, x113, x114, x115, x116, x117, (.bool true), (.bool false), (.bool false), (.slice (some ⟨b4, 0, none⟩) I.length d4), (.slice (some ⟨b4, 0, none⟩) I.length d4), (.int .i64 ((j : Nat) : Int)), (.pointer (some ⟨b4, j, none⟩)), (.string x), (.int .i64 1), (.bool false), (.bool false), (.bool false), (.string o), (.bool true), (.bool true), (.slice AF F.length dF), (.slice (some ⟨b4, 0, none⟩) I.length d4), (.int .i64 ((j : Nat) : Int)), (.pointer (some ⟨b4, j, none⟩)), (.string x), (.int .i64 1), (.bool false), (.bool false), (.bool false), (.bool false), (.string o), (.bool false), (.bool false), undef, undef, undef, undef, undef, undef, undef, undef, undef, undef, undef, undef, undef, undef, undef, undef, undef, undef, (.bool false), (.bool false), x166, x167, x168, x169, x170, x171, x172, x173, x174, x175, x176, x177, x178, x179, x180, x181, x182, x183, x184, x185, x186, x187, x188, x189, x190, x191, x192, x193, x194, x195, x196, x197, x198, x199, x200, x201, x202, x203], ds⟩) (by kernel_rfl) (by kernel_rfl) (wpAny_done (by kernel_rfl) (hq  w5 HB6.out) 0)

theorem reg28_no {Q : Exit → Act → World → Prop} (hQ : ∀ c (a : Act) d v w, Q (.panic c) (a.put d v) w → Q (.panic c) a w) (x0 x1 x2 x5 x6 x7 x8 x9 x10 x11 x13 x17 x18 x19 x20 x21 x22 x23 x24 x25 x26 x27 x28 x29 x30 x31 x32 x33 x34 x35 x36 x37 x38 x39 x40 x41 x42 x43 x44 x45 x46 x47 x48 x49 x50 x51 x52 x53 x54 x55 x56 x57 x58 x59 x60 x61 x62 x63 x64 x65 x66 x67 x68 x69 x70 x71 x72 x73 x74 x75 x76 x77 x78 x79 x80 x81 x82 x83 x84 x85 x86 x87 x88 x89 x90 x91 x92 x93 x94 x95 x96 x97 x98 x99 x100 x101 x102 x103 x104 x105 x106 x107 x108 x109 x110 x111 x112 x113 x114 x115 x116 x117 x118 x119 x120 x121 x122 x123 x124 x125 x126 x127 x128 x129 x130 x131 x132 x133 x134 x135 x136 x137 x138 x139 x140 x141 x142 x143 x144 x145 x146 x147 x148 x149 x150 x151 x152 x153 x154 x155 x156 x157 x158 x159 x160 x161 x162 x163 x164 x165 x166 x167 x168 x169 x170 x171 x172 x173 x174 x175 x176 x177 x178 x179 x180 x181 x182 x183 x184 x185 x186 x187 x188 x189 x190 x191 x192 x193 x194 x195 x196 x197 x198 x199 x200 x201 x202 x203 : Value) (ds : List Deferred) (w0 : World)
    {b4 d4 m j dF : Nat} {AF : Option Addr} {I F : List ByteArray} {x o : ByteArray} (hj : j < I.length) (q : w0.cell? ⟨b4, j, none⟩ = some (.string x)) (RI : Kd.C Kd.string w0 (some ⟨b4, 0, none⟩) I.length I) (hdI : I.length ≤ d4) (hI : I.length ≤ 100000) (hci : cnt I x = 1)
    (RF : Kd.C Kd.string w0 AF F.length F) (hdF : F.length ≤ dF) (hF : F.length ≤ 100000) (ho : o.toList ≠ []) (hcf : cnt F x = 0) (Ls : List Ent) (c : Int) (S : Stk w0 m Ls c) (Ho : List ByteArray) (hH : Ho.length ≤ 100000) (hch : cnt Ho x = 1)
    (hhel : ∀ (w : World), Stk w m Ls c → Calls Try.prog 19 #[ptr m, .string o] w fun e w' => ∃ v, e = .returned v ∧ Kd.R Kd.string 9 w' w.heap.size (fun _ => True) v Ho ∧ Below w.heap.size w w')
    (hq : ∀ (y148 : Value) (w : World), Below w0.heap.size w0 w → Q .normal ⟨#[x0, x1, x2, (ptr m), (.slice (some ⟨b4, 0, none⟩) I.length d4), x5, x6, x7, x8, x9, x10, x11, (.slice AF F.length dF), x13, (.int .i64 ((j : Nat) : Int)), (.string o), (.bool true), x17, x18, x19, x20, x21, x22, x23, x24, x25, x26, x27, x28, x29, x30, x31, x32, x33, x34, x35, x36, x37, x38, x39, x40, x41, x42, x43, x44, x45, x46, x47, x48, x49, x50, x51, x52, x53, x54, x55, x56, x57, x58, x59, x60, x61, x62, x63, x64, x65, x66, x67, x68, x69, x70, x71, x72, x73, x74, x75, x76, x77, x78, x79, x80, x81, x82, x83, x84, x85, x86, x87, x88, x89, x90, x91, x92, x93, x94, x95, x96, x97, x98, x99, x100, x101, x102, x103, x104, x105, x106, x107, x108, x109, x110, x111, x112, x113, x114, x115, x116, x117, (.bool true), (.bool false), (.bool false), (.slice (some ⟨b4, 0, none⟩) I.length d4), (.slice (some ⟨b4, 0, none⟩) I.length d4), (.int .i64 ((j : Nat) : Int)), (.pointer (some ⟨b4, j, none⟩)), (.string x), (.int .i64 1), (.bool false), (.bool false), (.bool false), (.string o), (.bool false), (.bool false), undef, undef, undef, undef, undef, undef, undef, (.bool false), (.bool false), (.bool false), (.string o), (.bool true), (.bool true), (ptr m), (.string o), y148, (.slice (some ⟨b4, 0, none⟩) I.length d4), (.int .i64 ((j : Nat) : Int)), (.pointer (some ⟨b4, j, none⟩)), (.string x), (.int .i64 1), (.bool false), (.bool false), (.slice AF F.length dF), (.slice (some ⟨b4, 0, none⟩) I.length d4), (.int .i64 ((j : Nat) : Int)), (.pointer (some ⟨b4, j, none⟩)), (.string x), (.int .i64 0), (.bool false), (.bool false), (.bool false), (.bool false), x166, x167, x168, x169, x170, x171, x172, x173, x174, x175, x176, x177, x178, x179, x180, x181, x182, x183, x184, x185, x186, x187, x188, x189, x190, x191, x192, x193, x194, x195, x196, x197, x198, x199, x200, x201, x202, x203], ds⟩ w) :
    wpAny Try.prog .any (R Try.f5 28) Q 48 (L 48 0) ⟨#[x0, x1, x2, (ptr m), (.slice (some ⟨b4, 0, none⟩) I.length d4), x5, x6, x7, x8, x9, x10, x11, (.slice AF F.length dF), x13, (.int .i64 ((j : Nat) : Int)), (.string o), (.bool true), x17, x18, x19, x20, x21, x22, x23, x24, x25, x26, x27, x28, x29, x30, x31, x32, x33, x34, x35, x36, x37, x38, x39, x40, x41, x42, x43, x44, x45, x46, x47, x48, x49, x50, x51, x52, x53, x54, x55, x56, x57, x58, x59, x60, x61, x62, x63, x64, x65, x66, x67, x68, x69, x70, x71, x72, x73, x74, x75, x76, x77, x78, x79, x80, x81, x82, x83, x84, x85, x86, x87, x88, x89, x90, x91, x92, x93, x94, x95, x96, x97, x98, x99, x100, x101, x102, x103, x104, x105, x106, x107, x108, x109, x110, x111, x112, x113, x114, x115, x116, x117, x118, x119, x120, x121, x122, x123, x124, x125, x126, x127, x128, x129, x130, x131, x132, x133, x134, x135, x136, x137, x138, x139, x140, x141, x142, x143, x144, x145, x146, x147, x148, x149, x150, x151, x152, x153, x154, x155, x156, x157, x158, x159, x160, x161, x162, x163, x164, x165, x166, x167, x168, x169, x170, x171, x172, x173, x174, x175, x176, x177, x178, x179, x180, x181, x182, x183, x184, x185, x186, x187, x188, x189, x190, x191, x192, x193, x194, x195, x196, x197, x198, x199, x200, x201, x202, x203], ds⟩ w0 := by
  have HB := Lib.hid (Below.refl w0.heap.size w0)
  refine take 0 (o := (O Try.f5 28 0)) 118 (.bool true) (by kernel_rfl) (by kernel_rfl) noSel28 (by kernel_rfl) (by kernel_rfl) hQ (by kernel_rfl) (fun _ => by kernel_rfl) ?_
  refine take 1 (o := (O Try.f5 28 1)) 119 (.bool false) (by kernel_rfl) (by kernel_rfl) noSel28 (by kernel_rfl) (by kernel_rfl) hQ (by kernel_rfl) (fun _ => by kernel_rfl) ?_
  refine take 2 (o := (O Try.f5 28 2)) 120 (.bool false) (by kernel_rfl) (by kernel_rfl) noSel28 (by kernel_rfl) (by kernel_rfl) hQ (by kernel_rfl) (fun _ => by kernel_rfl) ?_
  refine take 3 (o := (O Try.f5 28 3)) 121 (.slice (some ⟨b4, 0, none⟩) I.length d4) (by kernel_rfl) (by kernel_rfl) noSel28 (by kernel_rfl) (by kernel_rfl) hQ (by kernel_rfl) (fun _ => by kernel_rfl) ?_
  refine take 4 (o := (O Try.f5 28 4)) 122 (.slice (some ⟨b4, 0, none⟩) I.length d4) (by kernel_rfl) (by kernel_rfl) noSel28 (by kernel_rfl) (by kernel_rfl) hQ (by kernel_rfl) (fun _ => by kernel_rfl) ?_
  refine take 5 (o := (O Try.f5 28 5)) 123 (.int .i64 ((j : Nat) : Int)) (by kernel_rfl) (by kernel_rfl) noSel28 (by kernel_rfl) (by kernel_rfl) hQ (by kernel_rfl) (fun _ => by kernel_rfl) ?_
  refine take 6 (o := (O Try.f5 28 6)) 124 (.pointer (some ⟨b4, j, none⟩)) (by kernel_rfl) (by kernel_rfl) noSel28 (by kernel_rfl) (by kernel_rfl) hQ (by kernel_rfl) (fun w => ixA (s := 122) (t := 123) (d := d4) (by kernel_rfl) (by kernel_rfl) (by kernel_rfl) hj w) ?_
  refine any1 7 (by kernel_rfl) ?_
  refine value (o := (O Try.f5 28 7)) 125 (.string x) (w' := w0) (by kernel_rfl) (by kernel_rfl) (by kernel_rfl) (ld (s := 124) (by kernel_rfl) (by kernel_rfl) q) ?_
  refine any1 8 (by kernel_rfl) ?_
  refine enter (o := (O Try.f5 28 8)) 126 24 #[(.slice (some ⟨b4, 0, none⟩) I.length d4), (.string x)] (by kernel_rfl) (by kernel_rfl) (by kernel_rfl) (by kernel_rfl) ?_
  refine (index_any (xs := I) (x := x) hci RI hdI hI).mono ?_; rintro e w2 ⟨rfl, B⟩; refine ⟨_, rfl, ?_⟩
  have HB3 := Lib.hid (HB.out.trans (B.mono HB.out.size))
  have RI3 := Kd.C_below RI B
  have RF3 := Kd.C_below RF B
  have q3 := (B.cell (World.block_lt_of_cell? _ _ q)).trans q
  have S3 := S.below B
  clear B
  refine take 9 (o := (O Try.f5 28 9)) 127 (.bool false) (by kernel_rfl) (by kernel_rfl) noSel28 (by kernel_rfl) (by kernel_rfl) hQ (by kernel_rfl) (fun _ => by kernel_rfl) ?_
  refine take 10 (o := (O Try.f5 28 10)) 128 (.bool false) (by kernel_rfl) (by kernel_rfl) noSel28 (by kernel_rfl) (by kernel_rfl) hQ (by kernel_rfl) (fun _ => by kernel_rfl) ?_
  refine take 11 (o := (O Try.f5 28 11)) 129 (.bool false) (by kernel_rfl) (by kernel_rfl) noSel28 (by kernel_rfl) (by kernel_rfl) hQ (by kernel_rfl) (fun _ => by kernel_rfl) ?_
  refine take 12 (o := (O Try.f5 28 12)) 130 (.string o) (by kernel_rfl) (by kernel_rfl) noSel28 (by kernel_rfl) (by kernel_rfl) hQ (by kernel_rfl) (fun _ => by kernel_rfl) ?_
  refine take 13 (o := (O Try.f5 28 13)) 131 (.bool false) (by kernel_rfl) (by kernel_rfl) noSel28 (by kernel_rfl) (by kernel_rfl) hQ (by kernel_rfl) (fun w => eql_no (s := 130) (by kernel_rfl) (by kernel_rfl) ho w) ?_
  refine take 14 (o := (O Try.f5 28 14)) 132 (.bool false) (by kernel_rfl) (by kernel_rfl) noSel28 (by kernel_rfl) (by kernel_rfl) hQ (by kernel_rfl) (fun _ => by kernel_rfl) ?_
  refine pass 15 (o := (O Try.f5 28 15)) 133 (by kernel_rfl) (by kernel_rfl) noSel28 (by kernel_rfl) (by kernel_rfl) hQ (by kernel_rfl) ?_
  refine pass 16 (o := (O Try.f5 28 16)) 134 (by kernel_rfl) (by kernel_rfl) noSel28 (by kernel_rfl) (by kernel_rfl) hQ (by kernel_rfl) ?_
  refine pass 17 (o := (O Try.f5 28 17)) 135 (by kernel_rfl) (by kernel_rfl) noSel28 (by kernel_rfl) (by kernel_rfl) hQ (by kernel_rfl) ?_
  refine pass 18 (o := (O Try.f5 28 18)) 136 (by kernel_rfl) (by kernel_rfl) noSel28 (by kernel_rfl) (by kernel_rfl) hQ (by kernel_rfl) ?_
  refine pass 19 (o := (O Try.f5 28 19)) 137 (by kernel_rfl) (by kernel_rfl) noSel28 (by kernel_rfl) (by kernel_rfl) hQ (by kernel_rfl) ?_
  refine pass 20 (o := (O Try.f5 28 20)) 138 (by kernel_rfl) (by kernel_rfl) noSel28 (by kernel_rfl) (by kernel_rfl) hQ (by kernel_rfl) ?_
  refine pass 21 (o := (O Try.f5 28 21)) 139 (by kernel_rfl) (by kernel_rfl) noSel28 (by kernel_rfl) (by kernel_rfl) hQ (by kernel_rfl) ?_
  refine take 22 (o := (O Try.f5 28 22)) 140 (.bool false) (by kernel_rfl) (by kernel_rfl) noSel28 (by kernel_rfl) (by kernel_rfl) hQ (by kernel_rfl) (fun _ => by kernel_rfl) ?_
  refine take 23 (o := (O Try.f5 28 23)) 141 (.bool false) (by kernel_rfl) (by kernel_rfl) noSel28 (by kernel_rfl) (by kernel_rfl) hQ (by kernel_rfl) (fun _ => by kernel_rfl) ?_
  refine take 24 (o := (O Try.f5 28 24)) 142 (.bool false) (by kernel_rfl) (by kernel_rfl) noSel28 (by kernel_rfl) (by kernel_rfl) hQ (by kernel_rfl) (fun _ => by kernel_rfl) ?_
  refine take 25 (o := (O Try.f5 28 25)) 143 (.string o) (by kernel_rfl) (by kernel_rfl) noSel28 (by kernel_rfl) (by kernel_rfl) hQ (by kernel_rfl) (fun _ => by kernel_rfl) ?_
  refine take 26 (o := (O Try.f5 28 26)) 144 (.bool true) (by kernel_rfl) (by kernel_rfl) noSel28 (by kernel_rfl) (by kernel_rfl) hQ (by kernel_rfl) (fun w => neq_no (s := 143) (by kernel_rfl) (by kernel_rfl) ho w) ?_
  refine take 27 (o := (O Try.f5 28 27)) 145 (.bool true) (by kernel_rfl) (by kernel_rfl) noSel28 (by kernel_rfl) (by kernel_rfl) hQ (by kernel_rfl) (fun _ => by kernel_rfl) ?_
  refine take 28 (o := (O Try.f5 28 28)) 146 (ptr m) (by kernel_rfl) (by kernel_rfl) noSel28 (by kernel_rfl) (by kernel_rfl) hQ (by kernel_rfl) (fun _ => by kernel_rfl) ?_
  refine take 29 (o := (O Try.f5 28 29)) 147 (.string o) (by kernel_rfl) (by kernel_rfl) noSel28 (by kernel_rfl) (by kernel_rfl) hQ (by kernel_rfl) (fun _ => by kernel_rfl) ?_
  refine take 31 (o := (O Try.f5 28 31)) 149 (.slice (some ⟨b4, 0, none⟩) I.length d4) (by kernel_rfl) (by kernel_rfl) noSel28 (by kernel_rfl) (by kernel_rfl) hQ (by kernel_rfl) (fun _ => by kernel_rfl) ?_
  refine take 32 (o := (O Try.f5 28 32)) 150 (.int .i64 ((j : Nat) : Int)) (by kernel_rfl) (by kernel_rfl) noSel28 (by kernel_rfl) (by kernel_rfl) hQ (by kernel_rfl) (fun _ => by kernel_rfl) ?_
  refine take 33 (o := (O Try.f5 28 33)) 151 (.pointer (some ⟨b4, j, none⟩)) (by kernel_rfl) (by kernel_rfl) noSel28 (by kernel_rfl) (by kernel_rfl) hQ (by kernel_rfl) (fun w => ixA (s := 149) (t := 150) (d := d4) (by kernel_rfl) (by kernel_rfl) (by kernel_rfl) hj w) ?_
  refine any2 30 34 (by kernel_rfl) ?_ ?_
  · refine enter (o := (O Try.f5 28 30)) 148 19 #[(ptr m), (.string o)] (by kernel_rfl) (by kernel_rfl) (by kernel_rfl) (by kernel_rfl) ?_
    refine (hhel w2 S3).mono ?_; rintro e w4 ⟨v, rfl, RR, B⟩; obtain ⟨AH, dH, rfl, hdH, RHn⟩ := Kd.R_reads RR; clear RR; refine ⟨_, rfl, ?_⟩
    have HB5 := Lib.hid (HB3.out.trans (B.mono HB3.out.size))
    have RI5 := Kd.C_below RI3 B
    have RF5 := Kd.C_below RF3 B
    have q5 := (B.cell (World.block_lt_of_cell? _ _ q3)).trans q3
    clear B
    refine any1 34 (by kernel_rfl) ?_
    refine value (o := (O Try.f5 28 34)) 152 (.string x) (w' := w4) (by kernel_rfl) (by kernel_rfl) (by kernel_rfl) (ld (s := 151) (by kernel_rfl) (by kernel_rfl) q5) ?_
    refine any1 35 (by kernel_rfl) ?_
    refine enter (o := (O Try.f5 28 35)) 153 24 #[(.slice AH Ho.length dH), (.string x)] (by kernel_rfl) (by kernel_rfl) (by kernel_rfl) (by kernel_rfl) ?_
    refine (index_any (xs := Ho) (x := x) hch RHn hdH hH).mono ?_; rintro e w7 ⟨rfl, B⟩; refine ⟨_, rfl, ?_⟩
    have HB8 := Lib.hid (HB5.out.trans (B.mono HB5.out.size))
    have RI8 := Kd.C_below RI5 B
    have RF8 := Kd.C_below RF5 B
    have RH8 := Kd.C_below RHn B
    have q8 := (B.cell (World.block_lt_of_cell? _ _ q5)).trans q5
    clear B
    refine take 36 (o := (O Try.f5 28 36)) 154 (.bool false) (by kernel_rfl) (by kernel_rfl) noSel28 (by kernel_rfl) (by kernel_rfl) hQ (by kernel_rfl) (fun _ => by kernel_rfl) ?_
    refine take 37 (o := (O Try.f5 28 37)) 155 (.bool false) (by kernel_rfl) (by kernel_rfl) noSel28 (by kernel_rfl) (by kernel_rfl) hQ (by kernel_rfl) (fun _ => by kernel_rfl) ?_
    refine take 38 (o := (O Try.f5 28 38)) 156 (.slice AF F.length dF) (by kernel_rfl) (by kernel_rfl) noSel28 (by kernel_rfl) (by kernel_rfl) hQ (by kernel_rfl) (fun _ => by kernel_rfl) ?_
    refine take 39 (o := (O Try.f5 28 39)) 157 (.slice (some ⟨b4, 0, none⟩) I.length d4) (by kernel_rfl) (by kernel_rfl) noSel28 (by kernel_rfl) (by kernel_rfl) hQ (by kernel_rfl) (fun _ => by kernel_rfl) ?_
    refine take 40 (o := (O Try.f5 28 40)) 158 (.int .i64 ((j : Nat) : Int)) (by kernel_rfl) (by kernel_rfl) noSel28 (by kernel_rfl) (by kernel_rfl) hQ (by kernel_rfl) (fun _ => by kernel_rfl) ?_
    refine take 41 (o := (O Try.f5 28 41)) 159 (.pointer (some ⟨b4, j, none⟩)) (by kernel_rfl) (by kernel_rfl) noSel28 (by kernel_rfl) (by kernel_rfl) hQ (by kernel_rfl) (fun w => ixA (s := 157) (t := 158) (d := d4) (by kernel_rfl) (by kernel_rfl) (by kernel_rfl) hj w) ?_
    refine any1 42 (by kernel_rfl) ?_
    refine value (o := (O Try.f5 28 42)) 160 (.string x) (w' := w7) (by kernel_rfl) (by kernel_rfl) (by kernel_rfl) (ld (s := 159) (by kernel_rfl) (by kernel_rfl) q8) ?_
    refine any1 43 (by kernel_rfl) ?_
    refine enter (o := (O Try.f5 28 43)) 161 24 #[(.slice AF F.length dF), (.string x)] (by kernel_rfl) (by kernel_rfl) (by kernel_rfl) (by kernel_rfl) ?_
    refine (index_any (xs := F) (x := x) hcf RF8 hdF hF).mono ?_; rintro e w10 ⟨rfl, B⟩; refine ⟨_, rfl, ?_⟩
    have HB11 := Lib.hid (HB8.out.trans (B.mono HB8.out.size))
    have RI11 := Kd.C_below RI8 B
    have RF11 := Kd.C_below RF8 B
    have RH11 := Kd.C_below RH8 B
    have q11 := (B.cell (World.block_lt_of_cell? _ _ q8)).trans q8
    clear B
    refine take 44 (o := (O Try.f5 28 44)) 162 (.bool false) (by kernel_rfl) (by kernel_rfl) noSel28 (by kernel_rfl) (by kernel_rfl) hQ (by kernel_rfl) (fun _ => by kernel_rfl) ?_
    refine take 45 (o := (O Try.f5 28 45)) 163 (.bool false) (by kernel_rfl) (by kernel_rfl) noSel28 (by kernel_rfl) (by kernel_rfl) hQ (by kernel_rfl) (fun _ => by kernel_rfl) ?_
    refine take 46 (o := (O Try.f5 28 46)) 164 (.bool false) (by kernel_rfl) (by kernel_rfl) noSel28 (by kernel_rfl) (by kernel_rfl) hQ (by kernel_rfl) (fun _ => by kernel_rfl) ?_
    refine take 47 (o := (O Try.f5 28 47)) 165 (.bool false) (by kernel_rfl) (by kernel_rfl) noSel28 (by kernel_rfl) (by kernel_rfl) hQ (by kernel_rfl) (fun _ => by kernel_rfl) ?_
    exact same (l' := L 48 48) (a' := ⟨#[x0, x1, x2, (ptr m), (.slice (some ⟨b4, 0, none⟩) I.length d4), x5, x6, x7, x8, x9, x10, x11, (.slice AF F.length dF), x13, (.int .i64 ((j : Nat) : Int)), (.string o), (.bool true), x17, x18, x19, x20, x21, x22, x23, x24, x25, x26, x27, x28, x29, x30, x31, x32, x33, x34, x35, x36, x37, x38, x39, x40, x41, x42, x43, x44, x45, x46, x47, x48, x49, x50, x51, x52, x53, x54, x55, x56, x57, x58, x59, x60, x61, x62, x63, x64, x65, x66, x67, x68, x69, x70, x71, x72, x73, x74, x75, x76, x77, x78, x79, x80, x81, x82, x83, x84, x85, x86, x87, x88, x89, x90, x91, x92, x93, x94, x95, x96, x97, x98, x99, x100, x101, x102, x103, x104, x105, x106, x107, x108, x109, x110, x111, x112, x113, x114, x115, x116, x117, (.bool true), (.bool false), (.bool false), (.slice (some ⟨b4, 0, none⟩) I.length d4), (.slice (some ⟨b4, 0, none⟩) I.length d4), (.int .i64 ((j : Nat) : Int)), (.pointer (some ⟨b4, j, none⟩)), (.string x), (.int .i64 1), (.bool false), (.bool false), (.bool false), (.string o), (.bool false), (.bool false), undef, undef, undef, undef, undef, undef, undef, (.bool false), (.bool false), (.bool false), (.string o), (.bool true), (.bool true), (ptr m), (.string o), (.slice AH Ho.length dH), (.slice (some ⟨b4, 0, none⟩) I.length d4), (.int .i64 ((j : Nat) : Int)), (.pointer (some ⟨b4, j, none⟩)), (.string x), (.int .i64 1), (.bool false), (.bool false), (.slice AF F.length dF), (.slice (some ⟨b4, 0, none⟩) I.length d4), (.int .i64 ((j : Nat) : Int)), (.pointer (some ⟨b4, j, none⟩)), (.string x), (.int .i64 0), (.bool false), (.bool false), (.bool false), (.bool false), x166, x167, x168, x169, x170, x171, x172, x173, x174, x175, x176, x177, x178, x179, x180, x181, x182, x183, x184, x185, x186, x187, x188, x189, x190, x191, x192, x193, x194, x195, x196, x197, x198, x199, x200, x201, x202, x203], ds⟩) (by kernel_rfl) (by kernel_rfl) (wpAny_done (by kernel_rfl) (hq (.slice AH Ho.length dH) w10 HB11.out) 0)
  · refine value (o := (O Try.f5 28 34)) 152 (.string x) (w' := w2) (by kernel_rfl) (by kernel_rfl) (by kernel_rfl) (ld (s := 151) (by kernel_rfl) (by kernel_rfl) q3) ?_
    refine any1 30 (by kernel_rfl) ?_
    refine enter (o := (O Try.f5 28 30)) 148 19 #[(ptr m), (.string o)] (by kernel_rfl) (by kernel_rfl) (by kernel_rfl) (by kernel_rfl) ?_
    refine (hhel w2 S3).mono ?_; rintro e w13 ⟨v, rfl, RR, B⟩; obtain ⟨AH, dH, rfl, hdH, RHn⟩ := Kd.R_reads RR; clear RR; refine ⟨_, rfl, ?_⟩
    have HB14 := Lib.hid (HB3.out.trans (B.mono HB3.out.size))
    have RI14 := Kd.C_below RI3 B
    have RF14 := Kd.C_below RF3 B
    have q14 := (B.cell (World.block_lt_of_cell? _ _ q3)).trans q3
    clear B
    refine any1 35 (by kernel_rfl) ?_
    refine enter (o := (O Try.f5 28 35)) 153 24 #[(.slice AH Ho.length dH), (.string x)] (by kernel_rfl) (by kernel_rfl) (by kernel_rfl) (by kernel_rfl) ?_
    refine (index_any (xs := Ho) (x := x) hch RHn hdH hH).mono ?_; rintro e w15 ⟨rfl, B⟩; refine ⟨_, rfl, ?_⟩
    have HB16 := Lib.hid (HB14.out.trans (B.mono HB14.out.size))
    have RI16 := Kd.C_below RI14 B
    have RF16 := Kd.C_below RF14 B
    have RH16 := Kd.C_below RHn B
    have q16 := (B.cell (World.block_lt_of_cell? _ _ q14)).trans q14
    clear B
    refine take 36 (o := (O Try.f5 28 36)) 154 (.bool false) (by kernel_rfl) (by kernel_rfl) noSel28 (by kernel_rfl) (by kernel_rfl) hQ (by kernel_rfl) (fun _ => by kernel_rfl) ?_
    refine take 37 (o := (O Try.f5 28 37)) 155 (.bool false) (by kernel_rfl) (by kernel_rfl) noSel28 (by kernel_rfl) (by kernel_rfl) hQ (by kernel_rfl) (fun _ => by kernel_rfl) ?_
    refine take 38 (o := (O Try.f5 28 38)) 156 (.slice AF F.length dF) (by kernel_rfl) (by kernel_rfl) noSel28 (by kernel_rfl) (by kernel_rfl) hQ (by kernel_rfl) (fun _ => by kernel_rfl) ?_
    refine take 39 (o := (O Try.f5 28 39)) 157 (.slice (some ⟨b4, 0, none⟩) I.length d4) (by kernel_rfl) (by kernel_rfl) noSel28 (by kernel_rfl) (by kernel_rfl) hQ (by kernel_rfl) (fun _ => by kernel_rfl) ?_
    refine take 40 (o := (O Try.f5 28 40)) 158 (.int .i64 ((j : Nat) : Int)) (by kernel_rfl) (by kernel_rfl) noSel28 (by kernel_rfl) (by kernel_rfl) hQ (by kernel_rfl) (fun _ => by kernel_rfl) ?_
    refine take 41 (o := (O Try.f5 28 41)) 159 (.pointer (some ⟨b4, j, none⟩)) (by kernel_rfl) (by kernel_rfl) noSel28 (by kernel_rfl) (by kernel_rfl) hQ (by kernel_rfl) (fun w => ixA (s := 157) (t := 158) (d := d4) (by kernel_rfl) (by kernel_rfl) (by kernel_rfl) hj w) ?_
    refine any1 42 (by kernel_rfl) ?_
    refine value (o := (O Try.f5 28 42)) 160 (.string x) (w' := w15) (by kernel_rfl) (by kernel_rfl) (by kernel_rfl) (ld (s := 159) (by kernel_rfl) (by kernel_rfl) q16) ?_
    refine any1 43 (by kernel_rfl) ?_
    refine enter (o := (O Try.f5 28 43)) 161 24 #[(.slice AF F.length dF), (.string x)] (by kernel_rfl) (by kernel_rfl) (by kernel_rfl) (by kernel_rfl) ?_
    refine (index_any (xs := F) (x := x) hcf RF16 hdF hF).mono ?_; rintro e w18 ⟨rfl, B⟩; refine ⟨_, rfl, ?_⟩
    have HB19 := Lib.hid (HB16.out.trans (B.mono HB16.out.size))
    have RI19 := Kd.C_below RI16 B
    have RF19 := Kd.C_below RF16 B
    have RH19 := Kd.C_below RH16 B
    have q19 := (B.cell (World.block_lt_of_cell? _ _ q16)).trans q16
    clear B
    refine take 44 (o := (O Try.f5 28 44)) 162 (.bool false) (by kernel_rfl) (by kernel_rfl) noSel28 (by kernel_rfl) (by kernel_rfl) hQ (by kernel_rfl) (fun _ => by kernel_rfl) ?_
    refine take 45 (o := (O Try.f5 28 45)) 163 (.bool false) (by kernel_rfl) (by kernel_rfl) noSel28 (by kernel_rfl) (by kernel_rfl) hQ (by kernel_rfl) (fun _ => by kernel_rfl) ?_
    refine take 46 (o := (O Try.f5 28 46)) 164 (.bool false) (by kernel_rfl) (by kernel_rfl) noSel28 (by kernel_rfl) (by kernel_rfl) hQ (by kernel_rfl) (fun _ => by kernel_rfl) ?_
    refine take 47 (o := (O Try.f5 28 47)) 165 (.bool false) (by kernel_rfl) (by kernel_rfl) noSel28 (by kernel_rfl) (by kernel_rfl) hQ (by kernel_rfl) (fun _ => by kernel_rfl) ?_
    exact same (l' := L 48 48) (a' := ⟨#[x0, x1, x2, (ptr m), (.slice (some ⟨b4, 0, none⟩) I.length d4), x5, x6, x7, x8, x9, x10, x11, (.slice AF F.length dF), x13, (.int .i64 ((j : Nat) : Int)), (.string o), (.bool true), x17, x18, x19, x20, x21, x22, x23, x24, x25, x26, x27, x28, x29, x30, x31, x32, x33, x34, x35, x36, x37, x38, x39, x40, x41, x42, x43, x44, x45, x46, x47, x48, x49, x50, x51, x52, x53, x54, x55, x56, x57, x58, x59, x60, x61, x62, x63, x64, x65, x66, x67, x68, x69, x70, x71, x72, x73, x74, x75, x76, x77, x78, x79, x80, x81, x82, x83, x84, x85, x86, x87, x88, x89, x90, x91, x92, x93, x94, x95, x96, x97, x98, x99, x100, x101, x102, x103, x104, x105, x106, x107, x108, x109, x110, x111, x112, x113, x114, x115, x116, x117, (.bool true), (.bool false), (.bool false), (.slice (some ⟨b4, 0, none⟩) I.length d4), (.slice (some ⟨b4, 0, none⟩) I.length d4), (.int .i64 ((j : Nat) : Int)), (.pointer (some ⟨b4, j, none⟩)), (.string x), (.int .i64 1), (.bool false), (.bool false), (.bool false), (.string o), (.bool false), (.bool false), undef, undef, undef, undef, undef, undef, undef, (.bool false), (.bool false), (.bool false), (.string o), (.bool true), (.bool true), (ptr m), (.string o), (.slice AH Ho.length dH), (.slice (some ⟨b4, 0, none⟩) I.length d4), (.int .i64 ((j : Nat) : Int)), (.pointer (some ⟨b4, j, none⟩)), (.string x), (.int .i64 1), (.bool false), (.bool false), (.slice AF F.length dF), (.slice (some ⟨b4, 0, none⟩) I.length d4), (.int .i64 ((j : Nat) : Int)), (.pointer (some ⟨b4, j, none⟩)), (.string x), (.int .i64 0), (.bool false), (.bool false), (.bool false), (.bool false), x166, x167, x168, x169, x170, x171, x172, x173, x174, x175, x176, x177, x178, x179, x180, x181, x182, x183, x184, x185, x186, x187, x188, x189, x190, x191, x192, x193, x194, x195, x196, x197, x198, x199, x200, x201, x202, x203], ds⟩) (by kernel_rfl) (by kernel_rfl) (wpAny_done (by kernel_rfl) (hq (.slice AH Ho.length dH) w18 HB19.out) 0)

end Go.Proofs.Ytcaennbagdipkaa.stockPlaces
