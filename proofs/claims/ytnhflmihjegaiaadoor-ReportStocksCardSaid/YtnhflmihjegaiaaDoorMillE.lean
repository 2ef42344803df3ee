/- mill's last drawn region: both states copied to the results. (gen_mille.py) -/
import Derived.Test.YtnhflmihjegaiaaDoorMillI
import Derived.Laws.CopyOwn
namespace Go.Proofs.YtnhflmihjegaiaaDoor
open Go Go.Proofs Go.RowKit Go.Proofs.YtnhflmihjegaiaaDoorW.PrintWords P Reg
set_option linter.unusedSimpArgs false
set_option linter.unusedVariables false
set_option maxRecDepth 100000
set_option maxHeartbeats 4000000

structure MO (B : Nat) (w0 wr : World) (v2 v3 v5 u2 u3 u5 : Value) (L : List S111) (I : List S100) (O : List S116) (L1 : List S112) (I1 : List S101) (O1 : List S117) : Prop where
  b6 : wr.heap[B]? = some (.cells #[.int .i64 0, .slice none 0 0, v2, v3, .slice none 0 0, v5, .int .i64 0, .int .i64 0, .slice none 0 0, .slice none 0 0] 32 (0, 0))
  b7 : wr.heap[B + 1]? = some (.cells #[.int .i64 0, .slice none 0 0, u2, u3, .slice none 0 0, u5, .int .i64 0, .int .i64 0, .slice none 0 0, .slice none 0 0] 38 (0, 0))
  r2 : Kd.R k111 111 wr (B + 4) (fun _ => True) v2 L
  r3 : Kd.R k100 100 wr (B + 4) (fun _ => True) v3 I
  r5 : Kd.R k116 116 wr (B + 4) (fun _ => True) v5 O
  q2 : Kd.R k112 112 wr (B + 4) (fun _ => True) u2 L1
  q3 : Kd.R k101 101 wr (B + 4) (fun _ => True) u3 I1
  q5 : Kd.R k117 117 wr (B + 4) (fun _ => True) u5 O1
  bl : Below B w0 wr
theorem storeR {a : Act} {o : Oper} {w : World} {t s u g : Nat} {t0 : TypeId} {old cells : Array Value} (hop : o.op = .store t (.tmp s) (.tmp u)) (hs : a.eval (.tmp s) = .pointer (some ⟨g, 0, none⟩)) (hv : a.eval (.tmp u) = .agg cells)
    (hg : w.heap[g]? = some (.cells old t0 (0, 0))) (hi : (Tryd.prog.info? t).map (·.size) = some cells.size) (ho : old.size = cells.size) (h1 : cells.all (·.oneCell') = true) :
    (execOp a.eval o).run Tryd.prog w = .ok .skip (w.setRow g cells) := by
  obtain ⟨ds, op, ty, pos, aft, gd⟩ := o
  cases hop
  simp only [execOp, hs, hv, Instr.storeAt, Instr.sureAddr, Sem.run_bind, Sem.run_pure, Result.andThen_ok, run_storeVar_row w g t0 t old cells hg hi ho h1]
theorem row_cells {w : World} {g : Nat} {t : TypeId} {cs : List Value} (h : w.heap[g]? = some (.cells cs.toArray t (0, 0))) : ∀ j v, cs[j]? = some v → w.cell? ((⟨g, 0, none⟩ : Addr).add j) = some v := by
  intro j v hv
  have hadd : (⟨g, 0, none⟩ : Addr).add j = ⟨g, j, none⟩ := by unfold Addr.add; split <;> simp_all
  rw [hadd, blk_cell h, List.getElem?_toArray]
  exact hv
theorem one_of_R {α : Type} {d : Kd α} {e : Nat} {w : World} {base : Nat} {ok : Nat → Prop} {v : Value} {xs : List α} (h : Kd.R d e w base ok v xs) : v.oneCell' = true := by
  obtain ⟨A, c, e, _⟩ := Kd.R_reads h
  rw [e]
  rfl
theorem all10 {v2 v3 v5 : Value} (h2 : v2.oneCell' = true) (h3 : v3.oneCell' = true) (h5 : v5.oneCell' = true) : (#[.int .i64 0, .slice none 0 0, v2, v3, .slice none 0 0, v5, .int .i64 0, .int .i64 0, .slice none 0 0, .slice none 0 0] : Array Value).all (·.oneCell') = true := by
  rw [← Array.all_toList]
  simp only [List.all_cons, List.all_nil, h2, h3, h5]
  rfl
theorem mreg18 {Q : Exit → Act → World → Prop} (hQ : ∀ c (a : Act) d v w, Q (.panic c) (a.put d v) w → Q (.panic c) a w) (x3 x4 x5 x10 x11 x12 x13 x14 x15 x16 x17 x18 x19 x20 x21 x22 x23 x24 x25 x26 x27 x28 x29 x30 x31 x32 x33 x34 x35 x36 x37 x38 x39 x40 x41 x42 x43 x44 x45 x46 x47 x48 x49 x50 x51 x52 x53 x54 x55 x56 x57 x58 x59 x60 x61 x62 x63 x64 x65 x66 x67 x68 x69 x70 x71 x72 x73 x74 x75 x76 x77 x78 x79 x80 x81 x82 x83 x84 x85 x86 x87 x88 x89 x90 x91 x92 x93 x94 x95 x96 x97 x98 x99 x100 x101 x102 x103 x104 x105 x106 x107 x108 x109 x110 x111 x112 x113 x114 x115 x116 x117 x118 x119 x120 x121 x122 x123 x124 x125 x126 x127 x128 x129 x130 x131 x132 x133 x134 x135 x136 x137 x138 x139 x140 x141 x142 : Value) (wa w0 : World) {B : Nat} (A0 A1 A2 : Option Addr) (n0 c0 n1 c1 n2 c2 : Nat) {v2 v3 v5 u2 u3 u5 : Value} {L0 : List S111} {I : List S100} {O0 : List S116} {L1 : List S112} {I1 : List S101} {O1 : List S117}
    (M : MI B w0 wa v2 v3 v5 u2 u3 u5 L0 I O0 L1 I1 O1)
    (hq : ∀ w, MO B w0 w v2 v3 v5 u2 u3 u5 L0 I O0 L1 I1 O1 → Q .normal ⟨#[(.slice A0 n0 c0), (.slice A1 n1 c1), (.slice A2 n2 c2), x3, x4, x5, (.pointer (some ⟨B, 0, none⟩)), (.pointer (some ⟨B + 1, 0, none⟩)), (.pointer (some ⟨B + 1 + 1, 0, none⟩)), (.pointer (some ⟨B + 1 + 1 + 1, 0, none⟩)), x10, x11, x12, x13, x14, x15, x16, x17, x18, x19, x20, x21, x22, x23, x24, x25, x26, x27, x28, x29, x30, x31, x32, x33, x34, x35, x36, x37, x38, x39, x40, x41, x42, x43, x44, x45, x46, x47, x48, x49, x50, x51, x52, x53, x54, x55, x56, x57, x58, x59, x60, x61, x62, x63, x64, x65, x66, x67, x68, x69, x70, x71, x72, x73, x74, x75, x76, x77, x78, x79, x80, x81, x82, x83, x84, x85, x86, x87, x88, x89, x90, x91, x92, x93, x94, x95, x96, x97, x98, x99, x100, x101, x102, x103, x104, x105, x106, x107, x108, x109, x110, x111, x112, x113, x114, x115, x116, x117, x118, x119, x120, x121, x122, x123, x124, x125, x126, x127, x128, x129, x130, x131, x132, x133, x134, x135, x136, x137, x138, x139, x140, (.agg #[.int .i64 0, .slice none 0 0, v2, v3, .slice none 0 0, v5, .int .i64 0, .int .i64 0, .slice none 0 0, .slice none 0 0]), (.agg #[.int .i64 0, .slice none 0 0, u2, u3, .slice none 0 0, u5, .int .i64 0, .int .i64 0, .slice none 0 0, .slice none 0 0])], []⟩ w) :
    wpAnyH Tryd.prog .any (R Tryd.f10 18) Q (fun w => w.heap[B + 1 + 1]? = some (.cells #[.int .i64 0, .slice none 0 0, v2, v3, .slice none 0 0, v5, .int .i64 0, .int .i64 0, .slice none 0 0, .slice none 0 0] 32 (0, 0)) ∧ w.heap[B + 1 + 1 + 1]? = some (.cells #[.int .i64 0, .slice none 0 0, u2, u3, .slice none 0 0, u5, .int .i64 0, .int .i64 0, .slice none 0 0, .slice none 0 0] 38 (0, 0))) 4 (L 4 0) ⟨#[(.slice A0 n0 c0), (.slice A1 n1 c1), (.slice A2 n2 c2), x3, x4, x5, (.pointer (some ⟨B, 0, none⟩)), (.pointer (some ⟨B + 1, 0, none⟩)), (.pointer (some ⟨B + 1 + 1, 0, none⟩)), (.pointer (some ⟨B + 1 + 1 + 1, 0, none⟩)), x10, x11, x12, x13, x14, x15, x16, x17, x18, x19, x20, x21, x22, x23, x24, x25, x26, x27, x28, x29, x30, x31, x32, x33, x34, x35, x36, x37, x38, x39, x40, x41, x42, x43, x44, x45, x46, x47, x48, x49, x50, x51, x52, x53, x54, x55, x56, x57, x58, x59, x60, x61, x62, x63, x64, x65, x66, x67, x68, x69, x70, x71, x72, x73, x74, x75, x76, x77, x78, x79, x80, x81, x82, x83, x84, x85, x86, x87, x88, x89, x90, x91, x92, x93, x94, x95, x96, x97, x98, x99, x100, x101, x102, x103, x104, x105, x106, x107, x108, x109, x110, x111, x112, x113, x114, x115, x116, x117, x118, x119, x120, x121, x122, x123, x124, x125, x126, x127, x128, x129, x130, x131, x132, x133, x134, x135, x136, x137, x138, x139, x140, x141, x142], []⟩ wa := by
  have o2 := one_of_R M.r2
  have o3 := one_of_R M.r3
  have o5 := one_of_R M.r5
  have p2 := one_of_R M.q2
  have p3 := one_of_R M.q3
  have p5 := one_of_R M.q5
  have hS : (fun w : World => w.heap[B + 1 + 1]? = some (.cells #[.int .i64 0, .slice none 0 0, v2, v3, .slice none 0 0, v5, .int .i64 0, .int .i64 0, .slice none 0 0, .slice none 0 0] 32 (0, 0)) ∧ w.heap[B + 1 + 1 + 1]? = some (.cells #[.int .i64 0, .slice none 0 0, u2, u3, .slice none 0 0, u5, .int .i64 0, .int .i64 0, .slice none 0 0, .slice none 0 0] 38 (0, 0))) wa := ⟨M.bs, M.bt⟩
  refine RegH.take 0 141 (.agg #[.int .i64 0, .slice none 0 0, v2, v3, .slice none 0 0, v5, .int .i64 0, .int .i64 0, .slice none 0 0, .slice none 0 0]) hQ hS (fun w b => loadR (s := 8) (by kernel_rfl) (by kernel_rfl) [.int .i64 0, .slice none 0 0, v2, v3, .slice none 0 0, v5, .int .i64 0, .int .i64 0, .slice none 0 0, .slice none 0 0] _ (row_cells b.1) Tryd.underlying32 rfl (by kernel_rfl)) ?_
  refine RegH.take 1 142 (.agg #[.int .i64 0, .slice none 0 0, u2, u3, .slice none 0 0, u5, .int .i64 0, .int .i64 0, .slice none 0 0, .slice none 0 0]) hQ hS (fun w b => loadR (s := 9) (by kernel_rfl) (by kernel_rfl) [.int .i64 0, .slice none 0 0, u2, u3, .slice none 0 0, u5, .int .i64 0, .int .i64 0, .slice none 0 0, .slice none 0 0] _ (row_cells b.2) Tryd.underlying38 rfl (by kernel_rfl)) ?_
  have s2 : (wa.setRow B #[.int .i64 0, .slice none 0 0, v2, v3, .slice none 0 0, v5, .int .i64 0, .int .i64 0, .slice none 0 0, .slice none 0 0]).heap[B + 1 + 1]? = some (.cells #[.int .i64 0, .slice none 0 0, v2, v3, .slice none 0 0, v5, .int .i64 0, .int .i64 0, .slice none 0 0, .slice none 0 0] 32 (0, 0)) := (setRow_other _ _ _ _ (by omega)).trans M.bs
  have t2 : (wa.setRow B #[.int .i64 0, .slice none 0 0, v2, v3, .slice none 0 0, v5, .int .i64 0, .int .i64 0, .slice none 0 0, .slice none 0 0]).heap[B + 1 + 1 + 1]? = some (.cells #[.int .i64 0, .slice none 0 0, u2, u3, .slice none 0 0, u5, .int .i64 0, .int .i64 0, .slice none 0 0, .slice none 0 0] 38 (0, 0)) := (setRow_other _ _ _ _ (by omega)).trans M.bt
  have b7 : (wa.setRow B #[.int .i64 0, .slice none 0 0, v2, v3, .slice none 0 0, v5, .int .i64 0, .int .i64 0, .slice none 0 0, .slice none 0 0]).heap[B + 1]? = _ := (setRow_other _ _ _ _ (by omega)).trans M.b7
  have s3 : ((wa.setRow B #[.int .i64 0, .slice none 0 0, v2, v3, .slice none 0 0, v5, .int .i64 0, .int .i64 0, .slice none 0 0, .slice none 0 0]).setRow (B + 1) #[.int .i64 0, .slice none 0 0, u2, u3, .slice none 0 0, u5, .int .i64 0, .int .i64 0, .slice none 0 0, .slice none 0 0]).heap[B + 1 + 1]? = some (.cells #[.int .i64 0, .slice none 0 0, v2, v3, .slice none 0 0, v5, .int .i64 0, .int .i64 0, .slice none 0 0, .slice none 0 0] 32 (0, 0)) := (setRow_other _ _ _ _ (by omega)).trans s2
  have t3 : ((wa.setRow B #[.int .i64 0, .slice none 0 0, v2, v3, .slice none 0 0, v5, .int .i64 0, .int .i64 0, .slice none 0 0, .slice none 0 0]).setRow (B + 1) #[.int .i64 0, .slice none 0 0, u2, u3, .slice none 0 0, u5, .int .i64 0, .int .i64 0, .slice none 0 0, .slice none 0 0]).heap[B + 1 + 1 + 1]? = some (.cells #[.int .i64 0, .slice none 0 0, u2, u3, .slice none 0 0, u5, .int .i64 0, .int .i64 0, .slice none 0 0, .slice none 0 0] 38 (0, 0)) := (setRow_other _ _ _ _ (by omega)).trans t2
  refine RegH.any1 2 (RegH.skip (w' := wa.setRow B #[.int .i64 0, .slice none 0 0, v2, v3, .slice none 0 0, v5, .int .i64 0, .int .i64 0, .slice none 0 0, .slice none 0 0]) ⟨⟨s2, t2⟩, ?_⟩ (hv := storeR (t := 32) (s := 6) (u := 141) (g := B) (by kernel_rfl) (by kernel_rfl) (by kernel_rfl) M.b6 (by kernel_rfl) rfl (all10 o2 o3 o5)))
  refine RegH.any1 3 (RegH.skip (w' := (wa.setRow B #[.int .i64 0, .slice none 0 0, v2, v3, .slice none 0 0, v5, .int .i64 0, .int .i64 0, .slice none 0 0, .slice none 0 0]).setRow (B + 1) #[.int .i64 0, .slice none 0 0, u2, u3, .slice none 0 0, u5, .int .i64 0, .int .i64 0, .slice none 0 0, .slice none 0 0]) ⟨⟨s3, t3⟩, ?_⟩ (hv := storeR (t := 38) (s := 7) (u := 142) (g := B + 1) (by kernel_rfl) (by kernel_rfl) (by kernel_rfl) b7 (by kernel_rfl) rfl (all10 p2 p3 p5)))
  have hm : ∀ k, B + 4 ≤ k → ((wa.setRow B #[.int .i64 0, .slice none 0 0, v2, v3, .slice none 0 0, v5, .int .i64 0, .int .i64 0, .slice none 0 0, .slice none 0 0]).setRow (B + 1) #[.int .i64 0, .slice none 0 0, u2, u3, .slice none 0 0, u5, .int .i64 0, .int .i64 0, .slice none 0 0, .slice none 0 0]).heap[k]? = wa.heap[k]? := fun k hk => (setRow_other _ _ _ _ (by omega)).trans (setRow_other _ _ _ _ (by omega))
  have mv : ∀ {α : Type} {d : Kd α} {e : Nat} {v : Value} {xs : List α}, Kd.R d e wa (B + 4) (fun _ => True) v xs → Kd.R d e ((wa.setRow B #[.int .i64 0, .slice none 0 0, v2, v3, .slice none 0 0, v5, .int .i64 0, .int .i64 0, .slice none 0 0, .slice none 0 0]).setRow (B + 1) #[.int .i64 0, .slice none 0 0, u2, u3, .slice none 0 0, u5, .int .i64 0, .int .i64 0, .slice none 0 0, .slice none 0 0]) (B + 4) (fun _ => True) v xs := fun h => Kd.R_mono (Kd.R_step (Kd.R_bound h) (fun k hk _ => hm k hk.2.1)) (fun _ _ => trivial)
  exact RegH.same (l' := L 4 4) (wpAnyH_done (by kernel_rfl) (hq _ ⟨(setRow_other _ _ _ _ (by omega)).trans (setRow_heap _ _ _ _ _ _ M.b6), setRow_heap _ _ _ _ _ _ b7, mv M.r2, mv M.r3, mv M.r5, mv M.q2, mv M.q3, mv M.q5, below_setRow (below_setRow M.bl (Nat.le_refl _) _) (by omega) _⟩) 0)
end Go.Proofs.YtnhflmihjegaiaaDoor
