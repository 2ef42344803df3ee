/- What mill's loops keep: the two states' cells, their rows of logs, items and orders. (gen_mill.py) -/
import Derived.Test.YtnhflmihjegaiaaDoorOps
namespace Go.Proofs.YtnhflmihjegaiaaDoor
open Go Go.Proofs Go.RowKit Go.Proofs.YtnhflmihjegaiaaDoorW.PrintWords P Reg
set_option linter.unusedSimpArgs false
set_option linter.unusedVariables false
set_option maxRecDepth 100000
set_option maxHeartbeats 4000000

structure MI (B : Nat) (w0 wr : World) (v2 v3 v5 u2 u3 u5 : Value) (L : List S111) (I : List S100) (O : List S116) (L1 : List S112) (I1 : List S101) (O1 : List S117) : Prop where
  bs : wr.heap[B + 1 + 1]? = some (.cells #[.int .i64 0, .slice none 0 0, v2, v3, .slice none 0 0, v5, .int .i64 0, .int .i64 0, .slice none 0 0, .slice none 0 0] 32 (0, 0))
  bt : wr.heap[B + 1 + 1 + 1]? = some (.cells #[.int .i64 0, .slice none 0 0, u2, u3, .slice none 0 0, u5, .int .i64 0, .int .i64 0, .slice none 0 0, .slice none 0 0] 38 (0, 0))
  b6 : wr.heap[B]? = some (.cells #[.int .i64 0, .slice none 0 0, .slice none 0 0, .slice none 0 0, .slice none 0 0, .slice none 0 0, .int .i64 0, .int .i64 0, .slice none 0 0, .slice none 0 0] 32 (0, 0))
  b7 : wr.heap[B + 1]? = some (.cells #[.int .i64 0, .slice none 0 0, .slice none 0 0, .slice none 0 0, .slice none 0 0, .slice none 0 0, .int .i64 0, .int .i64 0, .slice none 0 0, .slice none 0 0] 38 (0, 0))
  r2 : Kd.R k111 111 wr (B + 4) (fun _ => True) v2 L
  r3 : Kd.R k100 100 wr (B + 4) (fun _ => True) v3 I
  r5 : Kd.R k116 116 wr (B + 4) (fun _ => True) v5 O
  q2 : Kd.R k112 112 wr (B + 4) (fun _ => True) u2 L1
  q3 : Kd.R k101 101 wr (B + 4) (fun _ => True) u3 I1
  q5 : Kd.R k117 117 wr (B + 4) (fun _ => True) u5 O1
  bl : Below B w0 wr
theorem MI.size {B : Nat} {w0 wr : World} {v2 v3 v5 u2 u3 u5 : Value} {L : List S111} {I : List S100} {O : List S116} {L1 : List S112} {I1 : List S101} {O1 : List S117} (h : MI B w0 wr v2 v3 v5 u2 u3 u5 L I O L1 I1 O1) : B + 4 ≤ wr.heap.size := blk_lt h.bt
theorem MI.below {B : Nat} {w0 wr w1 : World} {v2 v3 v5 u2 u3 u5 : Value} {L : List S111} {I : List S100} {O : List S116} {L1 : List S112} {I1 : List S101} {O1 : List S117} (h : MI B w0 wr v2 v3 v5 u2 u3 u5 L I O L1 I1 O1) (hb : Below wr.heap.size wr w1) : MI B w0 w1 v2 v3 v5 u2 u3 u5 L I O L1 I1 O1 :=
  ⟨blk_below h.bs hb, blk_below h.bt hb, blk_below h.b6 hb, blk_below h.b7 hb, Kd.R_below h.r2 hb, Kd.R_below h.r3 hb, Kd.R_below h.r5 hb, Kd.R_below h.q2 hb, Kd.R_below h.q3 hb, Kd.R_below h.q5 hb, h.bl.trans (hb.mono (by have := h.size; omega))⟩
theorem MI.push_r2 {B : Nat} {w0 wr w6 : World} {v2 v3 v5 u2 u3 u5 : Value} {L : List S111} {I : List S100} {O : List S116} {L1 : List S112} {I1 : List S101} {O1 : List S117} (h : MI B w0 wr v2 v3 v5 u2 u3 u5 L I O L1 I1 O1) {v1 : Value} {X : List S111} (hR : Kd.R k111 111 w6 (B + 4) (fun _ => True) v1 X) (hg : wr.grownBy w6 v2.ownBlock) : MI B w0 (w6.setCell ⟨B + 1 + 1, 2, none⟩ v1) v1 v3 v5 u2 u3 u5 X I O L1 I1 O1 := by
  have hown : ∀ k, v2.ownBlock = some k → B + 4 ≤ k := fun k hk => Kd.R_base h.r2 k hk
  have bs6 := blk_grown h.bs hg (fun e => by have := hown _ e.symm; omega)
  have bt6 := blk_grown h.bt hg (fun e => by have := hown _ e.symm; omega)
  have b66 := blk_grown h.b6 hg (fun e => by have := hown _ e.symm; omega)
  have b76 := blk_grown h.b7 hg (fun e => by have := hown _ e.symm; omega)
  have hsz : B ≤ wr.heap.size := by have := h.size; omega
  exact ⟨blk_put bs6 2 v1 rfl, blk_far bt6 (by show _ ≠ B + 1 + 1; omega) _, blk_far b66 (by show _ ≠ B + 1 + 1; omega) _, blk_far b76 (by show _ ≠ B + 1 + 1; omega) _, Kd.R_set hR bs6 (by decide) 2 _, Kd.R_set (Kd.R_over h.r3 h.r2 (by decide) hg) bs6 (by decide) 2 _, Kd.R_set (Kd.R_over h.r5 h.r2 (by decide) hg) bs6 (by decide) 2 _, Kd.R_set (Kd.R_over h.q2 h.r2 (by decide) hg) bs6 (by decide) 2 _, Kd.R_set (Kd.R_over h.q3 h.r2 (by decide) hg) bs6 (by decide) 2 _, Kd.R_set (Kd.R_over h.q5 h.r2 (by decide) hg) bs6 (by decide) 2 _, (h.bl.grown hg hsz (fun k e => by have := hown k e; omega)).setCell (by show B ≤ B + 1 + 1; omega) _⟩
theorem MI.push_r3 {B : Nat} {w0 wr w6 : World} {v2 v3 v5 u2 u3 u5 : Value} {L : List S111} {I : List S100} {O : List S116} {L1 : List S112} {I1 : List S101} {O1 : List S117} (h : MI B w0 wr v2 v3 v5 u2 u3 u5 L I O L1 I1 O1) {v1 : Value} {X : List S100} (hR : Kd.R k100 100 w6 (B + 4) (fun _ => True) v1 X) (hg : wr.grownBy w6 v3.ownBlock) : MI B w0 (w6.setCell ⟨B + 1 + 1, 3, none⟩ v1) v2 v1 v5 u2 u3 u5 L X O L1 I1 O1 := by
  have hown : ∀ k, v3.ownBlock = some k → B + 4 ≤ k := fun k hk => Kd.R_base h.r3 k hk
  have bs6 := blk_grown h.bs hg (fun e => by have := hown _ e.symm; omega)
  have bt6 := blk_grown h.bt hg (fun e => by have := hown _ e.symm; omega)
  have b66 := blk_grown h.b6 hg (fun e => by have := hown _ e.symm; omega)
  have b76 := blk_grown h.b7 hg (fun e => by have := hown _ e.symm; omega)
  have hsz : B ≤ wr.heap.size := by have := h.size; omega
  exact ⟨blk_put bs6 3 v1 rfl, blk_far bt6 (by show _ ≠ B + 1 + 1; omega) _, blk_far b66 (by show _ ≠ B + 1 + 1; omega) _, blk_far b76 (by show _ ≠ B + 1 + 1; omega) _, Kd.R_set (Kd.R_over h.r2 h.r3 (by decide) hg) bs6 (by decide) 3 _, Kd.R_set hR bs6 (by decide) 3 _, Kd.R_set (Kd.R_over h.r5 h.r3 (by decide) hg) bs6 (by decide) 3 _, Kd.R_set (Kd.R_over h.q2 h.r3 (by decide) hg) bs6 (by decide) 3 _, Kd.R_set (Kd.R_over h.q3 h.r3 (by decide) hg) bs6 (by decide) 3 _, Kd.R_set (Kd.R_over h.q5 h.r3 (by decide) hg) bs6 (by decide) 3 _, (h.bl.grown hg hsz (fun k e => by have := hown k e; omega)).setCell (by show B ≤ B + 1 + 1; omega) _⟩
theorem MI.push_r5 {B : Nat} {w0 wr w6 : World} {v2 v3 v5 u2 u3 u5 : Value} {L : List S111} {I : List S100} {O : List S116} {L1 : List S112} {I1 : List S101} {O1 : List S117} (h : MI B w0 wr v2 v3 v5 u2 u3 u5 L I O L1 I1 O1) {v1 : Value} {X : List S116} (hR : Kd.R k116 116 w6 (B + 4) (fun _ => True) v1 X) (hg : wr.grownBy w6 v5.ownBlock) : MI B w0 (w6.setCell ⟨B + 1 + 1, 5, none⟩ v1) v2 v3 v1 u2 u3 u5 L I X L1 I1 O1 := by
  have hown : ∀ k, v5.ownBlock = some k → B + 4 ≤ k := fun k hk => Kd.R_base h.r5 k hk
  have bs6 := blk_grown h.bs hg (fun e => by have := hown _ e.symm; omega)
  have bt6 := blk_grown h.bt hg (fun e => by have := hown _ e.symm; omega)
  have b66 := blk_grown h.b6 hg (fun e => by have := hown _ e.symm; omega)
  have b76 := blk_grown h.b7 hg (fun e => by have := hown _ e.symm; omega)
  have hsz : B ≤ wr.heap.size := by have := h.size; omega
  exact ⟨blk_put bs6 5 v1 rfl, blk_far bt6 (by show _ ≠ B + 1 + 1; omega) _, blk_far b66 (by show _ ≠ B + 1 + 1; omega) _, blk_far b76 (by show _ ≠ B + 1 + 1; omega) _, Kd.R_set (Kd.R_over h.r2 h.r5 (by decide) hg) bs6 (by decide) 5 _, Kd.R_set (Kd.R_over h.r3 h.r5 (by decide) hg) bs6 (by decide) 5 _, Kd.R_set hR bs6 (by decide) 5 _, Kd.R_set (Kd.R_over h.q2 h.r5 (by decide) hg) bs6 (by decide) 5 _, Kd.R_set (Kd.R_over h.q3 h.r5 (by decide) hg) bs6 (by decide) 5 _, Kd.R_set (Kd.R_over h.q5 h.r5 (by decide) hg) bs6 (by decide) 5 _, (h.bl.grown hg hsz (fun k e => by have := hown k e; omega)).setCell (by show B ≤ B + 1 + 1; omega) _⟩
theorem MI.push_q2 {B : Nat} {w0 wr w6 : World} {v2 v3 v5 u2 u3 u5 : Value} {L : List S111} {I : List S100} {O : List S116} {L1 : List S112} {I1 : List S101} {O1 : List S117} (h : MI B w0 wr v2 v3 v5 u2 u3 u5 L I O L1 I1 O1) {v1 : Value} {X : List S112} (hR : Kd.R k112 112 w6 (B + 4) (fun _ => True) v1 X) (hg : wr.grownBy w6 u2.ownBlock) : MI B w0 (w6.setCell ⟨B + 1 + 1 + 1, 2, none⟩ v1) v2 v3 v5 v1 u3 u5 L I O X I1 O1 := by
  have hown : ∀ k, u2.ownBlock = some k → B + 4 ≤ k := fun k hk => Kd.R_base h.q2 k hk
  have bs6 := blk_grown h.bs hg (fun e => by have := hown _ e.symm; omega)
  have bt6 := blk_grown h.bt hg (fun e => by have := hown _ e.symm; omega)
  have b66 := blk_grown h.b6 hg (fun e => by have := hown _ e.symm; omega)
  have b76 := blk_grown h.b7 hg (fun e => by have := hown _ e.symm; omega)
  have hsz : B ≤ wr.heap.size := by have := h.size; omega
  exact ⟨blk_far bs6 (by show _ ≠ B + 1 + 1 + 1; omega) _, blk_put bt6 2 v1 rfl, blk_far b66 (by show _ ≠ B + 1 + 1 + 1; omega) _, blk_far b76 (by show _ ≠ B + 1 + 1 + 1; omega) _, Kd.R_set (Kd.R_over h.r2 h.q2 (by decide) hg) bt6 (by decide) 2 _, Kd.R_set (Kd.R_over h.r3 h.q2 (by decide) hg) bt6 (by decide) 2 _, Kd.R_set (Kd.R_over h.r5 h.q2 (by decide) hg) bt6 (by decide) 2 _, Kd.R_set hR bt6 (by decide) 2 _, Kd.R_set (Kd.R_over h.q3 h.q2 (by decide) hg) bt6 (by decide) 2 _, Kd.R_set (Kd.R_over h.q5 h.q2 (by decide) hg) bt6 (by decide) 2 _, (h.bl.grown hg hsz (fun k e => by have := hown k e; omega)).setCell (by show B ≤ B + 1 + 1 + 1; omega) _⟩
theorem MI.push_q3 {B : Nat} {w0 wr w6 : World} {v2 v3 v5 u2 u3 u5 : Value} {L : List S111} {I : List S100} {O : List S116} {L1 : List S112} {I1 : List S101} {O1 : List S117} (h : MI B w0 wr v2 v3 v5 u2 u3 u5 L I O L1 I1 O1) {v1 : Value} {X : List S101} (hR : Kd.R k101 101 w6 (B + 4) (fun _ => True) v1 X) (hg : wr.grownBy w6 u3.ownBlock) : MI B w0 (w6.setCell ⟨B + 1 + 1 + 1, 3, none⟩ v1) v2 v3 v5 u2 v1 u5 L I O L1 X O1 := by
  have hown : ∀ k, u3.ownBlock = some k → B + 4 ≤ k := fun k hk => Kd.R_base h.q3 k hk
  have bs6 := blk_grown h.bs hg (fun e => by have := hown _ e.symm; omega)
  have bt6 := blk_grown h.bt hg (fun e => by have := hown _ e.symm; omega)
  have b66 := blk_grown h.b6 hg (fun e => by have := hown _ e.symm; omega)
  have b76 := blk_grown h.b7 hg (fun e => by have := hown _ e.symm; omega)
  have hsz : B ≤ wr.heap.size := by have := h.size; omega
  exact ⟨blk_far bs6 (by show _ ≠ B + 1 + 1 + 1; omega) _, blk_put bt6 3 v1 rfl, blk_far b66 (by show _ ≠ B + 1 + 1 + 1; omega) _, blk_far b76 (by show _ ≠ B + 1 + 1 + 1; omega) _, Kd.R_set (Kd.R_over h.r2 h.q3 (by decide) hg) bt6 (by decide) 3 _, Kd.R_set (Kd.R_over h.r3 h.q3 (by decide) hg) bt6 (by decide) 3 _, Kd.R_set (Kd.R_over h.r5 h.q3 (by decide) hg) bt6 (by decide) 3 _, Kd.R_set (Kd.R_over h.q2 h.q3 (by decide) hg) bt6 (by decide) 3 _, Kd.R_set hR bt6 (by decide) 3 _, Kd.R_set (Kd.R_over h.q5 h.q3 (by decide) hg) bt6 (by decide) 3 _, (h.bl.grown hg hsz (fun k e => by have := hown k e; omega)).setCell (by show B ≤ B + 1 + 1 + 1; omega) _⟩
theorem MI.push_q5 {B : Nat} {w0 wr w6 : World} {v2 v3 v5 u2 u3 u5 : Value} {L : List S111} {I : List S100} {O : List S116} {L1 : List S112} {I1 : List S101} {O1 : List S117} (h : MI B w0 wr v2 v3 v5 u2 u3 u5 L I O L1 I1 O1) {v1 : Value} {X : List S117} (hR : Kd.R k117 117 w6 (B + 4) (fun _ => True) v1 X) (hg : wr.grownBy w6 u5.ownBlock) : MI B w0 (w6.setCell ⟨B + 1 + 1 + 1, 5, none⟩ v1) v2 v3 v5 u2 u3 v1 L I O L1 I1 X := by
  have hown : ∀ k, u5.ownBlock = some k → B + 4 ≤ k := fun k hk => Kd.R_base h.q5 k hk
  have bs6 := blk_grown h.bs hg (fun e => by have := hown _ e.symm; omega)
  have bt6 := blk_grown h.bt hg (fun e => by have := hown _ e.symm; omega)
  have b66 := blk_grown h.b6 hg (fun e => by have := hown _ e.symm; omega)
  have b76 := blk_grown h.b7 hg (fun e => by have := hown _ e.symm; omega)
  have hsz : B ≤ wr.heap.size := by have := h.size; omega
  exact ⟨blk_far bs6 (by show _ ≠ B + 1 + 1 + 1; omega) _, blk_put bt6 5 v1 rfl, blk_far b66 (by show _ ≠ B + 1 + 1 + 1; omega) _, blk_far b76 (by show _ ≠ B + 1 + 1 + 1; omega) _, Kd.R_set (Kd.R_over h.r2 h.q5 (by decide) hg) bt6 (by decide) 5 _, Kd.R_set (Kd.R_over h.r3 h.q5 (by decide) hg) bt6 (by decide) 5 _, Kd.R_set (Kd.R_over h.r5 h.q5 (by decide) hg) bt6 (by decide) 5 _, Kd.R_set (Kd.R_over h.q2 h.q5 (by decide) hg) bt6 (by decide) 5 _, Kd.R_set (Kd.R_over h.q3 h.q5 (by decide) hg) bt6 (by decide) 5 _, Kd.R_set hR bt6 (by decide) 5 _, (h.bl.grown hg hsz (fun k e => by have := hown k e; omega)).setCell (by show B ≤ B + 1 + 1 + 1; omega) _⟩

theorem Addr.block_add (p : Addr) (j : Nat) : (p.add j).block = p.block := by unfold Addr.add; split <;> rfl
def boardOf (s : S87) (i : Int) : S97 := ⟨⟨#[]⟩, ⟨#[]⟩, ⟨#[]⟩, s.f0, ⟨⟨0, 0⟩, ⟨0, 0⟩, ⟨i, wrap64 (i + mx 0 (mn s.f1 1073741824))⟩⟩, wrap64 s.f3, [], 0, ⟨0, 0, 0⟩, false, s.f2⟩
def itemOf (s : S87) (i : Int) : S100 := ⟨boardOf s i, s.f4, ⟨#[]⟩, ⟨#[]⟩, ⟨#[]⟩⟩
def itemOf1 (s : S87) (i : Int) : S101 := ⟨boardOf s i, s.f4, ⟨#[]⟩, ⟨#[]⟩, ⟨#[]⟩⟩
def logOf (s : S47) : S111 := ⟨⟨#[]⟩, ⟨#[]⟩, s.f0, 0, false, s.f1, ⟨[], []⟩, 0, ⟨⟨⟨0, 0⟩, ⟨0, 0⟩⟩, []⟩, s.f2⟩
def logOf1 (s : S47) : S112 := ⟨⟨#[]⟩, ⟨#[]⟩, s.f0, 0, false, s.f1, ⟨[], []⟩, 0, ⟨⟨⟨0, 0⟩, ⟨0, 0⟩⟩, []⟩, s.f2⟩
def ordOf (s : S55) : S116 := ⟨⟨⟨#[]⟩, ⟨#[]⟩, 0, 0, 0, 0, 0, 0, 0, 0, s.f0⟩, s.f1⟩
def ordOf1 (s : S55) : S117 := ⟨⟨⟨#[]⟩, ⟨#[]⟩, 0, 0, 0, 0, 0, 0, 0, 0, s.f0⟩, s.f1⟩
theorem info32 : (Tryd.prog.info? 32).map (fun i => (i.zero, i.size, i.bytes)) = some (some (.agg #[.int .i64 0, .slice none 0 0, .slice none 0 0, .slice none 0 0, .slice none 0 0, .slice none 0 0, .int .i64 0, .int .i64 0, .slice none 0 0, .slice none 0 0]), 10, 192) := by kernel_rfl
theorem info38 : (Tryd.prog.info? 38).map (fun i => (i.zero, i.size, i.bytes)) = some (some (.agg #[.int .i64 0, .slice none 0 0, .slice none 0 0, .slice none 0 0, .slice none 0 0, .slice none 0 0, .int .i64 0, .int .i64 0, .slice none 0 0, .slice none 0 0]), 10, 192) := by kernel_rfl
end Go.Proofs.YtnhflmihjegaiaaDoor
