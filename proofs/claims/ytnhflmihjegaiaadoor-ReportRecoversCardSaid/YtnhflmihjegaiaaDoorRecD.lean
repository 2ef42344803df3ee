/- The reference's Recovery, whatever the memory. (gen_recd.py) -/
import Derived.Test.YtnhflmihjegaiaaDoorRecB
import Derived.Test.YtnhflmihjegaiaaDoorRecC
import Derived.Test.YtnhflmihjegaiaaDoorMillE
namespace Go.Proofs.YtnhflmihjegaiaaDoor
open Go Go.Proofs Go.RowKit Go.Proofs.YtnhflmihjegaiaaDoorW.PrintWords P Reg
set_option linter.unusedSimpArgs false
set_option linter.unusedVariables false
set_option maxRecDepth 100000
set_option maxHeartbeats 4000000

theorem refAdd_any (a b : S42) (w : World) : Calls Tryd.prog 35 #[.agg #[.int .i64 a.f0, .int .i64 a.f1, .int .i64 a.f2, .int .i64 a.f3, .int .i64 a.f4], .agg #[.int .i64 b.f0, .int .i64 b.f1, .int .i64 b.f2, .int .i64 b.f3, .int .i64 b.f4]] w
    fun e w' => e = .returned (.tuple #[.agg #[.int .i64 (addY a b).1.f0, .int .i64 (addY a b).1.f1, .int .i64 (addY a b).1.f2, .int .i64 (addY a b).1.f3, .int .i64 (addY a b).1.f4], .int .i64 (addY a b).2]) ∧ Below w.heap.size w w' :=
  sawmillref22_Add.calls _ _ _ _ _ _ _ _ _ _ _ _ _ _ _ _ w (refAdd_some a b)
theorem refreg6 {Q : Exit → Act → World → Prop} (hQ : ∀ c (a : Act) d v w, Q (.panic c) (a.put d v) w → Q (.panic c) a w) (x0 x3 x5 x8 x9 x10 x11 x12 x13 x14 x15 x16 x17 x18 x19 x20 x21 x22 x23 x24 x25 x26 x27 x28 x29 x30 x31 x32 x33 x34 x35 x36 x37 x38 x39 x40 x41 x42 x43 x44 x45 x46 x47 x48 x49 x50 x51 x52 x53 x54 : Value) (wa : World) (sp : ByteArray) {B k len c2 : Nat} {ad p : Addr} (s g n : S42) (er : Int) {cs : Array Value}
    (hn : addY s g = (n, er)) (hb : wa.heap[B]? = some (.cells cs 38 (0, 0))) (hb2 : cs[2]? = some (.slice (some ad) len c2)) (hs : wa.heap[B + 1 + 1]? = some (.cells #[.int .i64 s.f0, .int .i64 s.f1, .int .i64 s.f2, .int .i64 s.f3, .int .i64 s.f4] 42 (0, 0)))
    (hk : k < len) (hp : ad.add (k * 19) = p) (hc : ∀ j v, ([.int .i64 g.f0, .int .i64 g.f1, .int .i64 g.f2, .int .i64 g.f3, .int .i64 g.f4] : List Value)[j]? = some v → wa.cell? ((p.add 14).add j) = some v)
    (hq : ∀ (nb : Nat) w, Below wa.heap.size wa w → w.heap[nb]? = some (.cells #[.int .i64 n.f0, .int .i64 n.f1, .int .i64 n.f2, .int .i64 n.f3, .int .i64 n.f4] 42 (0, 0)) → Q .normal ⟨#[x0, (.string sp), (.pointer (some ⟨B, 0, none⟩)), x3, (.pointer (some ⟨B + 1, 0, none⟩)), x5, (.pointer (some ⟨B + 1 + 1, 0, none⟩)), (.int .i64 (k : Int)), (.pointer (some ⟨nb, 0, none⟩)), (.int .i64 er), x10, x11, x12, x13, x14, x15, x16, x17, x18, x19, x20, x21, x22, x23, x24, x25, x26, x27, x28, x29, x30, x31, x32, x33, x34, x35, x36, x37, (.tuple #[.agg #[.int .i64 n.f0, .int .i64 n.f1, .int .i64 n.f2, .int .i64 n.f3, .int .i64 n.f4], .int .i64 er]), (.agg #[.int .i64 s.f0, .int .i64 s.f1, .int .i64 s.f2, .int .i64 s.f3, .int .i64 s.f4]), (.pointer (some ⟨B, 2, none⟩)), (.slice (some ad) len c2), (.int .i64 (k : Int)), (.pointer (some p)), (.pointer (some (p.add 14))), (.agg #[.int .i64 g.f0, .int .i64 g.f1, .int .i64 g.f2, .int .i64 g.f3, .int .i64 g.f4]), (.tuple #[.agg #[.int .i64 n.f0, .int .i64 n.f1, .int .i64 n.f2, .int .i64 n.f3, .int .i64 n.f4], .int .i64 er]), (.agg #[.int .i64 n.f0, .int .i64 n.f1, .int .i64 n.f2, .int .i64 n.f3, .int .i64 n.f4]), (.int .i64 er), x49, x50, x51, x52, x53, x54], []⟩ w) :
    wpAnyH Tryd.prog .any (R Tryd.f20 6) Q (Below wa.heap.size wa) 14 (L 14 0) ⟨#[x0, (.string sp), (.pointer (some ⟨B, 0, none⟩)), x3, (.pointer (some ⟨B + 1, 0, none⟩)), x5, (.pointer (some ⟨B + 1 + 1, 0, none⟩)), (.int .i64 (k : Int)), x8, x9, x10, x11, x12, x13, x14, x15, x16, x17, x18, x19, x20, x21, x22, x23, x24, x25, x26, x27, x28, x29, x30, x31, x32, x33, x34, x35, x36, x37, x38, x39, x40, x41, x42, x43, x44, x45, x46, x47, x48, x49, x50, x51, x52, x53, x54], []⟩ wa := by
  have b0 := Below.refl wa.heap.size wa
  refine RegH.take 0 39 (.agg #[.int .i64 s.f0, .int .i64 s.f1, .int .i64 s.f2, .int .i64 s.f3, .int .i64 s.f4]) hQ b0 (fun w b => loadR (s := 6) (by kernel_rfl) (by kernel_rfl) [.int .i64 s.f0, .int .i64 s.f1, .int .i64 s.f2, .int .i64 s.f3, .int .i64 s.f4] _ (row_cells (blk_below hs b)) Tryd.underlying42 rfl (by kernel_rfl)) ?_
  refine RegH.take 1 40 (.pointer (some ⟨B, 2, none⟩)) hQ b0 (fun _ _ => by kernel_rfl) ?_
  refine RegH.take 2 41 (.slice (some ad) len c2) hQ b0 (fun w b => load1 (s := 40) (by kernel_rfl) (by kernel_rfl) ((blk_cell (blk_below hb b) 2).trans hb2) Tryd.underlying33 rfl) ?_
  refine RegH.take 3 42 (.int .i64 (k : Int)) hQ b0 (fun _ _ => by kernel_rfl) ?_
  refine RegH.take 4 43 (.pointer (some p)) hQ b0 (fun _ _ => idxV (n := len) (c := c2) (ad := ad) (k := k) (s := 41) (i := 42) (sz := 19) (by kernel_rfl) (by kernel_rfl) (by kernel_rfl) Tryd.underlying33 (by kernel_rfl) hk hp) ?_
  refine RegH.take 5 44 (.pointer (some (p.add 14))) hQ b0 (fun _ _ => by kernel_rfl) ?_
  refine RegH.take 6 45 (.agg #[.int .i64 g.f0, .int .i64 g.f1, .int .i64 g.f2, .int .i64 g.f3, .int .i64 g.f4]) hQ b0 (fun w b => loadR (s := 44) (by kernel_rfl) (by kernel_rfl) [.int .i64 g.f0, .int .i64 g.f1, .int .i64 g.f2, .int .i64 g.f3, .int .i64 g.f4] _ (fun j v hv => (b.cell (World.block_lt_of_cell? _ _ (hc j v hv))).trans (hc j v hv)) Tryd.underlying42 rfl (by kernel_rfl)) ?_
  refine RegH.any2 7 11 ?_ ?_
  · refine enter 46 35 #[.agg #[.int .i64 s.f0, .int .i64 s.f1, .int .i64 s.f2, .int .i64 s.f3, .int .i64 s.f4], .agg #[.int .i64 g.f0, .int .i64 g.f1, .int .i64 g.f2, .int .i64 g.f3, .int .i64 g.f4]] ?_
    have hA := refAdd_any s g wa
    rw [hn] at hA
    refine hA.mono ?_
    rintro e w5 ⟨rfl, B5⟩
    refine ⟨_, rfl, B5, ?_⟩
    refine RegH.take 8 38 (.tuple #[.agg #[.int .i64 n.f0, .int .i64 n.f1, .int .i64 n.f2, .int .i64 n.f3, .int .i64 n.f4], .int .i64 er]) hQ B5 (fun _ _ => by kernel_rfl) ?_
    refine RegH.take 9 47 (.agg #[.int .i64 n.f0, .int .i64 n.f1, .int .i64 n.f2, .int .i64 n.f3, .int .i64 n.f4]) hQ B5 (fun _ _ => by kernel_rfl) ?_
    refine RegH.take 10 48 (.int .i64 er) hQ B5 (fun _ _ => by kernel_rfl) ?_
    have hsz := B5.size
    have B6 := B5.alloc hsz (.cells #[.int .i64 0, .int .i64 0, .int .i64 0, .int .i64 0, .int .i64 0] 42)
    refine RegH.any1 11 (value 8 (.pointer (some ⟨w5.heap.size, 0, none⟩)) (w' := w5.alloc (.cells #[.int .i64 0, .int .i64 0, .int .i64 0, .int .i64 0, .int .i64 0] 42)) ⟨B6, ?_⟩)
    have hb6 : (w5.alloc (.cells #[.int .i64 0, .int .i64 0, .int .i64 0, .int .i64 0, .int .i64 0] 42)).heap[w5.heap.size]? = some (.cells #[.int .i64 0, .int .i64 0, .int .i64 0, .int .i64 0, .int .i64 0] 42 (0, 0)) := blk_new _ _
    have B7 : Below wa.heap.size wa ((w5.alloc (.cells #[.int .i64 0, .int .i64 0, .int .i64 0, .int .i64 0, .int .i64 0] 42)).setRow w5.heap.size #[.int .i64 n.f0, .int .i64 n.f1, .int .i64 n.f2, .int .i64 n.f3, .int .i64 n.f4]) := below_setRow B6 hsz _
    refine RegH.any1 12 (RegH.skip (w' := (w5.alloc (.cells #[.int .i64 0, .int .i64 0, .int .i64 0, .int .i64 0, .int .i64 0] 42)).setRow w5.heap.size #[.int .i64 n.f0, .int .i64 n.f1, .int .i64 n.f2, .int .i64 n.f3, .int .i64 n.f4]) ⟨B7, ?_⟩ (hv := storeR (t := 42) (s := 8) (u := 47) (g := w5.heap.size) (by kernel_rfl) (by kernel_rfl) (by kernel_rfl) hb6 (by kernel_rfl) rfl (by simp [Value.oneCell'])))
    refine RegH.take 13 9 (.int .i64 er) hQ B7 (fun _ _ => by kernel_rfl) ?_
    exact RegH.same (l' := L 14 14) (wpAnyH_done (by kernel_rfl) (hq w5.heap.size _ B7 (setRow_heap _ _ _ _ _ _ hb6)) 0)
  · have hsz : wa.heap.size ≤ wa.heap.size := Nat.le_refl _
    have B6 := b0.alloc hsz (.cells #[.int .i64 0, .int .i64 0, .int .i64 0, .int .i64 0, .int .i64 0] 42)
    have hz : (wa.alloc (.cells #[.int .i64 0, .int .i64 0, .int .i64 0, .int .i64 0, .int .i64 0] 42)).heap.size = wa.heap.size + 1 := by simp [go_sem]
    have hb6 : (wa.alloc (.cells #[.int .i64 0, .int .i64 0, .int .i64 0, .int .i64 0, .int .i64 0] 42)).heap[wa.heap.size]? = some (.cells #[.int .i64 0, .int .i64 0, .int .i64 0, .int .i64 0, .int .i64 0] 42 (0, 0)) := blk_new _ _
    refine value 8 (.pointer (some ⟨wa.heap.size, 0, none⟩)) (w' := wa.alloc (.cells #[.int .i64 0, .int .i64 0, .int .i64 0, .int .i64 0, .int .i64 0] 42)) ⟨B6, ?_⟩
    generalize wa.alloc (.cells #[.int .i64 0, .int .i64 0, .int .i64 0, .int .i64 0, .int .i64 0] 42) = wb at *
    refine RegH.any1 7 (enter 46 35 #[.agg #[.int .i64 s.f0, .int .i64 s.f1, .int .i64 s.f2, .int .i64 s.f3, .int .i64 s.f4], .agg #[.int .i64 g.f0, .int .i64 g.f1, .int .i64 g.f2, .int .i64 g.f3, .int .i64 g.f4]] ?_)
    have hA := refAdd_any s g wb
    rw [hn] at hA
    refine hA.mono ?_
    rintro e w5 ⟨rfl, B5⟩
    have B8 : Below wa.heap.size wa w5 := B6.trans (B5.mono (by omega))
    refine ⟨_, rfl, B8, ?_⟩
    refine RegH.take 8 38 (.tuple #[.agg #[.int .i64 n.f0, .int .i64 n.f1, .int .i64 n.f2, .int .i64 n.f3, .int .i64 n.f4], .int .i64 er]) hQ B8 (fun _ _ => by kernel_rfl) ?_
    refine RegH.take 9 47 (.agg #[.int .i64 n.f0, .int .i64 n.f1, .int .i64 n.f2, .int .i64 n.f3, .int .i64 n.f4]) hQ B8 (fun _ _ => by kernel_rfl) ?_
    refine RegH.take 10 48 (.int .i64 er) hQ B8 (fun _ _ => by kernel_rfl) ?_
    have hb7 := blk_below hb6 B5
    have B7 : Below wa.heap.size wa (w5.setRow wa.heap.size #[.int .i64 n.f0, .int .i64 n.f1, .int .i64 n.f2, .int .i64 n.f3, .int .i64 n.f4]) := below_setRow B8 hsz _
    refine RegH.any1 12 (RegH.skip (w' := w5.setRow wa.heap.size #[.int .i64 n.f0, .int .i64 n.f1, .int .i64 n.f2, .int .i64 n.f3, .int .i64 n.f4]) ⟨B7, ?_⟩ (hv := storeR (t := 42) (s := 8) (u := 47) (g := wa.heap.size) (by kernel_rfl) (by kernel_rfl) (by kernel_rfl) hb7 (by kernel_rfl) rfl (by simp [Value.oneCell'])))
    refine RegH.take 13 9 (.int .i64 er) hQ B7 (fun _ _ => by kernel_rfl) ?_
    exact RegH.same (l' := L 14 14) (wpAnyH_done (by kernel_rfl) (hq wa.heap.size _ B7 (setRow_heap _ _ _ _ _ _ hb7)) 0)

structure RJ (w wr : World) (cs : Array Value) (s : S42) : Prop where
  b2 : wr.heap[w.heap.size]? = some (.cells cs 38 (0, 0))
  b4 : wr.heap[w.heap.size + 1]? = some (.cells #[.int .i64 0, .int .i64 0, .int .i64 0, .int .i64 0, .int .i64 0] 42 (0, 0))
  b6 : wr.heap[w.heap.size + 1 + 1]? = some (.cells #[.int .i64 s.f0, .int .i64 s.f1, .int .i64 s.f2, .int .i64 s.f3, .int .i64 s.f4] 42 (0, 0))
  bl : Below w.heap.size w wr
theorem RJ.below {w wr w1 : World} {cs : Array Value} {s : S42} (h : RJ w wr cs s) (hb : Below wr.heap.size wr w1) : RJ w w1 cs s := ⟨blk_below h.b2 hb, blk_below h.b4 hb, blk_below h.b6 hb, h.bl.trans (hb.mono h.bl.size)⟩
theorem RJ.start (w : World) (cs : Array Value) : RJ w (((w.alloc (.cells cs 38)).alloc (.cells #[.int .i64 0, .int .i64 0, .int .i64 0, .int .i64 0, .int .i64 0] 42)).alloc (.cells #[.int .i64 0, .int .i64 0, .int .i64 0, .int .i64 0, .int .i64 0] 42)) cs zeroY := by
  have s1 : (w.alloc (.cells cs 38)).heap.size = w.heap.size + 1 := by simp [go_sem]
  have s2 : ((w.alloc (.cells cs 38)).alloc (.cells #[.int .i64 0, .int .i64 0, .int .i64 0, .int .i64 0, .int .i64 0] 42)).heap.size = w.heap.size + 1 + 1 := by simp [go_sem]
  refine ⟨blk_alloc (blk_alloc (blk_new _ _) _) _, blk_alloc (by rw [← s1]; exact blk_new _ _) _, by rw [← s2]; exact blk_new _ _, (((Below.refl w.heap.size w).alloc (by omega) _).alloc (by omega) _).alloc (by omega) _⟩
def skipT (sp : ByteArray) (g : S112) : Bool := !g.f5 || (!sp.toList.isEmpty && !(g.f2.toList == sp.toList))
def recGoT (sp : ByteArray) : List S112 → S42 → S42 × Int
  | [], sum => (sum, 0)
  | g :: r, sum => if skipT sp g = true then recGoT sp r sum else if (addY sum g.f9).2 ≠ 0 then (zeroY, (addY sum g.f9).2) else recGoT sp r (addY sum g.f9).1
def recT (l : List S112) (sp : ByteArray) : S42 × Int := recGoT sp l zeroY
theorem recGoT_map (sp : ByteArray) : ∀ (l : List S47) (s : S42), recGoT sp (l.map logOf1) s = recGoS sp l s
  | [], s => rfl
  | g :: r, s => by
    simp only [List.map_cons, recGoT, recGoS]
    rw [recGoT_map sp r, recGoT_map sp r]
    rfl
theorem recT_map (sp : ByteArray) (l : List S47) : recT (l.map logOf1) sp = recS l sp := recGoT_map sp l zeroY
theorem recGoT_step (sp : ByteArray) (l : List S112) (k : Nat) (h : k < l.length) (sum : S42) : recGoT sp (l.drop k) sum = if skipT sp l[k] = true then recGoT sp (l.drop (k + 1)) sum else if (addY sum l[k].f9).2 ≠ 0 then (zeroY, (addY sum l[k].f9).2) else recGoT sp (l.drop (k + 1)) (addY sum l[k].f9).1 := by
  rw [List.drop_eq_getElem_cons h]
  rfl

theorem refRecovery_any (w : World) (a0 a6 a7 : Int) (sp : ByteArray) (A1 A2 A3 A4 A5 A8 A9 : Option Addr) (n1 n3 n4 n5 n8 n9 c1 c2 c3 c4 c5 c8 c9 : Nat) (l : List S112) (hC : Kd.C k112 w A2 l.length l) (hl : l.length ≤ 100000) :
    Calls Tryd.prog 20 #[.agg #[.int .i64 a0, .slice A1 n1 c1, .slice A2 l.length c2, .slice A3 n3 c3, .slice A4 n4 c4, .slice A5 n5 c5, .int .i64 a6, .int .i64 a7, .slice A8 n8 c8, .slice A9 n9 c9], .string sp] w fun e w' =>
      e = .returned (.tuple #[.agg #[.int .i64 (recT l sp).1.f0, .int .i64 (recT l sp).1.f1, .int .i64 (recT l sp).1.f2, .int .i64 (recT l sp).1.f3, .int .i64 (recT l sp).1.f4], .int .i64 (recT l sp).2]) ∧ Below w.heap.size w w' := by
  have hu38 := Tryd.underlying38
  have hu42 := Tryd.underlying42
  have hu112 := Tryd.underlying112
  have HS := Lib.hid (RJ.start w #[.int .i64 a0, .slice A1 n1 c1, .slice A2 l.length c2, .slice A3 n3 c3, .slice A4 n4 c4, .slice A5 n5 c5, .int .i64 a6, .int .i64 a7, .slice A8 n8 c8, .slice A9 n9 c9])
  go_enter Tryd.func20, Tryd.ntmps20
  go_wp2_with fail
  generalize (((w.alloc (.cells #[.int .i64 a0, .slice A1 n1 c1, .slice A2 l.length c2, .slice A3 n3 c3, .slice A4 n4 c4, .slice A5 n5 c5, .int .i64 a6, .int .i64 a7, .slice A8 n8 c8, .slice A9 n9 c9] 38)).alloc (.cells #[.int .i64 0, .int .i64 0, .int .i64 0, .int .i64 0, .int .i64 0] 42)).alloc (.cells #[.int .i64 0, .int .i64 0, .int .i64 0, .int .i64 0, .int .i64 0] 42)) = w0 at *
  have HC := Lib.hid hC
  have HR := Lib.hid (rfl : recT l sp = recGoT sp (l.drop 0) zeroY)
  clear hC
  go_loopw [7] (fun i wr => ∃ k : Nat, k ≤ l.length ∧ i = .int .i64 k ∧ ∃ s : S42, Hid (RJ w wr #[.int .i64 a0, .slice A1 n1 c1, .slice A2 l.length c2, .slice A3 n3 c3, .slice A4 n4 c4, .slice A5 n5 c5, .int .i64 a6, .int .i64 a7, .slice A8 n8 c8, .slice A9 n9 c9] s) ∧ Hid (recT l sp = recGoT sp (l.drop k) s)) (fun i _ => l.length - (intOf i).toNat)
  case atStart => exact ⟨0, Nat.zero_le _, rfl, zeroY, HS, HR⟩
  case round =>
    obtain ⟨k, hk, rfl, s, M, HF⟩ := hrel
    have z2 : wr.cell? ⟨w.heap.size, 2, none⟩ = some (.slice A2 l.length c2) := blk_cell M.out.b2 2
    by_cases hlt : k < l.length
    · obtain ⟨ad, cs, e0, hK, hcs⟩ := at_row (Kd.C_below HC.out M.out.bl) z112 k hlt
      subst e0
      obtain ⟨_, _, _, _, _, _, rfl, _⟩ := k112_open hK
      clear hK
      have HSC := Lib.hid (recGoT_step sp l k hlt s)
      generalize l[k] = g at *
      have x5 : wr.cell? ⟨(ad.add (k * 19)).block, (ad.add (k * 19)).off + 5, none⟩ = some (.bool g.f5) := hcs 5 _ rfl
      have x2 : wr.cell? ⟨(ad.add (k * 19)).block, (ad.add (k * 19)).off + 2, none⟩ = some (.string g.f2) := hcs 2 _ rfl
      have HY : Hid (∀ j v, ([.int .i64 g.f9.f0, .int .i64 g.f9.f1, .int .i64 g.f9.f2, .int .i64 g.f9.f3, .int .i64 g.f9.f4] : List Value)[j]? = some v → wr.drew.cell? (((ad.add (k * 19)).add 14).add j) = some v) := Lib.hid (fun j v hv => by rw [Addr.add_add]; exact hcs (14 + j) v (by match j with | 0 => exact hv | 1 => exact hv | 2 => exact hv | 3 => exact hv | 4 => exact hv | j + 5 => simp at hv))
      clear hcs
      obtain ⟨nx, hnx⟩ : ∃ nx, addY s g.f9 = nx := ⟨_, rfl⟩
      have HNX := Lib.hid hnx
      rw [hnx] at HSC
      clear hnx
      cases hf5 : g.f5 with
      | false =>
        rw [hf5] at x5
        have hsk := Lib.hid (show skipT sp g = true by unfold skipT; rw [hf5]; rfl)
        go_wp2_with fail
        go_roundw
        case rel => exact ⟨k + 1, by omega, by go_num, s, M, Lib.hid (by rw [HF.out, HSC.out, if_pos hsk.out])⟩
        case measure => simp [intOf]; omega
      | true =>
        rw [hf5] at x5
        by_cases hs1 : sp.toList = []
        ·
          have hsk := Lib.hid (show ¬ skipT sp g = true by unfold skipT; rw [hf5, hs1]; exact Bool.false_ne_true)
          go_wp2_with fail
          obtain ⟨n, er⟩ := nx
          refine wp_region_noPanic ?_
          refine RegH.start (S := Below wr.drew.heap.size wr.drew) (f := Tryd.f20) (k := 6) (n := 14) (a' := ⟨#[_, _, _, _, _, _, _, _, _, _, _, _, _, _, _, _, _, _, _, _, _, _, _, _, _, _, _, _, _, _, _, _, _, _, _, _, _, _, _, _, _, _, _, _, _, _, _, _, _, _, _, _, _, _, _], _⟩) (by kernel_rfl) (by kernel_rfl) (by kernel_rfl) rfl (by kernel_rfl) ?_
          refine refreg6 (fun _ _ _ _ _ h => h) _ _ _ _ _ _ _ _ _ _ _ _ _ _ _ _ _ _ _ _ _ _ _ _ _ _ _ _ _ _ _ _ _ _ _ _ _ _ _ _ _ _ _ _ _ _ _ _ _ _ _ sp (B := w.heap.size) (k := k) (len := l.length) (c2 := c2) (ad := ad) (p := ad.add (k * 19)) s g.f9 n er (cs := #[.int .i64 a0, .slice A1 n1 c1, .slice (some ad) l.length c2, .slice A3 n3 c3, .slice A4 n4 c4, .slice A5 n5 c5, .int .i64 a6, .int .i64 a7, .slice A8 n8 c8, .slice A9 n9 c9]) HNX.out ((M.out.below ((Below.refl _ _).drew)).b2) rfl ((M.out.below ((Below.refl _ _).drew)).b6) hlt rfl HY.out ?_
          intro nb w4 B4 hbk4
          refine NoPanic.normal ?_
          have M4 := Lib.hid ((M.out.below ((Below.refl _ _).drew)).below B4)
          have hsz3 := M4.out.bl.size
          have hbk4 := Lib.hid hbk4
          have q0 : w4.cell? ⟨nb, 0, none⟩ = some (.int .i64 n.f0) := blk_cell hbk4.out 0
          have q1 : w4.cell? ⟨nb, 1, none⟩ = some (.int .i64 n.f1) := blk_cell hbk4.out 1
          have q2 : w4.cell? ⟨nb, 2, none⟩ = some (.int .i64 n.f2) := blk_cell hbk4.out 2
          have q3 : w4.cell? ⟨nb, 3, none⟩ = some (.int .i64 n.f3) := blk_cell hbk4.out 3
          have q4 : w4.cell? ⟨nb, 4, none⟩ = some (.int .i64 n.f4) := blk_cell hbk4.out 4
          clear M B4 z2 x5 x2 HY HNX
          by_cases he : er = 0
          · have HE := Lib.hid he
            have he2 : (er != 0) = false := by simp [he]
            clear he
            go_wp2_with (first
              | (refine row_event (t := 42) (s := 6) (u := 53) rfl rfl rfl rfl rfl M4.out.b6 (by kernel_rfl) rfl (by simp [Value.oneCell']) ?_; intro w5 h5 hne5 hbl5 hz5; have M5 : Hid (RJ w w5 _ n) := Lib.hid ⟨(hne5 _ (by omega)).trans M4.out.b2, (hne5 _ (by omega)).trans M4.out.b4, h5, hbl5 _ _ M4.out.bl (by omega)⟩; clear M4 h5 hne5 hbl5 hz5))
            go_roundw
            case rel => exact ⟨k + 1, by omega, by go_num, n, M5, Lib.hid (by rw [HF.out, HSC.out, if_neg hsk.out, if_neg (fun h => h HE.out)])⟩
            case measure => simp [intOf]; omega
          · have HE := Lib.hid he
            have he2 : (er != 0) = true := by simp [he]
            clear he
            go_wp2_with (first
              | (refine row_event (t := 42) (s := 4) (u := 51) rfl rfl rfl rfl rfl M4.out.b4 (by kernel_rfl) rfl (by simp [Value.oneCell']) ?_; intro w5 h5 hne5 hbl5 hz5; have H5 := Lib.hid h5; have HB5 := Lib.hid (hbl5 _ _ M4.out.bl (by omega)); clear M4 h5 hne5 hbl5 hz5))
            refine bodyPost_ret (results_ct rfl _ _ (w.heap.size + 1) 42 _ (0, 0) _ rfl H5.out Tryd.underlying42 rfl (by kernel_rfl)) rfl ?_
            exact ⟨by rw [HF.out, HSC.out, if_neg hsk.out, if_pos HE.out]; rfl, HB5.out⟩
        · have hs1' : sp.toList.isEmpty = false := by cases h : sp.toList with | nil => exact absurd h hs1 | cons a b => rfl
          by_cases hs2 : g.f2.toList = sp.toList
          · have hs2' : (g.f2.toList == sp.toList) = true := beq_iff_eq.mpr hs2
            have hsk := Lib.hid (show ¬ skipT sp g = true by unfold skipT; simp [hf5, hs1, hs2])
            go_wp2_with fail
            obtain ⟨n, er⟩ := nx
            refine wp_region_noPanic ?_
            refine RegH.start (S := Below wr.drew.heap.size wr.drew) (f := Tryd.f20) (k := 6) (n := 14) (a' := ⟨#[_, _, _, _, _, _, _, _, _, _, _, _, _, _, _, _, _, _, _, _, _, _, _, _, _, _, _, _, _, _, _, _, _, _, _, _, _, _, _, _, _, _, _, _, _, _, _, _, _, _, _, _, _, _, _], _⟩) (by kernel_rfl) (by kernel_rfl) (by kernel_rfl) rfl (by kernel_rfl) ?_
            refine refreg6 (fun _ _ _ _ _ h => h) _ _ _ _ _ _ _ _ _ _ _ _ _ _ _ _ _ _ _ _ _ _ _ _ _ _ _ _ _ _ _ _ _ _ _ _ _ _ _ _ _ _ _ _ _ _ _ _ _ _ _ sp (B := w.heap.size) (k := k) (len := l.length) (c2 := c2) (ad := ad) (p := ad.add (k * 19)) s g.f9 n er (cs := #[.int .i64 a0, .slice A1 n1 c1, .slice (some ad) l.length c2, .slice A3 n3 c3, .slice A4 n4 c4, .slice A5 n5 c5, .int .i64 a6, .int .i64 a7, .slice A8 n8 c8, .slice A9 n9 c9]) HNX.out ((M.out.below ((Below.refl _ _).drew)).b2) rfl ((M.out.below ((Below.refl _ _).drew)).b6) hlt rfl HY.out ?_
            intro nb w4 B4 hbk4
            refine NoPanic.normal ?_
            have M4 := Lib.hid ((M.out.below ((Below.refl _ _).drew)).below B4)
            have hsz3 := M4.out.bl.size
            have hbk4 := Lib.hid hbk4
            have q0 : w4.cell? ⟨nb, 0, none⟩ = some (.int .i64 n.f0) := blk_cell hbk4.out 0
            have q1 : w4.cell? ⟨nb, 1, none⟩ = some (.int .i64 n.f1) := blk_cell hbk4.out 1
            have q2 : w4.cell? ⟨nb, 2, none⟩ = some (.int .i64 n.f2) := blk_cell hbk4.out 2
            have q3 : w4.cell? ⟨nb, 3, none⟩ = some (.int .i64 n.f3) := blk_cell hbk4.out 3
            have q4 : w4.cell? ⟨nb, 4, none⟩ = some (.int .i64 n.f4) := blk_cell hbk4.out 4
            clear M B4 z2 x5 x2 HY HNX
            by_cases he : er = 0
            · have HE := Lib.hid he
              have he2 : (er != 0) = false := by simp [he]
              clear he
              go_wp2_with (first
                | (refine row_event (t := 42) (s := 6) (u := 53) rfl rfl rfl rfl rfl M4.out.b6 (by kernel_rfl) rfl (by simp [Value.oneCell']) ?_; intro w5 h5 hne5 hbl5 hz5; have M5 : Hid (RJ w w5 _ n) := Lib.hid ⟨(hne5 _ (by omega)).trans M4.out.b2, (hne5 _ (by omega)).trans M4.out.b4, h5, hbl5 _ _ M4.out.bl (by omega)⟩; clear M4 h5 hne5 hbl5 hz5))
              go_roundw
              case rel => exact ⟨k + 1, by omega, by go_num, n, M5, Lib.hid (by rw [HF.out, HSC.out, if_neg hsk.out, if_neg (fun h => h HE.out)])⟩
              case measure => simp [intOf]; omega
            · have HE := Lib.hid he
              have he2 : (er != 0) = true := by simp [he]
              clear he
              go_wp2_with (first
                | (refine row_event (t := 42) (s := 4) (u := 51) rfl rfl rfl rfl rfl M4.out.b4 (by kernel_rfl) rfl (by simp [Value.oneCell']) ?_; intro w5 h5 hne5 hbl5 hz5; have H5 := Lib.hid h5; have HB5 := Lib.hid (hbl5 _ _ M4.out.bl (by omega)); clear M4 h5 hne5 hbl5 hz5))
              refine bodyPost_ret (results_ct rfl _ _ (w.heap.size + 1) 42 _ (0, 0) _ rfl H5.out Tryd.underlying42 rfl (by kernel_rfl)) rfl ?_
              exact ⟨by rw [HF.out, HSC.out, if_neg hsk.out, if_pos HE.out]; rfl, HB5.out⟩
          · have hs2' : (g.f2.toList == sp.toList) = false := beq_eq_false_iff_ne.mpr hs2
            have hsk := Lib.hid (show skipT sp g = true by unfold skipT; simp [hf5, hs1, hs2])
            go_wp2_with fail
            go_roundw
            case rel => exact ⟨k + 1, by omega, by go_num, s, M, Lib.hid (by rw [HF.out, HSC.out, if_pos hsk.out])⟩
            case measure => simp [intOf]; omega
    · have hkl : k = l.length := by omega
      subst hkl
      have t0 : wr.cell? ⟨w.heap.size + 1 + 1, 0, none⟩ = some (.int .i64 s.f0) := blk_cell M.out.b6 0
      have t1 : wr.cell? ⟨w.heap.size + 1 + 1, 1, none⟩ = some (.int .i64 s.f1) := blk_cell M.out.b6 1
      have t2 : wr.cell? ⟨w.heap.size + 1 + 1, 2, none⟩ = some (.int .i64 s.f2) := blk_cell M.out.b6 2
      have t3 : wr.cell? ⟨w.heap.size + 1 + 1, 3, none⟩ = some (.int .i64 s.f3) := blk_cell M.out.b6 3
      have t4 : wr.cell? ⟨w.heap.size + 1 + 1, 4, none⟩ = some (.int .i64 s.f4) := blk_cell M.out.b6 4
      have HF2 := Lib.hid (show recT l sp = (s, 0) by rw [HF.out, List.drop_length]; rfl)
      clear HF
      go_wp2_with (refine row_event (t := 42) (s := 4) (u := 54) rfl rfl rfl rfl rfl M.out.b4 (by kernel_rfl) rfl (by simp [Value.oneCell']) ?_; intro w5 h5 hne5 hbl5 hz5; have H5 := Lib.hid h5; have HB5 := Lib.hid (hbl5 _ _ M.out.bl (by omega)); clear M h5 hne5 hbl5 hz5)
      refine bodyPost_ret (results_ct rfl _ _ (w.heap.size + 1) 42 _ (0, 0) _ rfl H5.out Tryd.underlying42 rfl (by kernel_rfl)) rfl ?_
      exact ⟨by rw [HF2.out]; rfl, HB5.out⟩
#print axioms refRecovery_any
end Go.Proofs.YtnhflmihjegaiaaDoor
