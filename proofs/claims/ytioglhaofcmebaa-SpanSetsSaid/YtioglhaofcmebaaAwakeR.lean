/- The drawn region of the chapter's examples: in whatever order its operations come up, it ends with 'true'. -/
import Derived.Test.YtioglhaofcmebaaReg
import Derived.Test.YtioglhaofcmebaaExtB
namespace Go.Proofs.Ytioglhaofcmebaa.P.Ext
open Go Go.Proofs Go.RowKit Go.Proofs.YtioglhaofcmebaaW.PrintWords Go.Proofs.Ytioglhaofcmebaa Reg P
set_option linter.unusedVariables false
set_option maxRecDepth 100000
set_option maxHeartbeats 2000000

structure Inv (g gs : Nat) (w0 w : World) : Prop where
  HB : Below w0.heap.size w0 w
  C : SpC w (some ⟨g, 0, none⟩) la
  s0 : w.cell? ⟨gs, 0, none⟩ = some (.int .i64 5)
  s1 : w.cell? ⟨gs, 1, none⟩ = some (.int .i64 8)
theorem Inv.next {g gs : Nat} {w0 w w1 : World} (I : Inv g gs w0 w) (B : Below w.heap.size w w1) : Inv g gs w0 w1 :=
  ⟨I.HB.trans (B.mono I.HB.size), Kd.C_below I.C B, (B.cell (World.block_lt_of_cell? _ _ I.s0)).trans I.s0, (B.cell (World.block_lt_of_cell? _ _ I.s1)).trans I.s1⟩
theorem load75 {a : Act} {w : World} {gs : Nat} (ha : a.eval (.tmp 2) = .pointer (some ⟨gs, 0, none⟩)) (s0 : w.cell? ⟨gs, 0, none⟩ = some (.int .i64 5)) (s1 : w.cell? ⟨gs, 1, none⟩ = some (.int .i64 8)) :
    (execOp a.eval (O Try.f15 4 75)).run Try.prog w = .ok (.value (.agg #[.int .i64 5, .int .i64 8])) w := by
  have e : O Try.f15 4 75 = ⟨some 101, .load 23 (.tmp 2), 23, "law.go:15", #[⟨74, .guard⟩], some (74, true)⟩ := by kernel_rfl
  have hu23 := Try.underlying23
  rw [e]
  simp only [execOp, ha]
  go_simp

theorem c1 {Q : Exit → Act → World → Prop} (hQ : ∀ c (a : Act) d v w, Q (.panic c) (a.put d v) w → Q (.panic c) a w) (g gs : Nat) (x0 x4 x6 x7 x8 x9 x10 x11 x12 x13 x14 x15 x16 x17 x18 x19 x20 x21 x22 x23 x24 x25 : Value) (w0 : World)
    (C : SpC w0 (some ⟨g, 0, none⟩) la) (s0 : w0.cell? ⟨gs, 0, none⟩ = some (.int .i64 5)) (s1 : w0.cell? ⟨gs, 1, none⟩ = some (.int .i64 8))
    (hk : ∀ (w : World), Below w0.heap.size w0 w → wpAny Try.prog .any (R Try.f15 4) Q 76 (L 87 11) (F [x0, (.slice (some ⟨g, 0, none⟩) 5 5), (.pointer (some ⟨gs, 0, none⟩)), (.bool true), x4, (.bool false), x6, x7, x8, x9, x10, x11, x12, x13, x14, x15, x16, x17, x18, x19, x20, x21, x22, x23, x24, x25, (.agg #[(.int .i64 (-2)), (.int .i64 3)]), (.int .i64 5), (.bool true), (.bool true), (.agg #[(.int .i64 1), (.int .i64 5)]), (.agg #[(.int .i64 3), (.int .i64 9)]), (.agg #[(.int .i64 3), (.int .i64 5)]), (.agg #[(.int .i64 3), (.int .i64 5)]), (.bool true), (.bool true), (.bool true)] 112) w) :
    wpAny Try.prog .any (R Try.f15 4) Q 87 (L 87 0) (F [x0, (.slice (some ⟨g, 0, none⟩) 5 5), (.pointer (some ⟨gs, 0, none⟩)), (.bool true), x4, (.bool false), x6, x7, x8, x9, x10, x11, x12, x13, x14, x15, x16, x17, x18, x19, x20, x21, x22, x23, x24, x25] 112) w0 := by
  have I0 : Inv g gs w0 w0 := ⟨Below.refl w0.heap.size w0, C, s0, s1⟩
  refine take 0 26 (.agg #[(.int .i64 (-2)), (.int .i64 3)]) hQ ?_
  refine any1 1 ?_
  refine enter 27 11 #[(.agg #[(.int .i64 (-2)), (.int .i64 3)])] ?_
  refine (span_Len.calls (-2) 3 5 _ g3).mono ?_; rintro e w1 ⟨rfl, B⟩; refine ⟨_, rfl, ?_⟩
  have I2 := I0.next B; clear B
  refine take 2 28 (.bool true) hQ ?_
  refine take 3 29 (.bool true) hQ ?_
  refine take 4 30 (.agg #[(.int .i64 1), (.int .i64 5)]) hQ ?_
  refine take 5 31 (.agg #[(.int .i64 3), (.int .i64 9)]) hQ ?_
  refine take 7 33 (.agg #[(.int .i64 3), (.int .i64 5)]) hQ ?_
  refine any1 6 ?_
  refine enter 32 13 #[(.agg #[(.int .i64 1), (.int .i64 5)]), (.agg #[(.int .i64 3), (.int .i64 9)])] ?_
  refine (span_Meet.calls 1 5 3 9 3 5 _ g4).mono ?_; rintro e w3 ⟨rfl, B⟩; refine ⟨_, rfl, ?_⟩
  have I4 := I2.next B; clear B
  refine take 8 34 (.bool true) hQ ?_
  refine take 9 35 (.bool true) hQ ?_
  refine take 10 36 (.bool true) hQ ?_
  exact same (hk  w3 I4.HB)

theorem c2 {Q : Exit → Act → World → Prop} (hQ : ∀ c (a : Act) d v w, Q (.panic c) (a.put d v) w → Q (.panic c) a w) (g gs : Nat) (x0 x4 x6 x7 x8 x9 x10 x11 x12 x13 x14 x15 x16 x17 x18 x19 x20 x21 x22 x23 x24 x25 : Value) (w0 : World)
    (C : SpC w0 (some ⟨g, 0, none⟩) la) (s0 : w0.cell? ⟨gs, 0, none⟩ = some (.int .i64 5)) (s1 : w0.cell? ⟨gs, 1, none⟩ = some (.int .i64 8))
    (hk : ∀ (y38 y41 : Value) (w : World), Below w0.heap.size w0 w → wpAny Try.prog .any (R Try.f15 4) Q 68 (L 87 19) (F [x0, (.slice (some ⟨g, 0, none⟩) 5 5), (.pointer (some ⟨gs, 0, none⟩)), (.bool true), x4, (.bool false), x6, x7, x8, x9, x10, x11, x12, x13, x14, x15, x16, x17, x18, x19, x20, x21, x22, x23, x24, x25, (.agg #[(.int .i64 (-2)), (.int .i64 3)]), (.int .i64 5), (.bool true), (.bool true), (.agg #[(.int .i64 1), (.int .i64 5)]), (.agg #[(.int .i64 3), (.int .i64 9)]), (.agg #[(.int .i64 3), (.int .i64 5)]), (.agg #[(.int .i64 3), (.int .i64 5)]), (.bool true), (.bool true), (.bool true), (.slice (some ⟨g, 0, none⟩) 5 5), y38, (.agg #[(.int .i64 1), (.int .i64 4)]), (.agg #[(.int .i64 5), (.int .i64 9)]), y41, (.bool true), (.bool true), (.bool true)] 112) w) :
    wpAny Try.prog .any (R Try.f15 4) Q 76 (L 87 11) (F [x0, (.slice (some ⟨g, 0, none⟩) 5 5), (.pointer (some ⟨gs, 0, none⟩)), (.bool true), x4, (.bool false), x6, x7, x8, x9, x10, x11, x12, x13, x14, x15, x16, x17, x18, x19, x20, x21, x22, x23, x24, x25, (.agg #[(.int .i64 (-2)), (.int .i64 3)]), (.int .i64 5), (.bool true), (.bool true), (.agg #[(.int .i64 1), (.int .i64 5)]), (.agg #[(.int .i64 3), (.int .i64 9)]), (.agg #[(.int .i64 3), (.int .i64 5)]), (.agg #[(.int .i64 3), (.int .i64 5)]), (.bool true), (.bool true), (.bool true)] 112) w0 := by
  have I0 : Inv g gs w0 w0 := ⟨Below.refl w0.heap.size w0, C, s0, s1⟩
  refine take 11 37 (.slice (some ⟨g, 0, none⟩) 5 5) hQ ?_
  refine take 13 39 (.agg #[(.int .i64 1), (.int .i64 4)]) hQ ?_
  refine take 14 40 (.agg #[(.int .i64 5), (.int .i64 9)]) hQ ?_
  refine any2 12 15 ?_ ?_
  · refine enter 38 18 #[(.slice (some ⟨g, 0, none⟩) 5 5)] ?_
    refine (span_Canon.calls _ 5 la [⟨1, 4⟩, ⟨5, 9⟩] _ I0.C (by simp [la]) f3).mono ?_; rintro e w5 ⟨v, rfl, Rr, B⟩; obtain ⟨A5, c5, rfl, hl5, r5⟩ := Kd.R_reads Rr; clear Rr; refine ⟨_, rfl, ?_⟩
    have I6 := I0.next B; clear B
    refine any1 15 ?_
    refine value 41 (.slice (some ⟨w5.heap.size, 0, none⟩) 2 2) (w' := (w5.alloc (.cells #[.int .i64 1, .int .i64 4, .int .i64 5, .int .i64 9] 23))) ?_
    have B := (Below.refl w5.heap.size w5).alloc (Nat.le_refl _) (.cells #[.int .i64 1, .int .i64 4, .int .i64 5, .int .i64 9] 23)
    have I8 := I6.next B; have r38_8 := Kd.C_below r5 B; clear B
    have r41_7 := litS w5 [⟨1, 4⟩, ⟨5, 9⟩] #[.int .i64 1, .int .i64 4, .int .i64 5, .int .i64 9] rfl (by simp)
    refine any1 16 ?_
    refine enter 42 17 #[(.slice A5 2 c5), (.slice (some ⟨w5.heap.size, 0, none⟩) 2 2)] ?_
    refine (sawmillref03_Same.calls 100 A5 c5 [⟨1, 4⟩, ⟨5, 9⟩] (some ⟨w5.heap.size, 0, none⟩) 2 [⟨1, 4⟩, ⟨5, 9⟩] true _ r38_8 hl5 r41_7 (by simp) g5).mono ?_; rintro e w9 ⟨rfl, hD⟩; have B := hD.below; clear hD; refine ⟨_, rfl, ?_⟩
    have I10 := I8.next B; clear B
    refine take 17 43 (.bool true) hQ ?_
    refine take 18 44 (.bool true) hQ ?_
    exact same (hk (.slice A5 2 c5) (.slice (some ⟨w5.heap.size, 0, none⟩) 2 2) w9 I10.HB)
  · refine value 41 (.slice (some ⟨w0.heap.size, 0, none⟩) 2 2) (w' := (w0.alloc (.cells #[.int .i64 1, .int .i64 4, .int .i64 5, .int .i64 9] 23))) ?_
    have B := (Below.refl w0.heap.size w0).alloc (Nat.le_refl _) (.cells #[.int .i64 1, .int .i64 4, .int .i64 5, .int .i64 9] 23)
    have I12 := I0.next B; clear B
    have r41_11 := litS w0 [⟨1, 4⟩, ⟨5, 9⟩] #[.int .i64 1, .int .i64 4, .int .i64 5, .int .i64 9] rfl (by simp)
    refine any1 12 ?_
    refine enter 38 18 #[(.slice (some ⟨g, 0, none⟩) 5 5)] ?_
    refine (span_Canon.calls _ 5 la [⟨1, 4⟩, ⟨5, 9⟩] _ I12.C (by simp [la]) f3).mono ?_; rintro e w13 ⟨v, rfl, Rr, B⟩; obtain ⟨A13, c13, rfl, hl13, r13⟩ := Kd.R_reads Rr; clear Rr; refine ⟨_, rfl, ?_⟩
    have I14 := I12.next B; have r41_14 := Kd.C_below r41_11 B; clear B
    refine any1 16 ?_
    refine enter 42 17 #[(.slice A13 2 c13), (.slice (some ⟨w0.heap.size, 0, none⟩) 2 2)] ?_
    refine (sawmillref03_Same.calls 100 A13 c13 [⟨1, 4⟩, ⟨5, 9⟩] (some ⟨w0.heap.size, 0, none⟩) 2 [⟨1, 4⟩, ⟨5, 9⟩] true _ r13 hl13 r41_14 (by simp) g5).mono ?_; rintro e w15 ⟨rfl, hD⟩; have B := hD.below; clear hD; refine ⟨_, rfl, ?_⟩
    have I16 := I14.next B; clear B
    refine take 17 43 (.bool true) hQ ?_
    refine take 18 44 (.bool true) hQ ?_
    exact same (hk (.slice A13 2 c13) (.slice (some ⟨w0.heap.size, 0, none⟩) 2 2) w15 I16.HB)

theorem c3 {Q : Exit → Act → World → Prop} (hQ : ∀ c (a : Act) d v w, Q (.panic c) (a.put d v) w → Q (.panic c) a w) (g gs : Nat) (x0 x4 x6 x7 x8 x9 x10 x11 x12 x13 x14 x15 x16 x17 x18 x19 x20 x21 x22 x23 x24 x25 y38 y41 : Value) (w0 : World)
    (C : SpC w0 (some ⟨g, 0, none⟩) la) (s0 : w0.cell? ⟨gs, 0, none⟩ = some (.int .i64 5)) (s1 : w0.cell? ⟨gs, 1, none⟩ = some (.int .i64 8))
    (hk : ∀ (w : World), Below w0.heap.size w0 w → wpAny Try.prog .any (R Try.f15 4) Q 63 (L 87 24) (F [x0, (.slice (some ⟨g, 0, none⟩) 5 5), (.pointer (some ⟨gs, 0, none⟩)), (.bool true), x4, (.bool false), x6, x7, x8, x9, x10, x11, x12, x13, x14, x15, x16, x17, x18, x19, x20, x21, x22, x23, x24, x25, (.agg #[(.int .i64 (-2)), (.int .i64 3)]), (.int .i64 5), (.bool true), (.bool true), (.agg #[(.int .i64 1), (.int .i64 5)]), (.agg #[(.int .i64 3), (.int .i64 9)]), (.agg #[(.int .i64 3), (.int .i64 5)]), (.agg #[(.int .i64 3), (.int .i64 5)]), (.bool true), (.bool true), (.bool true), (.slice (some ⟨g, 0, none⟩) 5 5), y38, (.agg #[(.int .i64 1), (.int .i64 4)]), (.agg #[(.int .i64 5), (.int .i64 9)]), y41, (.bool true), (.bool true), (.bool true), (.slice (some ⟨g, 0, none⟩) 5 5), (.bool false), (.bool true), (.bool true), (.bool true)] 112) w) :
    wpAny Try.prog .any (R Try.f15 4) Q 68 (L 87 19) (F [x0, (.slice (some ⟨g, 0, none⟩) 5 5), (.pointer (some ⟨gs, 0, none⟩)), (.bool true), x4, (.bool false), x6, x7, x8, x9, x10, x11, x12, x13, x14, x15, x16, x17, x18, x19, x20, x21, x22, x23, x24, x25, (.agg #[(.int .i64 (-2)), (.int .i64 3)]), (.int .i64 5), (.bool true), (.bool true), (.agg #[(.int .i64 1), (.int .i64 5)]), (.agg #[(.int .i64 3), (.int .i64 9)]), (.agg #[(.int .i64 3), (.int .i64 5)]), (.agg #[(.int .i64 3), (.int .i64 5)]), (.bool true), (.bool true), (.bool true), (.slice (some ⟨g, 0, none⟩) 5 5), y38, (.agg #[(.int .i64 1), (.int .i64 4)]), (.agg #[(.int .i64 5), (.int .i64 9)]), y41, (.bool true), (.bool true), (.bool true)] 112) w0 := by
  have I0 : Inv g gs w0 w0 := ⟨Below.refl w0.heap.size w0, C, s0, s1⟩
  refine take 19 45 (.slice (some ⟨g, 0, none⟩) 5 5) hQ ?_
  refine any1 20 ?_
  refine enter 46 20 #[(.slice (some ⟨g, 0, none⟩) 5 5)] ?_
  refine (span_Is.calls 100 _ 5 la false _ I0.C (by simp [la]) g6).mono ?_; rintro e w17 ⟨rfl, B⟩; refine ⟨_, rfl, ?_⟩
  have I18 := I0.next B; clear B
  refine take 21 47 (.bool true) hQ ?_
  refine take 22 48 (.bool true) hQ ?_
  refine take 23 49 (.bool true) hQ ?_
  exact same (hk  w17 I18.HB)

theorem c4 {Q : Exit → Act → World → Prop} (hQ : ∀ c (a : Act) d v w, Q (.panic c) (a.put d v) w → Q (.panic c) a w) (g gs : Nat) (x0 x4 x6 x7 x8 x9 x10 x11 x12 x13 x14 x15 x16 x17 x18 x19 x20 x21 x22 x23 x24 x25 y38 y41 : Value) (w0 : World)
    (C : SpC w0 (some ⟨g, 0, none⟩) la) (s0 : w0.cell? ⟨gs, 0, none⟩ = some (.int .i64 5)) (s1 : w0.cell? ⟨gs, 1, none⟩ = some (.int .i64 8))
    (hk : ∀ (w : World), Below w0.heap.size w0 w → wpAny Try.prog .any (R Try.f15 4) Q 60 (L 87 27) (F [x0, (.slice (some ⟨g, 0, none⟩) 5 5), (.pointer (some ⟨gs, 0, none⟩)), (.bool true), x4, (.bool false), x6, x7, x8, x9, x10, x11, x12, x13, x14, x15, x16, x17, x18, x19, x20, x21, x22, x23, x24, x25, (.agg #[(.int .i64 (-2)), (.int .i64 3)]), (.int .i64 5), (.bool true), (.bool true), (.agg #[(.int .i64 1), (.int .i64 5)]), (.agg #[(.int .i64 3), (.int .i64 9)]), (.agg #[(.int .i64 3), (.int .i64 5)]), (.agg #[(.int .i64 3), (.int .i64 5)]), (.bool true), (.bool true), (.bool true), (.slice (some ⟨g, 0, none⟩) 5 5), y38, (.agg #[(.int .i64 1), (.int .i64 4)]), (.agg #[(.int .i64 5), (.int .i64 9)]), y41, (.bool true), (.bool true), (.bool true), (.slice (some ⟨g, 0, none⟩) 5 5), (.bool false), (.bool true), (.bool true), (.bool true), (.bool true), (.bool true), (.bool true)] 112) w) :
    wpAny Try.prog .any (R Try.f15 4) Q 63 (L 87 24) (F [x0, (.slice (some ⟨g, 0, none⟩) 5 5), (.pointer (some ⟨gs, 0, none⟩)), (.bool true), x4, (.bool false), x6, x7, x8, x9, x10, x11, x12, x13, x14, x15, x16, x17, x18, x19, x20, x21, x22, x23, x24, x25, (.agg #[(.int .i64 (-2)), (.int .i64 3)]), (.int .i64 5), (.bool true), (.bool true), (.agg #[(.int .i64 1), (.int .i64 5)]), (.agg #[(.int .i64 3), (.int .i64 9)]), (.agg #[(.int .i64 3), (.int .i64 5)]), (.agg #[(.int .i64 3), (.int .i64 5)]), (.bool true), (.bool true), (.bool true), (.slice (some ⟨g, 0, none⟩) 5 5), y38, (.agg #[(.int .i64 1), (.int .i64 4)]), (.agg #[(.int .i64 5), (.int .i64 9)]), y41, (.bool true), (.bool true), (.bool true), (.slice (some ⟨g, 0, none⟩) 5 5), (.bool false), (.bool true), (.bool true), (.bool true)] 112) w0 := by
  have I0 : Inv g gs w0 w0 := ⟨Below.refl w0.heap.size w0, C, s0, s1⟩
  refine any1 24 ?_
  refine enter 50 20 #[(.slice none 0 0)] ?_
  refine (span_Is.calls 100 none 0 [] true _ ⟨rfl, Nat.zero_le _, fun h => absurd h (Nat.lt_irrefl _)⟩ (Nat.le_refl _) g7).mono ?_; rintro e w19 ⟨rfl, B⟩; refine ⟨_, rfl, ?_⟩
  have I20 := I0.next B; clear B
  refine take 25 51 (.bool true) hQ ?_
  refine take 26 52 (.bool true) hQ ?_
  exact same (hk  w19 I20.HB)

theorem c5 {Q : Exit → Act → World → Prop} (hQ : ∀ c (a : Act) d v w, Q (.panic c) (a.put d v) w → Q (.panic c) a w) (g gs : Nat) (x0 x4 x6 x7 x8 x9 x10 x11 x12 x13 x14 x15 x16 x17 x18 x19 x20 x21 x22 x23 x24 x25 y38 y41 : Value) (w0 : World)
    (C : SpC w0 (some ⟨g, 0, none⟩) la) (s0 : w0.cell? ⟨gs, 0, none⟩ = some (.int .i64 5)) (s1 : w0.cell? ⟨gs, 1, none⟩ = some (.int .i64 8))
    (hk : ∀ (y54 y56 y57 y60 : Value) (w : World), Below w0.heap.size w0 w → wpAny Try.prog .any (R Try.f15 4) Q 49 (L 87 38) (F [x0, (.slice (some ⟨g, 0, none⟩) 5 5), (.pointer (some ⟨gs, 0, none⟩)), (.bool true), x4, (.bool false), x6, x7, x8, x9, x10, x11, x12, x13, x14, x15, x16, x17, x18, x19, x20, x21, x22, x23, x24, x25, (.agg #[(.int .i64 (-2)), (.int .i64 3)]), (.int .i64 5), (.bool true), (.bool true), (.agg #[(.int .i64 1), (.int .i64 5)]), (.agg #[(.int .i64 3), (.int .i64 9)]), (.agg #[(.int .i64 3), (.int .i64 5)]), (.agg #[(.int .i64 3), (.int .i64 5)]), (.bool true), (.bool true), (.bool true), (.slice (some ⟨g, 0, none⟩) 5 5), y38, (.agg #[(.int .i64 1), (.int .i64 4)]), (.agg #[(.int .i64 5), (.int .i64 9)]), y41, (.bool true), (.bool true), (.bool true), (.slice (some ⟨g, 0, none⟩) 5 5), (.bool false), (.bool true), (.bool true), (.bool true), (.bool true), (.bool true), (.bool true), (.agg #[(.int .i64 0), (.int .i64 10)]), y54, (.agg #[(.int .i64 3), (.int .i64 5)]), y56, y57, (.agg #[(.int .i64 0), (.int .i64 3)]), (.agg #[(.int .i64 5), (.int .i64 10)]), y60, (.bool true), (.bool true), (.bool true)] 112) w) :
    wpAny Try.prog .any (R Try.f15 4) Q 60 (L 87 27) (F [x0, (.slice (some ⟨g, 0, none⟩) 5 5), (.pointer (some ⟨gs, 0, none⟩)), (.bool true), x4, (.bool false), x6, x7, x8, x9, x10, x11, x12, x13, x14, x15, x16, x17, x18, x19, x20, x21, x22, x23, x24, x25, (.agg #[(.int .i64 (-2)), (.int .i64 3)]), (.int .i64 5), (.bool true), (.bool true), (.agg #[(.int .i64 1), (.int .i64 5)]), (.agg #[(.int .i64 3), (.int .i64 9)]), (.agg #[(.int .i64 3), (.int .i64 5)]), (.agg #[(.int .i64 3), (.int .i64 5)]), (.bool true), (.bool true), (.bool true), (.slice (some ⟨g, 0, none⟩) 5 5), y38, (.agg #[(.int .i64 1), (.int .i64 4)]), (.agg #[(.int .i64 5), (.int .i64 9)]), y41, (.bool true), (.bool true), (.bool true), (.slice (some ⟨g, 0, none⟩) 5 5), (.bool false), (.bool true), (.bool true), (.bool true), (.bool true), (.bool true), (.bool true)] 112) w0 := by
  have I0 : Inv g gs w0 w0 := ⟨Below.refl w0.heap.size w0, C, s0, s1⟩
  refine take 27 53 (.agg #[(.int .i64 0), (.int .i64 10)]) hQ ?_
  refine take 29 55 (.agg #[(.int .i64 3), (.int .i64 5)]) hQ ?_
  refine take 32 58 (.agg #[(.int .i64 0), (.int .i64 3)]) hQ ?_
  refine take 33 59 (.agg #[(.int .i64 5), (.int .i64 10)]) hQ ?_
  refine any3 28 30 34 ?_ ?_ ?_
  · refine value 54 (.slice (some ⟨w0.heap.size, 0, none⟩) 1 1) (w' := (w0.alloc (.cells #[.int .i64 0, .int .i64 10] 23))) ?_
    have B := (Below.refl w0.heap.size w0).alloc (Nat.le_refl _) (.cells #[.int .i64 0, .int .i64 10] 23)
    have I22 := I0.next B; clear B
    have r54_21 := litS w0 [⟨0, 10⟩] #[.int .i64 0, .int .i64 10] rfl (by simp)
    refine any2 30 34 ?_ ?_
    · refine value 56 (.slice (some ⟨(w0.alloc (.cells #[.int .i64 0, .int .i64 10] 23)).heap.size, 0, none⟩) 1 1) (w' := ((w0.alloc (.cells #[.int .i64 0, .int .i64 10] 23)).alloc (.cells #[.int .i64 3, .int .i64 5] 23))) ?_
      have B := (Below.refl (w0.alloc (.cells #[.int .i64 0, .int .i64 10] 23)).heap.size (w0.alloc (.cells #[.int .i64 0, .int .i64 10] 23))).alloc (Nat.le_refl _) (.cells #[.int .i64 3, .int .i64 5] 23)
      have I24 := I22.next B; have r54_24 := Kd.C_below r54_21 B; clear B
      have r56_23 := litS (w0.alloc (.cells #[.int .i64 0, .int .i64 10] 23)) [⟨3, 5⟩] #[.int .i64 3, .int .i64 5] rfl (by simp)
      refine any2 31 34 ?_ ?_
      · refine enter 57 26 #[(.slice (some ⟨w0.heap.size, 0, none⟩) 1 1), (.slice (some ⟨(w0.alloc (.cells #[.int .i64 0, .int .i64 10] 23)).heap.size, 0, none⟩) 1 1)] ?_
        refine (span_Minus.calls 100 (some ⟨w0.heap.size, 0, none⟩) 1 [⟨0, 10⟩] (some ⟨(w0.alloc (.cells #[.int .i64 0, .int .i64 10] 23)).heap.size, 0, none⟩) 1 [⟨3, 5⟩] [⟨0, 3⟩, ⟨5, 10⟩] _ r54_24 (by simp) r56_23 (by simp) g8).mono ?_; rintro e w25 ⟨v, rfl, Rr, B⟩; obtain ⟨A25, c25, rfl, hl25, r25⟩ := Kd.R_reads Rr; clear Rr; refine ⟨_, rfl, ?_⟩
        have I26 := I24.next B; clear B
        refine any1 34 ?_
        refine value 60 (.slice (some ⟨w25.heap.size, 0, none⟩) 2 2) (w' := (w25.alloc (.cells #[.int .i64 0, .int .i64 3, .int .i64 5, .int .i64 10] 23))) ?_
        have B := (Below.refl w25.heap.size w25).alloc (Nat.le_refl _) (.cells #[.int .i64 0, .int .i64 3, .int .i64 5, .int .i64 10] 23)
        have I28 := I26.next B; have r57_28 := Kd.C_below r25 B; clear B
        have r60_27 := litS w25 [⟨0, 3⟩, ⟨5, 10⟩] #[.int .i64 0, .int .i64 3, .int .i64 5, .int .i64 10] rfl (by simp)
        refine any1 35 ?_
        refine enter 61 17 #[(.slice A25 2 c25), (.slice (some ⟨w25.heap.size, 0, none⟩) 2 2)] ?_
        refine (sawmillref03_Same.calls 100 A25 c25 [⟨0, 3⟩, ⟨5, 10⟩] (some ⟨w25.heap.size, 0, none⟩) 2 [⟨0, 3⟩, ⟨5, 10⟩] true _ r57_28 hl25 r60_27 (by simp) g9).mono ?_; rintro e w29 ⟨rfl, hD⟩; have B := hD.below; clear hD; refine ⟨_, rfl, ?_⟩
        have I30 := I28.next B; clear B
        refine take 36 62 (.bool true) hQ ?_
        refine take 37 63 (.bool true) hQ ?_
        exact same (hk (.slice (some ⟨w0.heap.size, 0, none⟩) 1 1) (.slice (some ⟨(w0.alloc (.cells #[.int .i64 0, .int .i64 10] 23)).heap.size, 0, none⟩) 1 1) (.slice A25 2 c25) (.slice (some ⟨w25.heap.size, 0, none⟩) 2 2) w29 I30.HB)
      · refine value 60 (.slice (some ⟨((w0.alloc (.cells #[.int .i64 0, .int .i64 10] 23)).alloc (.cells #[.int .i64 3, .int .i64 5] 23)).heap.size, 0, none⟩) 2 2) (w' := (((w0.alloc (.cells #[.int .i64 0, .int .i64 10] 23)).alloc (.cells #[.int .i64 3, .int .i64 5] 23)).alloc (.cells #[.int .i64 0, .int .i64 3, .int .i64 5, .int .i64 10] 23))) ?_
        have B := (Below.refl ((w0.alloc (.cells #[.int .i64 0, .int .i64 10] 23)).alloc (.cells #[.int .i64 3, .int .i64 5] 23)).heap.size ((w0.alloc (.cells #[.int .i64 0, .int .i64 10] 23)).alloc (.cells #[.int .i64 3, .int .i64 5] 23))).alloc (Nat.le_refl _) (.cells #[.int .i64 0, .int .i64 3, .int .i64 5, .int .i64 10] 23)
        have I32 := I24.next B; have r54_32 := Kd.C_below r54_24 B; have r56_32 := Kd.C_below r56_23 B; clear B
        have r60_31 := litS ((w0.alloc (.cells #[.int .i64 0, .int .i64 10] 23)).alloc (.cells #[.int .i64 3, .int .i64 5] 23)) [⟨0, 3⟩, ⟨5, 10⟩] #[.int .i64 0, .int .i64 3, .int .i64 5, .int .i64 10] rfl (by simp)
        refine any1 31 ?_
        refine enter 57 26 #[(.slice (some ⟨w0.heap.size, 0, none⟩) 1 1), (.slice (some ⟨(w0.alloc (.cells #[.int .i64 0, .int .i64 10] 23)).heap.size, 0, none⟩) 1 1)] ?_
        refine (span_Minus.calls 100 (some ⟨w0.heap.size, 0, none⟩) 1 [⟨0, 10⟩] (some ⟨(w0.alloc (.cells #[.int .i64 0, .int .i64 10] 23)).heap.size, 0, none⟩) 1 [⟨3, 5⟩] [⟨0, 3⟩, ⟨5, 10⟩] _ r54_32 (by simp) r56_32 (by simp) g8).mono ?_; rintro e w33 ⟨v, rfl, Rr, B⟩; obtain ⟨A33, c33, rfl, hl33, r33⟩ := Kd.R_reads Rr; clear Rr; refine ⟨_, rfl, ?_⟩
        have I34 := I32.next B; have r60_34 := Kd.C_below r60_31 B; clear B
        refine any1 35 ?_
        refine enter 61 17 #[(.slice A33 2 c33), (.slice (some ⟨((w0.alloc (.cells #[.int .i64 0, .int .i64 10] 23)).alloc (.cells #[.int .i64 3, .int .i64 5] 23)).heap.size, 0, none⟩) 2 2)] ?_
        refine (sawmillref03_Same.calls 100 A33 c33 [⟨0, 3⟩, ⟨5, 10⟩] (some ⟨((w0.alloc (.cells #[.int .i64 0, .int .i64 10] 23)).alloc (.cells #[.int .i64 3, .int .i64 5] 23)).heap.size, 0, none⟩) 2 [⟨0, 3⟩, ⟨5, 10⟩] true _ r33 hl33 r60_34 (by simp) g9).mono ?_; rintro e w35 ⟨rfl, hD⟩; have B := hD.below; clear hD; refine ⟨_, rfl, ?_⟩
        have I36 := I34.next B; clear B
        refine take 36 62 (.bool true) hQ ?_
        refine take 37 63 (.bool true) hQ ?_
        exact same (hk (.slice (some ⟨w0.heap.size, 0, none⟩) 1 1) (.slice (some ⟨(w0.alloc (.cells #[.int .i64 0, .int .i64 10] 23)).heap.size, 0, none⟩) 1 1) (.slice A33 2 c33) (.slice (some ⟨((w0.alloc (.cells #[.int .i64 0, .int .i64 10] 23)).alloc (.cells #[.int .i64 3, .int .i64 5] 23)).heap.size, 0, none⟩) 2 2) w35 I36.HB)
    · refine value 60 (.slice (some ⟨(w0.alloc (.cells #[.int .i64 0, .int .i64 10] 23)).heap.size, 0, none⟩) 2 2) (w' := ((w0.alloc (.cells #[.int .i64 0, .int .i64 10] 23)).alloc (.cells #[.int .i64 0, .int .i64 3, .int .i64 5, .int .i64 10] 23))) ?_
      have B := (Below.refl (w0.alloc (.cells #[.int .i64 0, .int .i64 10] 23)).heap.size (w0.alloc (.cells #[.int .i64 0, .int .i64 10] 23))).alloc (Nat.le_refl _) (.cells #[.int .i64 0, .int .i64 3, .int .i64 5, .int .i64 10] 23)
      have I38 := I22.next B; have r54_38 := Kd.C_below r54_21 B; clear B
      have r60_37 := litS (w0.alloc (.cells #[.int .i64 0, .int .i64 10] 23)) [⟨0, 3⟩, ⟨5, 10⟩] #[.int .i64 0, .int .i64 3, .int .i64 5, .int .i64 10] rfl (by simp)
      refine any1 30 ?_
      refine value 56 (.slice (some ⟨((w0.alloc (.cells #[.int .i64 0, .int .i64 10] 23)).alloc (.cells #[.int .i64 0, .int .i64 3, .int .i64 5, .int .i64 10] 23)).heap.size, 0, none⟩) 1 1) (w' := (((w0.alloc (.cells #[.int .i64 0, .int .i64 10] 23)).alloc (.cells #[.int .i64 0, .int .i64 3, .int .i64 5, .int .i64 10] 23)).alloc (.cells #[.int .i64 3, .int .i64 5] 23))) ?_
      have B := (Below.refl ((w0.alloc (.cells #[.int .i64 0, .int .i64 10] 23)).alloc (.cells #[.int .i64 0, .int .i64 3, .int .i64 5, .int .i64 10] 23)).heap.size ((w0.alloc (.cells #[.int .i64 0, .int .i64 10] 23)).alloc (.cells #[.int .i64 0, .int .i64 3, .int .i64 5, .int .i64 10] 23))).alloc (Nat.le_refl _) (.cells #[.int .i64 3, .int .i64 5] 23)
      have I40 := I38.next B; have r54_40 := Kd.C_below r54_38 B; have r60_40 := Kd.C_below r60_37 B; clear B
      have r56_39 := litS ((w0.alloc (.cells #[.int .i64 0, .int .i64 10] 23)).alloc (.cells #[.int .i64 0, .int .i64 3, .int .i64 5, .int .i64 10] 23)) [⟨3, 5⟩] #[.int .i64 3, .int .i64 5] rfl (by simp)
      refine any1 31 ?_
      refine enter 57 26 #[(.slice (some ⟨w0.heap.size, 0, none⟩) 1 1), (.slice (some ⟨((w0.alloc (.cells #[.int .i64 0, .int .i64 10] 23)).alloc (.cells #[.int .i64 0, .int .i64 3, .int .i64 5, .int .i64 10] 23)).heap.size, 0, none⟩) 1 1)] ?_
      refine (span_Minus.calls 100 (some ⟨w0.heap.size, 0, none⟩) 1 [⟨0, 10⟩] (some ⟨((w0.alloc (.cells #[.int .i64 0, .int .i64 10] 23)).alloc (.cells #[.int .i64 0, .int .i64 3, .int .i64 5, .int .i64 10] 23)).heap.size, 0, none⟩) 1 [⟨3, 5⟩] [⟨0, 3⟩, ⟨5, 10⟩] _ r54_40 (by simp) r56_39 (by simp) g8).mono ?_; rintro e w41 ⟨v, rfl, Rr, B⟩; obtain ⟨A41, c41, rfl, hl41, r41⟩ := Kd.R_reads Rr; clear Rr; refine ⟨_, rfl, ?_⟩
      have I42 := I40.next B; have r60_42 := Kd.C_below r60_40 B; clear B
      refine any1 35 ?_
      refine enter 61 17 #[(.slice A41 2 c41), (.slice (some ⟨(w0.alloc (.cells #[.int .i64 0, .int .i64 10] 23)).heap.size, 0, none⟩) 2 2)] ?_
      refine (sawmillref03_Same.calls 100 A41 c41 [⟨0, 3⟩, ⟨5, 10⟩] (some ⟨(w0.alloc (.cells #[.int .i64 0, .int .i64 10] 23)).heap.size, 0, none⟩) 2 [⟨0, 3⟩, ⟨5, 10⟩] true _ r41 hl41 r60_42 (by simp) g9).mono ?_; rintro e w43 ⟨rfl, hD⟩; have B := hD.below; clear hD; refine ⟨_, rfl, ?_⟩
      have I44 := I42.next B; clear B
      refine take 36 62 (.bool true) hQ ?_
      refine take 37 63 (.bool true) hQ ?_
      exact same (hk (.slice (some ⟨w0.heap.size, 0, none⟩) 1 1) (.slice (some ⟨((w0.alloc (.cells #[.int .i64 0, .int .i64 10] 23)).alloc (.cells #[.int .i64 0, .int .i64 3, .int .i64 5, .int .i64 10] 23)).heap.size, 0, none⟩) 1 1) (.slice A41 2 c41) (.slice (some ⟨(w0.alloc (.cells #[.int .i64 0, .int .i64 10] 23)).heap.size, 0, none⟩) 2 2) w43 I44.HB)
  · refine value 56 (.slice (some ⟨w0.heap.size, 0, none⟩) 1 1) (w' := (w0.alloc (.cells #[.int .i64 3, .int .i64 5] 23))) ?_
    have B := (Below.refl w0.heap.size w0).alloc (Nat.le_refl _) (.cells #[.int .i64 3, .int .i64 5] 23)
    have I46 := I0.next B; clear B
    have r56_45 := litS w0 [⟨3, 5⟩] #[.int .i64 3, .int .i64 5] rfl (by simp)
    refine any2 28 34 ?_ ?_
    · refine value 54 (.slice (some ⟨(w0.alloc (.cells #[.int .i64 3, .int .i64 5] 23)).heap.size, 0, none⟩) 1 1) (w' := ((w0.alloc (.cells #[.int .i64 3, .int .i64 5] 23)).alloc (.cells #[.int .i64 0, .int .i64 10] 23))) ?_
      have B := (Below.refl (w0.alloc (.cells #[.int .i64 3, .int .i64 5] 23)).heap.size (w0.alloc (.cells #[.int .i64 3, .int .i64 5] 23))).alloc (Nat.le_refl _) (.cells #[.int .i64 0, .int .i64 10] 23)
      have I48 := I46.next B; have r56_48 := Kd.C_below r56_45 B; clear B
      have r54_47 := litS (w0.alloc (.cells #[.int .i64 3, .int .i64 5] 23)) [⟨0, 10⟩] #[.int .i64 0, .int .i64 10] rfl (by simp)
      refine any2 31 34 ?_ ?_
      · refine enter 57 26 #[(.slice (some ⟨(w0.alloc (.cells #[.int .i64 3, .int .i64 5] 23)).heap.size, 0, none⟩) 1 1), (.slice (some ⟨w0.heap.size, 0, none⟩) 1 1)] ?_
        refine (span_Minus.calls 100 (some ⟨(w0.alloc (.cells #[.int .i64 3, .int .i64 5] 23)).heap.size, 0, none⟩) 1 [⟨0, 10⟩] (some ⟨w0.heap.size, 0, none⟩) 1 [⟨3, 5⟩] [⟨0, 3⟩, ⟨5, 10⟩] _ r54_47 (by simp) r56_48 (by simp) g8).mono ?_; rintro e w49 ⟨v, rfl, Rr, B⟩; obtain ⟨A49, c49, rfl, hl49, r49⟩ := Kd.R_reads Rr; clear Rr; refine ⟨_, rfl, ?_⟩
        have I50 := I48.next B; clear B
        refine any1 34 ?_
        refine value 60 (.slice (some ⟨w49.heap.size, 0, none⟩) 2 2) (w' := (w49.alloc (.cells #[.int .i64 0, .int .i64 3, .int .i64 5, .int .i64 10] 23))) ?_
        have B := (Below.refl w49.heap.size w49).alloc (Nat.le_refl _) (.cells #[.int .i64 0, .int .i64 3, .int .i64 5, .int .i64 10] 23)
        have I52 := I50.next B; have r57_52 := Kd.C_below r49 B; clear B
        have r60_51 := litS w49 [⟨0, 3⟩, ⟨5, 10⟩] #[.int .i64 0, .int .i64 3, .int .i64 5, .int .i64 10] rfl (by simp)
        refine any1 35 ?_
        refine enter 61 17 #[(.slice A49 2 c49), (.slice (some ⟨w49.heap.size, 0, none⟩) 2 2)] ?_
        refine (sawmillref03_Same.calls 100 A49 c49 [⟨0, 3⟩, ⟨5, 10⟩] (some ⟨w49.heap.size, 0, none⟩) 2 [⟨0, 3⟩, ⟨5, 10⟩] true _ r57_52 hl49 r60_51 (by simp) g9).mono ?_; rintro e w53 ⟨rfl, hD⟩; have B := hD.below; clear hD; refine ⟨_, rfl, ?_⟩
        have I54 := I52.next B; clear B
        refine take 36 62 (.bool true) hQ ?_
        refine take 37 63 (.bool true) hQ ?_
        exact same (hk (.slice (some ⟨(w0.alloc (.cells #[.int .i64 3, .int .i64 5] 23)).heap.size, 0, none⟩) 1 1) (.slice (some ⟨w0.heap.size, 0, none⟩) 1 1) (.slice A49 2 c49) (.slice (some ⟨w49.heap.size, 0, none⟩) 2 2) w53 I54.HB)
      · refine value 60 (.slice (some ⟨((w0.alloc (.cells #[.int .i64 3, .int .i64 5] 23)).alloc (.cells #[.int .i64 0, .int .i64 10] 23)).heap.size, 0, none⟩) 2 2) (w' := (((w0.alloc (.cells #[.int .i64 3, .int .i64 5] 23)).alloc (.cells #[.int .i64 0, .int .i64 10] 23)).alloc (.cells #[.int .i64 0, .int .i64 3, .int .i64 5, .int .i64 10] 23))) ?_
        have B := (Below.refl ((w0.alloc (.cells #[.int .i64 3, .int .i64 5] 23)).alloc (.cells #[.int .i64 0, .int .i64 10] 23)).heap.size ((w0.alloc (.cells #[.int .i64 3, .int .i64 5] 23)).alloc (.cells #[.int .i64 0, .int .i64 10] 23))).alloc (Nat.le_refl _) (.cells #[.int .i64 0, .int .i64 3, .int .i64 5, .int .i64 10] 23)
        have I56 := I48.next B; have r56_56 := Kd.C_below r56_48 B; have r54_56 := Kd.C_below r54_47 B; clear B
        have r60_55 := litS ((w0.alloc (.cells #[.int .i64 3, .int .i64 5] 23)).alloc (.cells #[.int .i64 0, .int .i64 10] 23)) [⟨0, 3⟩, ⟨5, 10⟩] #[.int .i64 0, .int .i64 3, .int .i64 5, .int .i64 10] rfl (by simp)
        refine any1 31 ?_
        refine enter 57 26 #[(.slice (some ⟨(w0.alloc (.cells #[.int .i64 3, .int .i64 5] 23)).heap.size, 0, none⟩) 1 1), (.slice (some ⟨w0.heap.size, 0, none⟩) 1 1)] ?_
        refine (span_Minus.calls 100 (some ⟨(w0.alloc (.cells #[.int .i64 3, .int .i64 5] 23)).heap.size, 0, none⟩) 1 [⟨0, 10⟩] (some ⟨w0.heap.size, 0, none⟩) 1 [⟨3, 5⟩] [⟨0, 3⟩, ⟨5, 10⟩] _ r54_56 (by simp) r56_56 (by simp) g8).mono ?_; rintro e w57 ⟨v, rfl, Rr, B⟩; obtain ⟨A57, c57, rfl, hl57, r57⟩ := Kd.R_reads Rr; clear Rr; refine ⟨_, rfl, ?_⟩
        have I58 := I56.next B; have r60_58 := Kd.C_below r60_55 B; clear B
        refine any1 35 ?_
        refine enter 61 17 #[(.slice A57 2 c57), (.slice (some ⟨((w0.alloc (.cells #[.int .i64 3, .int .i64 5] 23)).alloc (.cells #[.int .i64 0, .int .i64 10] 23)).heap.size, 0, none⟩) 2 2)] ?_
        refine (sawmillref03_Same.calls 100 A57 c57 [⟨0, 3⟩, ⟨5, 10⟩] (some ⟨((w0.alloc (.cells #[.int .i64 3, .int .i64 5] 23)).alloc (.cells #[.int .i64 0, .int .i64 10] 23)).heap.size, 0, none⟩) 2 [⟨0, 3⟩, ⟨5, 10⟩] true _ r57 hl57 r60_58 (by simp) g9).mono ?_; rintro e w59 ⟨rfl, hD⟩; have B := hD.below; clear hD; refine ⟨_, rfl, ?_⟩
        have I60 := I58.next B; clear B
        refine take 36 62 (.bool true) hQ ?_
        refine take 37 63 (.bool true) hQ ?_
        exact same (hk (.slice (some ⟨(w0.alloc (.cells #[.int .i64 3, .int .i64 5] 23)).heap.size, 0, none⟩) 1 1) (.slice (some ⟨w0.heap.size, 0, none⟩) 1 1) (.slice A57 2 c57) (.slice (some ⟨((w0.alloc (.cells #[.int .i64 3, .int .i64 5] 23)).alloc (.cells #[.int .i64 0, .int .i64 10] 23)).heap.size, 0, none⟩) 2 2) w59 I60.HB)
    · refine value 60 (.slice (some ⟨(w0.alloc (.cells #[.int .i64 3, .int .i64 5] 23)).heap.size, 0, none⟩) 2 2) (w' := ((w0.alloc (.cells #[.int .i64 3, .int .i64 5] 23)).alloc (.cells #[.int .i64 0, .int .i64 3, .int .i64 5, .int .i64 10] 23))) ?_
      have B := (Below.refl (w0.alloc (.cells #[.int .i64 3, .int .i64 5] 23)).heap.size (w0.alloc (.cells #[.int .i64 3, .int .i64 5] 23))).alloc (Nat.le_refl _) (.cells #[.int .i64 0, .int .i64 3, .int .i64 5, .int .i64 10] 23)
      have I62 := I46.next B; have r56_62 := Kd.C_below r56_45 B; clear B
      have r60_61 := litS (w0.alloc (.cells #[.int .i64 3, .int .i64 5] 23)) [⟨0, 3⟩, ⟨5, 10⟩] #[.int .i64 0, .int .i64 3, .int .i64 5, .int .i64 10] rfl (by simp)
      refine any1 28 ?_
      refine value 54 (.slice (some ⟨((w0.alloc (.cells #[.int .i64 3, .int .i64 5] 23)).alloc (.cells #[.int .i64 0, .int .i64 3, .int .i64 5, .int .i64 10] 23)).heap.size, 0, none⟩) 1 1) (w' := (((w0.alloc (.cells #[.int .i64 3, .int .i64 5] 23)).alloc (.cells #[.int .i64 0, .int .i64 3, .int .i64 5, .int .i64 10] 23)).alloc (.cells #[.int .i64 0, .int .i64 10] 23))) ?_
      have B := (Below.refl ((w0.alloc (.cells #[.int .i64 3, .int .i64 5] 23)).alloc (.cells #[.int .i64 0, .int .i64 3, .int .i64 5, .int .i64 10] 23)).heap.size ((w0.alloc (.cells #[.int .i64 3, .int .i64 5] 23)).alloc (.cells #[.int .i64 0, .int .i64 3, .int .i64 5, .int .i64 10] 23))).alloc (Nat.le_refl _) (.cells #[.int .i64 0, .int .i64 10] 23)
      have I64 := I62.next B; have r56_64 := Kd.C_below r56_62 B; have r60_64 := Kd.C_below r60_61 B; clear B
      have r54_63 := litS ((w0.alloc (.cells #[.int .i64 3, .int .i64 5] 23)).alloc (.cells #[.int .i64 0, .int .i64 3, .int .i64 5, .int .i64 10] 23)) [⟨0, 10⟩] #[.int .i64 0, .int .i64 10] rfl (by simp)
      refine any1 31 ?_
      refine enter 57 26 #[(.slice (some ⟨((w0.alloc (.cells #[.int .i64 3, .int .i64 5] 23)).alloc (.cells #[.int .i64 0, .int .i64 3, .int .i64 5, .int .i64 10] 23)).heap.size, 0, none⟩) 1 1), (.slice (some ⟨w0.heap.size, 0, none⟩) 1 1)] ?_
      refine (span_Minus.calls 100 (some ⟨((w0.alloc (.cells #[.int .i64 3, .int .i64 5] 23)).alloc (.cells #[.int .i64 0, .int .i64 3, .int .i64 5, .int .i64 10] 23)).heap.size, 0, none⟩) 1 [⟨0, 10⟩] (some ⟨w0.heap.size, 0, none⟩) 1 [⟨3, 5⟩] [⟨0, 3⟩, ⟨5, 10⟩] _ r54_63 (by simp) r56_64 (by simp) g8).mono ?_; rintro e w65 ⟨v, rfl, Rr, B⟩; obtain ⟨A65, c65, rfl, hl65, r65⟩ := Kd.R_reads Rr; clear Rr; refine ⟨_, rfl, ?_⟩
      have I66 := I64.next B; have r60_66 := Kd.C_below r60_64 B; clear B
      refine any1 35 ?_
      refine enter 61 17 #[(.slice A65 2 c65), (.slice (some ⟨(w0.alloc (.cells #[.int .i64 3, .int .i64 5] 23)).heap.size, 0, none⟩) 2 2)] ?_
      refine (sawmillref03_Same.calls 100 A65 c65 [⟨0, 3⟩, ⟨5, 10⟩] (some ⟨(w0.alloc (.cells #[.int .i64 3, .int .i64 5] 23)).heap.size, 0, none⟩) 2 [⟨0, 3⟩, ⟨5, 10⟩] true _ r65 hl65 r60_66 (by simp) g9).mono ?_; rintro e w67 ⟨rfl, hD⟩; have B := hD.below; clear hD; refine ⟨_, rfl, ?_⟩
      have I68 := I66.next B; clear B
      refine take 36 62 (.bool true) hQ ?_
      refine take 37 63 (.bool true) hQ ?_
      exact same (hk (.slice (some ⟨((w0.alloc (.cells #[.int .i64 3, .int .i64 5] 23)).alloc (.cells #[.int .i64 0, .int .i64 3, .int .i64 5, .int .i64 10] 23)).heap.size, 0, none⟩) 1 1) (.slice (some ⟨w0.heap.size, 0, none⟩) 1 1) (.slice A65 2 c65) (.slice (some ⟨(w0.alloc (.cells #[.int .i64 3, .int .i64 5] 23)).heap.size, 0, none⟩) 2 2) w67 I68.HB)
  · refine value 60 (.slice (some ⟨w0.heap.size, 0, none⟩) 2 2) (w' := (w0.alloc (.cells #[.int .i64 0, .int .i64 3, .int .i64 5, .int .i64 10] 23))) ?_
    have B := (Below.refl w0.heap.size w0).alloc (Nat.le_refl _) (.cells #[.int .i64 0, .int .i64 3, .int .i64 5, .int .i64 10] 23)
    have I70 := I0.next B; clear B
    have r60_69 := litS w0 [⟨0, 3⟩, ⟨5, 10⟩] #[.int .i64 0, .int .i64 3, .int .i64 5, .int .i64 10] rfl (by simp)
    refine any2 28 30 ?_ ?_
    · refine value 54 (.slice (some ⟨(w0.alloc (.cells #[.int .i64 0, .int .i64 3, .int .i64 5, .int .i64 10] 23)).heap.size, 0, none⟩) 1 1) (w' := ((w0.alloc (.cells #[.int .i64 0, .int .i64 3, .int .i64 5, .int .i64 10] 23)).alloc (.cells #[.int .i64 0, .int .i64 10] 23))) ?_
      have B := (Below.refl (w0.alloc (.cells #[.int .i64 0, .int .i64 3, .int .i64 5, .int .i64 10] 23)).heap.size (w0.alloc (.cells #[.int .i64 0, .int .i64 3, .int .i64 5, .int .i64 10] 23))).alloc (Nat.le_refl _) (.cells #[.int .i64 0, .int .i64 10] 23)
      have I72 := I70.next B; have r60_72 := Kd.C_below r60_69 B; clear B
      have r54_71 := litS (w0.alloc (.cells #[.int .i64 0, .int .i64 3, .int .i64 5, .int .i64 10] 23)) [⟨0, 10⟩] #[.int .i64 0, .int .i64 10] rfl (by simp)
      refine any1 30 ?_
      refine value 56 (.slice (some ⟨((w0.alloc (.cells #[.int .i64 0, .int .i64 3, .int .i64 5, .int .i64 10] 23)).alloc (.cells #[.int .i64 0, .int .i64 10] 23)).heap.size, 0, none⟩) 1 1) (w' := (((w0.alloc (.cells #[.int .i64 0, .int .i64 3, .int .i64 5, .int .i64 10] 23)).alloc (.cells #[.int .i64 0, .int .i64 10] 23)).alloc (.cells #[.int .i64 3, .int .i64 5] 23))) ?_
      have B := (Below.refl ((w0.alloc (.cells #[.int .i64 0, .int .i64 3, .int .i64 5, .int .i64 10] 23)).alloc (.cells #[.int .i64 0, .int .i64 10] 23)).heap.size ((w0.alloc (.cells #[.int .i64 0, .int .i64 3, .int .i64 5, .int .i64 10] 23)).alloc (.cells #[.int .i64 0, .int .i64 10] 23))).alloc (Nat.le_refl _) (.cells #[.int .i64 3, .int .i64 5] 23)
      have I74 := I72.next B; have r60_74 := Kd.C_below r60_72 B; have r54_74 := Kd.C_below r54_71 B; clear B
      have r56_73 := litS ((w0.alloc (.cells #[.int .i64 0, .int .i64 3, .int .i64 5, .int .i64 10] 23)).alloc (.cells #[.int .i64 0, .int .i64 10] 23)) [⟨3, 5⟩] #[.int .i64 3, .int .i64 5] rfl (by simp)
      refine any1 31 ?_
      refine enter 57 26 #[(.slice (some ⟨(w0.alloc (.cells #[.int .i64 0, .int .i64 3, .int .i64 5, .int .i64 10] 23)).heap.size, 0, none⟩) 1 1), (.slice (some ⟨((w0.alloc (.cells #[.int .i64 0, .int .i64 3, .int .i64 5, .int .i64 10] 23)).alloc (.cells #[.int .i64 0, .int .i64 10] 23)).heap.size, 0, none⟩) 1 1)] ?_
      refine (span_Minus.calls 100 (some ⟨(w0.alloc (.cells #[.int .i64 0, .int .i64 3, .int .i64 5, .int .i64 10] 23)).heap.size, 0, none⟩) 1 [⟨0, 10⟩] (some ⟨((w0.alloc (.cells #[.int .i64 0, .int .i64 3, .int .i64 5, .int .i64 10] 23)).alloc (.cells #[.int .i64 0, .int .i64 10] 23)).heap.size, 0, none⟩) 1 [⟨3, 5⟩] [⟨0, 3⟩, ⟨5, 10⟩] _ r54_74 (by simp) r56_73 (by simp) g8).mono ?_; rintro e w75 ⟨v, rfl, Rr, B⟩; obtain ⟨A75, c75, rfl, hl75, r75⟩ := Kd.R_reads Rr; clear Rr; refine ⟨_, rfl, ?_⟩
      have I76 := I74.next B; have r60_76 := Kd.C_below r60_74 B; clear B
      refine any1 35 ?_
      refine enter 61 17 #[(.slice A75 2 c75), (.slice (some ⟨w0.heap.size, 0, none⟩) 2 2)] ?_
      refine (sawmillref03_Same.calls 100 A75 c75 [⟨0, 3⟩, ⟨5, 10⟩] (some ⟨w0.heap.size, 0, none⟩) 2 [⟨0, 3⟩, ⟨5, 10⟩] true _ r75 hl75 r60_76 (by simp) g9).mono ?_; rintro e w77 ⟨rfl, hD⟩; have B := hD.below; clear hD; refine ⟨_, rfl, ?_⟩
      have I78 := I76.next B; clear B
      refine take 36 62 (.bool true) hQ ?_
      refine take 37 63 (.bool true) hQ ?_
      exact same (hk (.slice (some ⟨(w0.alloc (.cells #[.int .i64 0, .int .i64 3, .int .i64 5, .int .i64 10] 23)).heap.size, 0, none⟩) 1 1) (.slice (some ⟨((w0.alloc (.cells #[.int .i64 0, .int .i64 3, .int .i64 5, .int .i64 10] 23)).alloc (.cells #[.int .i64 0, .int .i64 10] 23)).heap.size, 0, none⟩) 1 1) (.slice A75 2 c75) (.slice (some ⟨w0.heap.size, 0, none⟩) 2 2) w77 I78.HB)
    · refine value 56 (.slice (some ⟨(w0.alloc (.cells #[.int .i64 0, .int .i64 3, .int .i64 5, .int .i64 10] 23)).heap.size, 0, none⟩) 1 1) (w' := ((w0.alloc (.cells #[.int .i64 0, .int .i64 3, .int .i64 5, .int .i64 10] 23)).alloc (.cells #[.int .i64 3, .int .i64 5] 23))) ?_
      have B := (Below.refl (w0.alloc (.cells #[.int .i64 0, .int .i64 3, .int .i64 5, .int .i64 10] 23)).heap.size (w0.alloc (.cells #[.int .i64 0, .int .i64 3, .int .i64 5, .int .i64 10] 23))).alloc (Nat.le_refl _) (.cells #[.int .i64 3, .int .i64 5] 23)
      have I80 := I70.next B; have r60_80 := Kd.C_below r60_69 B; clear B
      have r56_79 := litS (w0.alloc (.cells #[.int .i64 0, .int .i64 3, .int .i64 5, .int .i64 10] 23)) [⟨3, 5⟩] #[.int .i64 3, .int .i64 5] rfl (by simp)
      refine any1 28 ?_
      refine value 54 (.slice (some ⟨((w0.alloc (.cells #[.int .i64 0, .int .i64 3, .int .i64 5, .int .i64 10] 23)).alloc (.cells #[.int .i64 3, .int .i64 5] 23)).heap.size, 0, none⟩) 1 1) (w' := (((w0.alloc (.cells #[.int .i64 0, .int .i64 3, .int .i64 5, .int .i64 10] 23)).alloc (.cells #[.int .i64 3, .int .i64 5] 23)).alloc (.cells #[.int .i64 0, .int .i64 10] 23))) ?_
      have B := (Below.refl ((w0.alloc (.cells #[.int .i64 0, .int .i64 3, .int .i64 5, .int .i64 10] 23)).alloc (.cells #[.int .i64 3, .int .i64 5] 23)).heap.size ((w0.alloc (.cells #[.int .i64 0, .int .i64 3, .int .i64 5, .int .i64 10] 23)).alloc (.cells #[.int .i64 3, .int .i64 5] 23))).alloc (Nat.le_refl _) (.cells #[.int .i64 0, .int .i64 10] 23)
      have I82 := I80.next B; have r60_82 := Kd.C_below r60_80 B; have r56_82 := Kd.C_below r56_79 B; clear B
      have r54_81 := litS ((w0.alloc (.cells #[.int .i64 0, .int .i64 3, .int .i64 5, .int .i64 10] 23)).alloc (.cells #[.int .i64 3, .int .i64 5] 23)) [⟨0, 10⟩] #[.int .i64 0, .int .i64 10] rfl (by simp)
      refine any1 31 ?_
      refine enter 57 26 #[(.slice (some ⟨((w0.alloc (.cells #[.int .i64 0, .int .i64 3, .int .i64 5, .int .i64 10] 23)).alloc (.cells #[.int .i64 3, .int .i64 5] 23)).heap.size, 0, none⟩) 1 1), (.slice (some ⟨(w0.alloc (.cells #[.int .i64 0, .int .i64 3, .int .i64 5, .int .i64 10] 23)).heap.size, 0, none⟩) 1 1)] ?_
      refine (span_Minus.calls 100 (some ⟨((w0.alloc (.cells #[.int .i64 0, .int .i64 3, .int .i64 5, .int .i64 10] 23)).alloc (.cells #[.int .i64 3, .int .i64 5] 23)).heap.size, 0, none⟩) 1 [⟨0, 10⟩] (some ⟨(w0.alloc (.cells #[.int .i64 0, .int .i64 3, .int .i64 5, .int .i64 10] 23)).heap.size, 0, none⟩) 1 [⟨3, 5⟩] [⟨0, 3⟩, ⟨5, 10⟩] _ r54_81 (by simp) r56_82 (by simp) g8).mono ?_; rintro e w83 ⟨v, rfl, Rr, B⟩; obtain ⟨A83, c83, rfl, hl83, r83⟩ := Kd.R_reads Rr; clear Rr; refine ⟨_, rfl, ?_⟩
      have I84 := I82.next B; have r60_84 := Kd.C_below r60_82 B; clear B
      refine any1 35 ?_
      refine enter 61 17 #[(.slice A83 2 c83), (.slice (some ⟨w0.heap.size, 0, none⟩) 2 2)] ?_
      refine (sawmillref03_Same.calls 100 A83 c83 [⟨0, 3⟩, ⟨5, 10⟩] (some ⟨w0.heap.size, 0, none⟩) 2 [⟨0, 3⟩, ⟨5, 10⟩] true _ r83 hl83 r60_84 (by simp) g9).mono ?_; rintro e w85 ⟨rfl, hD⟩; have B := hD.below; clear hD; refine ⟨_, rfl, ?_⟩
      have I86 := I84.next B; clear B
      refine take 36 62 (.bool true) hQ ?_
      refine take 37 63 (.bool true) hQ ?_
      exact same (hk (.slice (some ⟨((w0.alloc (.cells #[.int .i64 0, .int .i64 3, .int .i64 5, .int .i64 10] 23)).alloc (.cells #[.int .i64 3, .int .i64 5] 23)).heap.size, 0, none⟩) 1 1) (.slice (some ⟨(w0.alloc (.cells #[.int .i64 0, .int .i64 3, .int .i64 5, .int .i64 10] 23)).heap.size, 0, none⟩) 1 1) (.slice A83 2 c83) (.slice (some ⟨w0.heap.size, 0, none⟩) 2 2) w85 I86.HB)

theorem c6 {Q : Exit → Act → World → Prop} (hQ : ∀ c (a : Act) d v w, Q (.panic c) (a.put d v) w → Q (.panic c) a w) (g gs : Nat) (x0 x4 x6 x7 x8 x9 x10 x11 x12 x13 x14 x15 x16 x17 x18 x19 x20 x21 x22 x23 x24 x25 y38 y41 y54 y56 y57 y60 : Value) (w0 : World)
    (C : SpC w0 (some ⟨g, 0, none⟩) la) (s0 : w0.cell? ⟨gs, 0, none⟩ = some (.int .i64 5)) (s1 : w0.cell? ⟨gs, 1, none⟩ = some (.int .i64 8))
    (hk : ∀ (y66 y68 y69 y72 : Value) (w : World), Below w0.heap.size w0 w → wpAny Try.prog .any (R Try.f15 4) Q 37 (L 87 50) (F [x0, (.slice (some ⟨g, 0, none⟩) 5 5), (.pointer (some ⟨gs, 0, none⟩)), (.bool true), x4, (.bool false), x6, x7, x8, x9, x10, x11, x12, x13, x14, x15, x16, x17, x18, x19, x20, x21, x22, x23, x24, x25, (.agg #[(.int .i64 (-2)), (.int .i64 3)]), (.int .i64 5), (.bool true), (.bool true), (.agg #[(.int .i64 1), (.int .i64 5)]), (.agg #[(.int .i64 3), (.int .i64 9)]), (.agg #[(.int .i64 3), (.int .i64 5)]), (.agg #[(.int .i64 3), (.int .i64 5)]), (.bool true), (.bool true), (.bool true), (.slice (some ⟨g, 0, none⟩) 5 5), y38, (.agg #[(.int .i64 1), (.int .i64 4)]), (.agg #[(.int .i64 5), (.int .i64 9)]), y41, (.bool true), (.bool true), (.bool true), (.slice (some ⟨g, 0, none⟩) 5 5), (.bool false), (.bool true), (.bool true), (.bool true), (.bool true), (.bool true), (.bool true), (.agg #[(.int .i64 0), (.int .i64 10)]), y54, (.agg #[(.int .i64 3), (.int .i64 5)]), y56, y57, (.agg #[(.int .i64 0), (.int .i64 3)]), (.agg #[(.int .i64 5), (.int .i64 10)]), y60, (.bool true), (.bool true), (.bool true), (.agg #[(.int .i64 0), (.int .i64 4)]), (.agg #[(.int .i64 6), (.int .i64 9)]), y66, (.agg #[(.int .i64 2), (.int .i64 7)]), y68, y69, (.agg #[(.int .i64 2), (.int .i64 4)]), (.agg #[(.int .i64 6), (.int .i64 7)]), y72, (.bool true), (.bool true), (.bool true)] 112) w) :
    wpAny Try.prog .any (R Try.f15 4) Q 49 (L 87 38) (F [x0, (.slice (some ⟨g, 0, none⟩) 5 5), (.pointer (some ⟨gs, 0, none⟩)), (.bool true), x4, (.bool false), x6, x7, x8, x9, x10, x11, x12, x13, x14, x15, x16, x17, x18, x19, x20, x21, x22, x23, x24, x25, (.agg #[(.int .i64 (-2)), (.int .i64 3)]), (.int .i64 5), (.bool true), (.bool true), (.agg #[(.int .i64 1), (.int .i64 5)]), (.agg #[(.int .i64 3), (.int .i64 9)]), (.agg #[(.int .i64 3), (.int .i64 5)]), (.agg #[(.int .i64 3), (.int .i64 5)]), (.bool true), (.bool true), (.bool true), (.slice (some ⟨g, 0, none⟩) 5 5), y38, (.agg #[(.int .i64 1), (.int .i64 4)]), (.agg #[(.int .i64 5), (.int .i64 9)]), y41, (.bool true), (.bool true), (.bool true), (.slice (some ⟨g, 0, none⟩) 5 5), (.bool false), (.bool true), (.bool true), (.bool true), (.bool true), (.bool true), (.bool true), (.agg #[(.int .i64 0), (.int .i64 10)]), y54, (.agg #[(.int .i64 3), (.int .i64 5)]), y56, y57, (.agg #[(.int .i64 0), (.int .i64 3)]), (.agg #[(.int .i64 5), (.int .i64 10)]), y60, (.bool true), (.bool true), (.bool true)] 112) w0 := by
  have I0 : Inv g gs w0 w0 := ⟨Below.refl w0.heap.size w0, C, s0, s1⟩
  refine take 38 64 (.agg #[(.int .i64 0), (.int .i64 4)]) hQ ?_
  refine take 39 65 (.agg #[(.int .i64 6), (.int .i64 9)]) hQ ?_
  refine take 41 67 (.agg #[(.int .i64 2), (.int .i64 7)]) hQ ?_
  refine take 44 70 (.agg #[(.int .i64 2), (.int .i64 4)]) hQ ?_
  refine take 45 71 (.agg #[(.int .i64 6), (.int .i64 7)]) hQ ?_
  refine any3 40 42 46 ?_ ?_ ?_
  · refine value 66 (.slice (some ⟨w0.heap.size, 0, none⟩) 2 2) (w' := (w0.alloc (.cells #[.int .i64 0, .int .i64 4, .int .i64 6, .int .i64 9] 23))) ?_
    have B := (Below.refl w0.heap.size w0).alloc (Nat.le_refl _) (.cells #[.int .i64 0, .int .i64 4, .int .i64 6, .int .i64 9] 23)
    have I88 := I0.next B; clear B
    have r66_87 := litS w0 [⟨0, 4⟩, ⟨6, 9⟩] #[.int .i64 0, .int .i64 4, .int .i64 6, .int .i64 9] rfl (by simp)
    refine any2 42 46 ?_ ?_
    · refine value 68 (.slice (some ⟨(w0.alloc (.cells #[.int .i64 0, .int .i64 4, .int .i64 6, .int .i64 9] 23)).heap.size, 0, none⟩) 1 1) (w' := ((w0.alloc (.cells #[.int .i64 0, .int .i64 4, .int .i64 6, .int .i64 9] 23)).alloc (.cells #[.int .i64 2, .int .i64 7] 23))) ?_
      have B := (Below.refl (w0.alloc (.cells #[.int .i64 0, .int .i64 4, .int .i64 6, .int .i64 9] 23)).heap.size (w0.alloc (.cells #[.int .i64 0, .int .i64 4, .int .i64 6, .int .i64 9] 23))).alloc (Nat.le_refl _) (.cells #[.int .i64 2, .int .i64 7] 23)
      have I90 := I88.next B; have r66_90 := Kd.C_below r66_87 B; clear B
      have r68_89 := litS (w0.alloc (.cells #[.int .i64 0, .int .i64 4, .int .i64 6, .int .i64 9] 23)) [⟨2, 7⟩] #[.int .i64 2, .int .i64 7] rfl (by simp)
      refine any2 43 46 ?_ ?_
      · refine enter 69 24 #[(.slice (some ⟨w0.heap.size, 0, none⟩) 2 2), (.slice (some ⟨(w0.alloc (.cells #[.int .i64 0, .int .i64 4, .int .i64 6, .int .i64 9] 23)).heap.size, 0, none⟩) 1 1)] ?_
        refine (span_Common.calls 100 (some ⟨w0.heap.size, 0, none⟩) 2 [⟨0, 4⟩, ⟨6, 9⟩] (some ⟨(w0.alloc (.cells #[.int .i64 0, .int .i64 4, .int .i64 6, .int .i64 9] 23)).heap.size, 0, none⟩) 1 [⟨2, 7⟩] [⟨2, 4⟩, ⟨6, 7⟩] _ r66_90 (by simp) r68_89 (by simp) g10).mono ?_; rintro e w91 ⟨v, rfl, Rr, B⟩; obtain ⟨A91, c91, rfl, hl91, r91⟩ := Kd.R_reads Rr; clear Rr; refine ⟨_, rfl, ?_⟩
        have I92 := I90.next B; clear B
        refine any1 46 ?_
        refine value 72 (.slice (some ⟨w91.heap.size, 0, none⟩) 2 2) (w' := (w91.alloc (.cells #[.int .i64 2, .int .i64 4, .int .i64 6, .int .i64 7] 23))) ?_
        have B := (Below.refl w91.heap.size w91).alloc (Nat.le_refl _) (.cells #[.int .i64 2, .int .i64 4, .int .i64 6, .int .i64 7] 23)
        have I94 := I92.next B; have r69_94 := Kd.C_below r91 B; clear B
        have r72_93 := litS w91 [⟨2, 4⟩, ⟨6, 7⟩] #[.int .i64 2, .int .i64 4, .int .i64 6, .int .i64 7] rfl (by simp)
        refine any1 47 ?_
        refine enter 73 17 #[(.slice A91 2 c91), (.slice (some ⟨w91.heap.size, 0, none⟩) 2 2)] ?_
        refine (sawmillref03_Same.calls 100 A91 c91 [⟨2, 4⟩, ⟨6, 7⟩] (some ⟨w91.heap.size, 0, none⟩) 2 [⟨2, 4⟩, ⟨6, 7⟩] true _ r69_94 hl91 r72_93 (by simp) g11).mono ?_; rintro e w95 ⟨rfl, hD⟩; have B := hD.below; clear hD; refine ⟨_, rfl, ?_⟩
        have I96 := I94.next B; clear B
        refine take 48 74 (.bool true) hQ ?_
        refine take 49 75 (.bool true) hQ ?_
        exact same (hk (.slice (some ⟨w0.heap.size, 0, none⟩) 2 2) (.slice (some ⟨(w0.alloc (.cells #[.int .i64 0, .int .i64 4, .int .i64 6, .int .i64 9] 23)).heap.size, 0, none⟩) 1 1) (.slice A91 2 c91) (.slice (some ⟨w91.heap.size, 0, none⟩) 2 2) w95 I96.HB)
      · refine value 72 (.slice (some ⟨((w0.alloc (.cells #[.int .i64 0, .int .i64 4, .int .i64 6, .int .i64 9] 23)).alloc (.cells #[.int .i64 2, .int .i64 7] 23)).heap.size, 0, none⟩) 2 2) (w' := (((w0.alloc (.cells #[.int .i64 0, .int .i64 4, .int .i64 6, .int .i64 9] 23)).alloc (.cells #[.int .i64 2, .int .i64 7] 23)).alloc (.cells #[.int .i64 2, .int .i64 4, .int .i64 6, .int .i64 7] 23))) ?_
        have B := (Below.refl ((w0.alloc (.cells #[.int .i64 0, .int .i64 4, .int .i64 6, .int .i64 9] 23)).alloc (.cells #[.int .i64 2, .int .i64 7] 23)).heap.size ((w0.alloc (.cells #[.int .i64 0, .int .i64 4, .int .i64 6, .int .i64 9] 23)).alloc (.cells #[.int .i64 2, .int .i64 7] 23))).alloc (Nat.le_refl _) (.cells #[.int .i64 2, .int .i64 4, .int .i64 6, .int .i64 7] 23)
        have I98 := I90.next B; have r66_98 := Kd.C_below r66_90 B; have r68_98 := Kd.C_below r68_89 B; clear B
        have r72_97 := litS ((w0.alloc (.cells #[.int .i64 0, .int .i64 4, .int .i64 6, .int .i64 9] 23)).alloc (.cells #[.int .i64 2, .int .i64 7] 23)) [⟨2, 4⟩, ⟨6, 7⟩] #[.int .i64 2, .int .i64 4, .int .i64 6, .int .i64 7] rfl (by simp)
        refine any1 43 ?_
        refine enter 69 24 #[(.slice (some ⟨w0.heap.size, 0, none⟩) 2 2), (.slice (some ⟨(w0.alloc (.cells #[.int .i64 0, .int .i64 4, .int .i64 6, .int .i64 9] 23)).heap.size, 0, none⟩) 1 1)] ?_
        refine (span_Common.calls 100 (some ⟨w0.heap.size, 0, none⟩) 2 [⟨0, 4⟩, ⟨6, 9⟩] (some ⟨(w0.alloc (.cells #[.int .i64 0, .int .i64 4, .int .i64 6, .int .i64 9] 23)).heap.size, 0, none⟩) 1 [⟨2, 7⟩] [⟨2, 4⟩, ⟨6, 7⟩] _ r66_98 (by simp) r68_98 (by simp) g10).mono ?_; rintro e w99 ⟨v, rfl, Rr, B⟩; obtain ⟨A99, c99, rfl, hl99, r99⟩ := Kd.R_reads Rr; clear Rr; refine ⟨_, rfl, ?_⟩
        have I100 := I98.next B; have r72_100 := Kd.C_below r72_97 B; clear B
        refine any1 47 ?_
        refine enter 73 17 #[(.slice A99 2 c99), (.slice (some ⟨((w0.alloc (.cells #[.int .i64 0, .int .i64 4, .int .i64 6, .int .i64 9] 23)).alloc (.cells #[.int .i64 2, .int .i64 7] 23)).heap.size, 0, none⟩) 2 2)] ?_
        refine (sawmillref03_Same.calls 100 A99 c99 [⟨2, 4⟩, ⟨6, 7⟩] (some ⟨((w0.alloc (.cells #[.int .i64 0, .int .i64 4, .int .i64 6, .int .i64 9] 23)).alloc (.cells #[.int .i64 2, .int .i64 7] 23)).heap.size, 0, none⟩) 2 [⟨2, 4⟩, ⟨6, 7⟩] true _ r99 hl99 r72_100 (by simp) g11).mono ?_; rintro e w101 ⟨rfl, hD⟩; have B := hD.below; clear hD; refine ⟨_, rfl, ?_⟩
        have I102 := I100.next B; clear B
        refine take 48 74 (.bool true) hQ ?_
        refine take 49 75 (.bool true) hQ ?_
        exact same (hk (.slice (some ⟨w0.heap.size, 0, none⟩) 2 2) (.slice (some ⟨(w0.alloc (.cells #[.int .i64 0, .int .i64 4, .int .i64 6, .int .i64 9] 23)).heap.size, 0, none⟩) 1 1) (.slice A99 2 c99) (.slice (some ⟨((w0.alloc (.cells #[.int .i64 0, .int .i64 4, .int .i64 6, .int .i64 9] 23)).alloc (.cells #[.int .i64 2, .int .i64 7] 23)).heap.size, 0, none⟩) 2 2) w101 I102.HB)
    · refine value 72 (.slice (some ⟨(w0.alloc (.cells #[.int .i64 0, .int .i64 4, .int .i64 6, .int .i64 9] 23)).heap.size, 0, none⟩) 2 2) (w' := ((w0.alloc (.cells #[.int .i64 0, .int .i64 4, .int .i64 6, .int .i64 9] 23)).alloc (.cells #[.int .i64 2, .int .i64 4, .int .i64 6, .int .i64 7] 23))) ?_
      have B := (Below.refl (w0.alloc (.cells #[.int .i64 0, .int .i64 4, .int .i64 6, .int .i64 9] 23)).heap.size (w0.alloc (.cells #[.int .i64 0, .int .i64 4, .int .i64 6, .int .i64 9] 23))).alloc (Nat.le_refl _) (.cells #[.int .i64 2, .int .i64 4, .int .i64 6, .int .i64 7] 23)
      have I104 := I88.next B; have r66_104 := Kd.C_below r66_87 B; clear B
      have r72_103 := litS (w0.alloc (.cells #[.int .i64 0, .int .i64 4, .int .i64 6, .int .i64 9] 23)) [⟨2, 4⟩, ⟨6, 7⟩] #[.int .i64 2, .int .i64 4, .int .i64 6, .int .i64 7] rfl (by simp)
      refine any1 42 ?_
      refine value 68 (.slice (some ⟨((w0.alloc (.cells #[.int .i64 0, .int .i64 4, .int .i64 6, .int .i64 9] 23)).alloc (.cells #[.int .i64 2, .int .i64 4, .int .i64 6, .int .i64 7] 23)).heap.size, 0, none⟩) 1 1) (w' := (((w0.alloc (.cells #[.int .i64 0, .int .i64 4, .int .i64 6, .int .i64 9] 23)).alloc (.cells #[.int .i64 2, .int .i64 4, .int .i64 6, .int .i64 7] 23)).alloc (.cells #[.int .i64 2, .int .i64 7] 23))) ?_
      have B := (Below.refl ((w0.alloc (.cells #[.int .i64 0, .int .i64 4, .int .i64 6, .int .i64 9] 23)).alloc (.cells #[.int .i64 2, .int .i64 4, .int .i64 6, .int .i64 7] 23)).heap.size ((w0.alloc (.cells #[.int .i64 0, .int .i64 4, .int .i64 6, .int .i64 9] 23)).alloc (.cells #[.int .i64 2, .int .i64 4, .int .i64 6, .int .i64 7] 23))).alloc (Nat.le_refl _) (.cells #[.int .i64 2, .int .i64 7] 23)
      have I106 := I104.next B; have r66_106 := Kd.C_below r66_104 B; have r72_106 := Kd.C_below r72_103 B; clear B
      have r68_105 := litS ((w0.alloc (.cells #[.int .i64 0, .int .i64 4, .int .i64 6, .int .i64 9] 23)).alloc (.cells #[.int .i64 2, .int .i64 4, .int .i64 6, .int .i64 7] 23)) [⟨2, 7⟩] #[.int .i64 2, .int .i64 7] rfl (by simp)
      refine any1 43 ?_
      refine enter 69 24 #[(.slice (some ⟨w0.heap.size, 0, none⟩) 2 2), (.slice (some ⟨((w0.alloc (.cells #[.int .i64 0, .int .i64 4, .int .i64 6, .int .i64 9] 23)).alloc (.cells #[.int .i64 2, .int .i64 4, .int .i64 6, .int .i64 7] 23)).heap.size, 0, none⟩) 1 1)] ?_
      refine (span_Common.calls 100 (some ⟨w0.heap.size, 0, none⟩) 2 [⟨0, 4⟩, ⟨6, 9⟩] (some ⟨((w0.alloc (.cells #[.int .i64 0, .int .i64 4, .int .i64 6, .int .i64 9] 23)).alloc (.cells #[.int .i64 2, .int .i64 4, .int .i64 6, .int .i64 7] 23)).heap.size, 0, none⟩) 1 [⟨2, 7⟩] [⟨2, 4⟩, ⟨6, 7⟩] _ r66_106 (by simp) r68_105 (by simp) g10).mono ?_; rintro e w107 ⟨v, rfl, Rr, B⟩; obtain ⟨A107, c107, rfl, hl107, r107⟩ := Kd.R_reads Rr; clear Rr; refine ⟨_, rfl, ?_⟩
      have I108 := I106.next B; have r72_108 := Kd.C_below r72_106 B; clear B
      refine any1 47 ?_
      refine enter 73 17 #[(.slice A107 2 c107), (.slice (some ⟨(w0.alloc (.cells #[.int .i64 0, .int .i64 4, .int .i64 6, .int .i64 9] 23)).heap.size, 0, none⟩) 2 2)] ?_
      refine (sawmillref03_Same.calls 100 A107 c107 [⟨2, 4⟩, ⟨6, 7⟩] (some ⟨(w0.alloc (.cells #[.int .i64 0, .int .i64 4, .int .i64 6, .int .i64 9] 23)).heap.size, 0, none⟩) 2 [⟨2, 4⟩, ⟨6, 7⟩] true _ r107 hl107 r72_108 (by simp) g11).mono ?_; rintro e w109 ⟨rfl, hD⟩; have B := hD.below; clear hD; refine ⟨_, rfl, ?_⟩
      have I110 := I108.next B; clear B
      refine take 48 74 (.bool true) hQ ?_
      refine take 49 75 (.bool true) hQ ?_
      exact same (hk (.slice (some ⟨w0.heap.size, 0, none⟩) 2 2) (.slice (some ⟨((w0.alloc (.cells #[.int .i64 0, .int .i64 4, .int .i64 6, .int .i64 9] 23)).alloc (.cells #[.int .i64 2, .int .i64 4, .int .i64 6, .int .i64 7] 23)).heap.size, 0, none⟩) 1 1) (.slice A107 2 c107) (.slice (some ⟨(w0.alloc (.cells #[.int .i64 0, .int .i64 4, .int .i64 6, .int .i64 9] 23)).heap.size, 0, none⟩) 2 2) w109 I110.HB)
  · refine value 68 (.slice (some ⟨w0.heap.size, 0, none⟩) 1 1) (w' := (w0.alloc (.cells #[.int .i64 2, .int .i64 7] 23))) ?_
    have B := (Below.refl w0.heap.size w0).alloc (Nat.le_refl _) (.cells #[.int .i64 2, .int .i64 7] 23)
    have I112 := I0.next B; clear B
    have r68_111 := litS w0 [⟨2, 7⟩] #[.int .i64 2, .int .i64 7] rfl (by simp)
    refine any2 40 46 ?_ ?_
    · refine value 66 (.slice (some ⟨(w0.alloc (.cells #[.int .i64 2, .int .i64 7] 23)).heap.size, 0, none⟩) 2 2) (w' := ((w0.alloc (.cells #[.int .i64 2, .int .i64 7] 23)).alloc (.cells #[.int .i64 0, .int .i64 4, .int .i64 6, .int .i64 9] 23))) ?_
      have B := (Below.refl (w0.alloc (.cells #[.int .i64 2, .int .i64 7] 23)).heap.size (w0.alloc (.cells #[.int .i64 2, .int .i64 7] 23))).alloc (Nat.le_refl _) (.cells #[.int .i64 0, .int .i64 4, .int .i64 6, .int .i64 9] 23)
      have I114 := I112.next B; have r68_114 := Kd.C_below r68_111 B; clear B
      have r66_113 := litS (w0.alloc (.cells #[.int .i64 2, .int .i64 7] 23)) [⟨0, 4⟩, ⟨6, 9⟩] #[.int .i64 0, .int .i64 4, .int .i64 6, .int .i64 9] rfl (by simp)
      refine any2 43 46 ?_ ?_
      · refine enter 69 24 #[(.slice (some ⟨(w0.alloc (.cells #[.int .i64 2, .int .i64 7] 23)).heap.size, 0, none⟩) 2 2), (.slice (some ⟨w0.heap.size, 0, none⟩) 1 1)] ?_
        refine (span_Common.calls 100 (some ⟨(w0.alloc (.cells #[.int .i64 2, .int .i64 7] 23)).heap.size, 0, none⟩) 2 [⟨0, 4⟩, ⟨6, 9⟩] (some ⟨w0.heap.size, 0, none⟩) 1 [⟨2, 7⟩] [⟨2, 4⟩, ⟨6, 7⟩] _ r66_113 (by simp) r68_114 (by simp) g10).mono ?_; rintro e w115 ⟨v, rfl, Rr, B⟩; obtain ⟨A115, c115, rfl, hl115, r115⟩ := Kd.R_reads Rr; clear Rr; refine ⟨_, rfl, ?_⟩
        have I116 := I114.next B; clear B
        refine any1 46 ?_
        refine value 72 (.slice (some ⟨w115.heap.size, 0, none⟩) 2 2) (w' := (w115.alloc (.cells #[.int .i64 2, .int .i64 4, .int .i64 6, .int .i64 7] 23))) ?_
        have B := (Below.refl w115.heap.size w115).alloc (Nat.le_refl _) (.cells #[.int .i64 2, .int .i64 4, .int .i64 6, .int .i64 7] 23)
        have I118 := I116.next B; have r69_118 := Kd.C_below r115 B; clear B
        have r72_117 := litS w115 [⟨2, 4⟩, ⟨6, 7⟩] #[.int .i64 2, .int .i64 4, .int .i64 6, .int .i64 7] rfl (by simp)
        refine any1 47 ?_
        refine enter 73 17 #[(.slice A115 2 c115), (.slice (some ⟨w115.heap.size, 0, none⟩) 2 2)] ?_
        refine (sawmillref03_Same.calls 100 A115 c115 [⟨2, 4⟩, ⟨6, 7⟩] (some ⟨w115.heap.size, 0, none⟩) 2 [⟨2, 4⟩, ⟨6, 7⟩] true _ r69_118 hl115 r72_117 (by simp) g11).mono ?_; rintro e w119 ⟨rfl, hD⟩; have B := hD.below; clear hD; refine ⟨_, rfl, ?_⟩
        have I120 := I118.next B; clear B
        refine take 48 74 (.bool true) hQ ?_
        refine take 49 75 (.bool true) hQ ?_
        exact same (hk (.slice (some ⟨(w0.alloc (.cells #[.int .i64 2, .int .i64 7] 23)).heap.size, 0, none⟩) 2 2) (.slice (some ⟨w0.heap.size, 0, none⟩) 1 1) (.slice A115 2 c115) (.slice (some ⟨w115.heap.size, 0, none⟩) 2 2) w119 I120.HB)
      · refine value 72 (.slice (some ⟨((w0.alloc (.cells #[.int .i64 2, .int .i64 7] 23)).alloc (.cells #[.int .i64 0, .int .i64 4, .int .i64 6, .int .i64 9] 23)).heap.size, 0, none⟩) 2 2) (w' := (((w0.alloc (.cells #[.int .i64 2, .int .i64 7] 23)).alloc (.cells #[.int .i64 0, .int .i64 4, .int .i64 6, .int .i64 9] 23)).alloc (.cells #[.int .i64 2, .int .i64 4, .int .i64 6, .int .i64 7] 23))) ?_
        have B := (Below.refl ((w0.alloc (.cells #[.int .i64 2, .int .i64 7] 23)).alloc (.cells #[.int .i64 0, .int .i64 4, .int .i64 6, .int .i64 9] 23)).heap.size ((w0.alloc (.cells #[.int .i64 2, .int .i64 7] 23)).alloc (.cells #[.int .i64 0, .int .i64 4, .int .i64 6, .int .i64 9] 23))).alloc (Nat.le_refl _) (.cells #[.int .i64 2, .int .i64 4, .int .i64 6, .int .i64 7] 23)
        have I122 := I114.next B; have r68_122 := Kd.C_below r68_114 B; have r66_122 := Kd.C_below r66_113 B; clear B
        have r72_121 := litS ((w0.alloc (.cells #[.int .i64 2, .int .i64 7] 23)).alloc (.cells #[.int .i64 0, .int .i64 4, .int .i64 6, .int .i64 9] 23)) [⟨2, 4⟩, ⟨6, 7⟩] #[.int .i64 2, .int .i64 4, .int .i64 6, .int .i64 7] rfl (by simp)
        refine any1 43 ?_
        refine enter 69 24 #[(.slice (some ⟨(w0.alloc (.cells #[.int .i64 2, .int .i64 7] 23)).heap.size, 0, none⟩) 2 2), (.slice (some ⟨w0.heap.size, 0, none⟩) 1 1)] ?_
        refine (span_Common.calls 100 (some ⟨(w0.alloc (.cells #[.int .i64 2, .int .i64 7] 23)).heap.size, 0, none⟩) 2 [⟨0, 4⟩, ⟨6, 9⟩] (some ⟨w0.heap.size, 0, none⟩) 1 [⟨2, 7⟩] [⟨2, 4⟩, ⟨6, 7⟩] _ r66_122 (by simp) r68_122 (by simp) g10).mono ?_; rintro e w123 ⟨v, rfl, Rr, B⟩; obtain ⟨A123, c123, rfl, hl123, r123⟩ := Kd.R_reads Rr; clear Rr; refine ⟨_, rfl, ?_⟩
        have I124 := I122.next B; have r72_124 := Kd.C_below r72_121 B; clear B
        refine any1 47 ?_
        refine enter 73 17 #[(.slice A123 2 c123), (.slice (some ⟨((w0.alloc (.cells #[.int .i64 2, .int .i64 7] 23)).alloc (.cells #[.int .i64 0, .int .i64 4, .int .i64 6, .int .i64 9] 23)).heap.size, 0, none⟩) 2 2)] ?_
        refine (sawmillref03_Same.calls 100 A123 c123 [⟨2, 4⟩, ⟨6, 7⟩] (some ⟨((w0.alloc (.cells #[.int .i64 2, .int .i64 7] 23)).alloc (.cells #[.int .i64 0, .int .i64 4, .int .i64 6, .int .i64 9] 23)).heap.size, 0, none⟩) 2 [⟨2, 4⟩, ⟨6, 7⟩] true _ r123 hl123 r72_124 (by simp) g11).mono ?_; rintro e w125 ⟨rfl, hD⟩; have B := hD.below; clear hD; refine ⟨_, rfl, ?_⟩
        have I126 := I124.next B; clear B
        refine take 48 74 (.bool true) hQ ?_
        refine take 49 75 (.bool true) hQ ?_
        exact same (hk (.slice (some ⟨(w0.alloc (.cells #[.int .i64 2, .int .i64 7] 23)).heap.size, 0, none⟩) 2 2) (.slice (some ⟨w0.heap.size, 0, none⟩) 1 1) (.slice A123 2 c123) (.slice (some ⟨((w0.alloc (.cells #[.int .i64 2, .int .i64 7] 23)).alloc (.cells #[.int .i64 0, .int .i64 4, .int .i64 6, .int .i64 9] 23)).heap.size, 0, none⟩) 2 2) w125 I126.HB)
    · refine value 72 (.slice (some ⟨(w0.alloc (.cells #[.int .i64 2, .int .i64 7] 23)).heap.size, 0, none⟩) 2 2) (w' := ((w0.alloc (.cells #[.int .i64 2, .int .i64 7] 23)).alloc (.cells #[.int .i64 2, .int .i64 4, .int .i64 6, .int .i64 7] 23))) ?_
      have B := (Below.refl (w0.alloc (.cells #[.int .i64 2, .int .i64 7] 23)).heap.size (w0.alloc (.cells #[.int .i64 2, .int .i64 7] 23))).alloc (Nat.le_refl _) (.cells #[.int .i64 2, .int .i64 4, .int .i64 6, .int .i64 7] 23)
      have I128 := I112.next B; have r68_128 := Kd.C_below r68_111 B; clear B
      have r72_127 := litS (w0.alloc (.cells #[.int .i64 2, .int .i64 7] 23)) [⟨2, 4⟩, ⟨6, 7⟩] #[.int .i64 2, .int .i64 4, .int .i64 6, .int .i64 7] rfl (by simp)
      refine any1 40 ?_
      refine value 66 (.slice (some ⟨((w0.alloc (.cells #[.int .i64 2, .int .i64 7] 23)).alloc (.cells #[.int .i64 2, .int .i64 4, .int .i64 6, .int .i64 7] 23)).heap.size, 0, none⟩) 2 2) (w' := (((w0.alloc (.cells #[.int .i64 2, .int .i64 7] 23)).alloc (.cells #[.int .i64 2, .int .i64 4, .int .i64 6, .int .i64 7] 23)).alloc (.cells #[.int .i64 0, .int .i64 4, .int .i64 6, .int .i64 9] 23))) ?_
      have B := (Below.refl ((w0.alloc (.cells #[.int .i64 2, .int .i64 7] 23)).alloc (.cells #[.int .i64 2, .int .i64 4, .int .i64 6, .int .i64 7] 23)).heap.size ((w0.alloc (.cells #[.int .i64 2, .int .i64 7] 23)).alloc (.cells #[.int .i64 2, .int .i64 4, .int .i64 6, .int .i64 7] 23))).alloc (Nat.le_refl _) (.cells #[.int .i64 0, .int .i64 4, .int .i64 6, .int .i64 9] 23)
      have I130 := I128.next B; have r68_130 := Kd.C_below r68_128 B; have r72_130 := Kd.C_below r72_127 B; clear B
      have r66_129 := litS ((w0.alloc (.cells #[.int .i64 2, .int .i64 7] 23)).alloc (.cells #[.int .i64 2, .int .i64 4, .int .i64 6, .int .i64 7] 23)) [⟨0, 4⟩, ⟨6, 9⟩] #[.int .i64 0, .int .i64 4, .int .i64 6, .int .i64 9] rfl (by simp)
      refine any1 43 ?_
      refine enter 69 24 #[(.slice (some ⟨((w0.alloc (.cells #[.int .i64 2, .int .i64 7] 23)).alloc (.cells #[.int .i64 2, .int .i64 4, .int .i64 6, .int .i64 7] 23)).heap.size, 0, none⟩) 2 2), (.slice (some ⟨w0.heap.size, 0, none⟩) 1 1)] ?_
      refine (span_Common.calls 100 (some ⟨((w0.alloc (.cells #[.int .i64 2, .int .i64 7] 23)).alloc (.cells #[.int .i64 2, .int .i64 4, .int .i64 6, .int .i64 7] 23)).heap.size, 0, none⟩) 2 [⟨0, 4⟩, ⟨6, 9⟩] (some ⟨w0.heap.size, 0, none⟩) 1 [⟨2, 7⟩] [⟨2, 4⟩, ⟨6, 7⟩] _ r66_129 (by simp) r68_130 (by simp) g10).mono ?_; rintro e w131 ⟨v, rfl, Rr, B⟩; obtain ⟨A131, c131, rfl, hl131, r131⟩ := Kd.R_reads Rr; clear Rr; refine ⟨_, rfl, ?_⟩
      have I132 := I130.next B; have r72_132 := Kd.C_below r72_130 B; clear B
      refine any1 47 ?_
      refine enter 73 17 #[(.slice A131 2 c131), (.slice (some ⟨(w0.alloc (.cells #[.int .i64 2, .int .i64 7] 23)).heap.size, 0, none⟩) 2 2)] ?_
      refine (sawmillref03_Same.calls 100 A131 c131 [⟨2, 4⟩, ⟨6, 7⟩] (some ⟨(w0.alloc (.cells #[.int .i64 2, .int .i64 7] 23)).heap.size, 0, none⟩) 2 [⟨2, 4⟩, ⟨6, 7⟩] true _ r131 hl131 r72_132 (by simp) g11).mono ?_; rintro e w133 ⟨rfl, hD⟩; have B := hD.below; clear hD; refine ⟨_, rfl, ?_⟩
      have I134 := I132.next B; clear B
      refine take 48 74 (.bool true) hQ ?_
      refine take 49 75 (.bool true) hQ ?_
      exact same (hk (.slice (some ⟨((w0.alloc (.cells #[.int .i64 2, .int .i64 7] 23)).alloc (.cells #[.int .i64 2, .int .i64 4, .int .i64 6, .int .i64 7] 23)).heap.size, 0, none⟩) 2 2) (.slice (some ⟨w0.heap.size, 0, none⟩) 1 1) (.slice A131 2 c131) (.slice (some ⟨(w0.alloc (.cells #[.int .i64 2, .int .i64 7] 23)).heap.size, 0, none⟩) 2 2) w133 I134.HB)
  · refine value 72 (.slice (some ⟨w0.heap.size, 0, none⟩) 2 2) (w' := (w0.alloc (.cells #[.int .i64 2, .int .i64 4, .int .i64 6, .int .i64 7] 23))) ?_
    have B := (Below.refl w0.heap.size w0).alloc (Nat.le_refl _) (.cells #[.int .i64 2, .int .i64 4, .int .i64 6, .int .i64 7] 23)
    have I136 := I0.next B; clear B
    have r72_135 := litS w0 [⟨2, 4⟩, ⟨6, 7⟩] #[.int .i64 2, .int .i64 4, .int .i64 6, .int .i64 7] rfl (by simp)
    refine any2 40 42 ?_ ?_
    · refine value 66 (.slice (some ⟨(w0.alloc (.cells #[.int .i64 2, .int .i64 4, .int .i64 6, .int .i64 7] 23)).heap.size, 0, none⟩) 2 2) (w' := ((w0.alloc (.cells #[.int .i64 2, .int .i64 4, .int .i64 6, .int .i64 7] 23)).alloc (.cells #[.int .i64 0, .int .i64 4, .int .i64 6, .int .i64 9] 23))) ?_
      have B := (Below.refl (w0.alloc (.cells #[.int .i64 2, .int .i64 4, .int .i64 6, .int .i64 7] 23)).heap.size (w0.alloc (.cells #[.int .i64 2, .int .i64 4, .int .i64 6, .int .i64 7] 23))).alloc (Nat.le_refl _) (.cells #[.int .i64 0, .int .i64 4, .int .i64 6, .int .i64 9] 23)
      have I138 := I136.next B; have r72_138 := Kd.C_below r72_135 B; clear B
      have r66_137 := litS (w0.alloc (.cells #[.int .i64 2, .int .i64 4, .int .i64 6, .int .i64 7] 23)) [⟨0, 4⟩, ⟨6, 9⟩] #[.int .i64 0, .int .i64 4, .int .i64 6, .int .i64 9] rfl (by simp)
      refine any1 42 ?_
      refine value 68 (.slice (some ⟨((w0.alloc (.cells #[.int .i64 2, .int .i64 4, .int .i64 6, .int .i64 7] 23)).alloc (.cells #[.int .i64 0, .int .i64 4, .int .i64 6, .int .i64 9] 23)).heap.size, 0, none⟩) 1 1) (w' := (((w0.alloc (.cells #[.int .i64 2, .int .i64 4, .int .i64 6, .int .i64 7] 23)).alloc (.cells #[.int .i64 0, .int .i64 4, .int .i64 6, .int .i64 9] 23)).alloc (.cells #[.int .i64 2, .int .i64 7] 23))) ?_
      have B := (Below.refl ((w0.alloc (.cells #[.int .i64 2, .int .i64 4, .int .i64 6, .int .i64 7] 23)).alloc (.cells #[.int .i64 0, .int .i64 4, .int .i64 6, .int .i64 9] 23)).heap.size ((w0.alloc (.cells #[.int .i64 2, .int .i64 4, .int .i64 6, .int .i64 7] 23)).alloc (.cells #[.int .i64 0, .int .i64 4, .int .i64 6, .int .i64 9] 23))).alloc (Nat.le_refl _) (.cells #[.int .i64 2, .int .i64 7] 23)
      have I140 := I138.next B; have r72_140 := Kd.C_below r72_138 B; have r66_140 := Kd.C_below r66_137 B; clear B
      have r68_139 := litS ((w0.alloc (.cells #[.int .i64 2, .int .i64 4, .int .i64 6, .int .i64 7] 23)).alloc (.cells #[.int .i64 0, .int .i64 4, .int .i64 6, .int .i64 9] 23)) [⟨2, 7⟩] #[.int .i64 2, .int .i64 7] rfl (by simp)
      refine any1 43 ?_
      refine enter 69 24 #[(.slice (some ⟨(w0.alloc (.cells #[.int .i64 2, .int .i64 4, .int .i64 6, .int .i64 7] 23)).heap.size, 0, none⟩) 2 2), (.slice (some ⟨((w0.alloc (.cells #[.int .i64 2, .int .i64 4, .int .i64 6, .int .i64 7] 23)).alloc (.cells #[.int .i64 0, .int .i64 4, .int .i64 6, .int .i64 9] 23)).heap.size, 0, none⟩) 1 1)] ?_
      refine (span_Common.calls 100 (some ⟨(w0.alloc (.cells #[.int .i64 2, .int .i64 4, .int .i64 6, .int .i64 7] 23)).heap.size, 0, none⟩) 2 [⟨0, 4⟩, ⟨6, 9⟩] (some ⟨((w0.alloc (.cells #[.int .i64 2, .int .i64 4, .int .i64 6, .int .i64 7] 23)).alloc (.cells #[.int .i64 0, .int .i64 4, .int .i64 6, .int .i64 9] 23)).heap.size, 0, none⟩) 1 [⟨2, 7⟩] [⟨2, 4⟩, ⟨6, 7⟩] _ r66_140 (by simp) r68_139 (by simp) g10).mono ?_; rintro e w141 ⟨v, rfl, Rr, B⟩; obtain ⟨A141, c141, rfl, hl141, r141⟩ := Kd.R_reads Rr; clear Rr; refine ⟨_, rfl, ?_⟩
      have I142 := I140.next B; have r72_142 := Kd.C_below r72_140 B; clear B
      refine any1 47 ?_
      refine enter 73 17 #[(.slice A141 2 c141), (.slice (some ⟨w0.heap.size, 0, none⟩) 2 2)] ?_
      refine (sawmillref03_Same.calls 100 A141 c141 [⟨2, 4⟩, ⟨6, 7⟩] (some ⟨w0.heap.size, 0, none⟩) 2 [⟨2, 4⟩, ⟨6, 7⟩] true _ r141 hl141 r72_142 (by simp) g11).mono ?_; rintro e w143 ⟨rfl, hD⟩; have B := hD.below; clear hD; refine ⟨_, rfl, ?_⟩
      have I144 := I142.next B; clear B
      refine take 48 74 (.bool true) hQ ?_
      refine take 49 75 (.bool true) hQ ?_
      exact same (hk (.slice (some ⟨(w0.alloc (.cells #[.int .i64 2, .int .i64 4, .int .i64 6, .int .i64 7] 23)).heap.size, 0, none⟩) 2 2) (.slice (some ⟨((w0.alloc (.cells #[.int .i64 2, .int .i64 4, .int .i64 6, .int .i64 7] 23)).alloc (.cells #[.int .i64 0, .int .i64 4, .int .i64 6, .int .i64 9] 23)).heap.size, 0, none⟩) 1 1) (.slice A141 2 c141) (.slice (some ⟨w0.heap.size, 0, none⟩) 2 2) w143 I144.HB)
    · refine value 68 (.slice (some ⟨(w0.alloc (.cells #[.int .i64 2, .int .i64 4, .int .i64 6, .int .i64 7] 23)).heap.size, 0, none⟩) 1 1) (w' := ((w0.alloc (.cells #[.int .i64 2, .int .i64 4, .int .i64 6, .int .i64 7] 23)).alloc (.cells #[.int .i64 2, .int .i64 7] 23))) ?_
      have B := (Below.refl (w0.alloc (.cells #[.int .i64 2, .int .i64 4, .int .i64 6, .int .i64 7] 23)).heap.size (w0.alloc (.cells #[.int .i64 2, .int .i64 4, .int .i64 6, .int .i64 7] 23))).alloc (Nat.le_refl _) (.cells #[.int .i64 2, .int .i64 7] 23)
      have I146 := I136.next B; have r72_146 := Kd.C_below r72_135 B; clear B
      have r68_145 := litS (w0.alloc (.cells #[.int .i64 2, .int .i64 4, .int .i64 6, .int .i64 7] 23)) [⟨2, 7⟩] #[.int .i64 2, .int .i64 7] rfl (by simp)
      refine any1 40 ?_
      refine value 66 (.slice (some ⟨((w0.alloc (.cells #[.int .i64 2, .int .i64 4, .int .i64 6, .int .i64 7] 23)).alloc (.cells #[.int .i64 2, .int .i64 7] 23)).heap.size, 0, none⟩) 2 2) (w' := (((w0.alloc (.cells #[.int .i64 2, .int .i64 4, .int .i64 6, .int .i64 7] 23)).alloc (.cells #[.int .i64 2, .int .i64 7] 23)).alloc (.cells #[.int .i64 0, .int .i64 4, .int .i64 6, .int .i64 9] 23))) ?_
      have B := (Below.refl ((w0.alloc (.cells #[.int .i64 2, .int .i64 4, .int .i64 6, .int .i64 7] 23)).alloc (.cells #[.int .i64 2, .int .i64 7] 23)).heap.size ((w0.alloc (.cells #[.int .i64 2, .int .i64 4, .int .i64 6, .int .i64 7] 23)).alloc (.cells #[.int .i64 2, .int .i64 7] 23))).alloc (Nat.le_refl _) (.cells #[.int .i64 0, .int .i64 4, .int .i64 6, .int .i64 9] 23)
      have I148 := I146.next B; have r72_148 := Kd.C_below r72_146 B; have r68_148 := Kd.C_below r68_145 B; clear B
      have r66_147 := litS ((w0.alloc (.cells #[.int .i64 2, .int .i64 4, .int .i64 6, .int .i64 7] 23)).alloc (.cells #[.int .i64 2, .int .i64 7] 23)) [⟨0, 4⟩, ⟨6, 9⟩] #[.int .i64 0, .int .i64 4, .int .i64 6, .int .i64 9] rfl (by simp)
      refine any1 43 ?_
      refine enter 69 24 #[(.slice (some ⟨((w0.alloc (.cells #[.int .i64 2, .int .i64 4, .int .i64 6, .int .i64 7] 23)).alloc (.cells #[.int .i64 2, .int .i64 7] 23)).heap.size, 0, none⟩) 2 2), (.slice (some ⟨(w0.alloc (.cells #[.int .i64 2, .int .i64 4, .int .i64 6, .int .i64 7] 23)).heap.size, 0, none⟩) 1 1)] ?_
      refine (span_Common.calls 100 (some ⟨((w0.alloc (.cells #[.int .i64 2, .int .i64 4, .int .i64 6, .int .i64 7] 23)).alloc (.cells #[.int .i64 2, .int .i64 7] 23)).heap.size, 0, none⟩) 2 [⟨0, 4⟩, ⟨6, 9⟩] (some ⟨(w0.alloc (.cells #[.int .i64 2, .int .i64 4, .int .i64 6, .int .i64 7] 23)).heap.size, 0, none⟩) 1 [⟨2, 7⟩] [⟨2, 4⟩, ⟨6, 7⟩] _ r66_147 (by simp) r68_148 (by simp) g10).mono ?_; rintro e w149 ⟨v, rfl, Rr, B⟩; obtain ⟨A149, c149, rfl, hl149, r149⟩ := Kd.R_reads Rr; clear Rr; refine ⟨_, rfl, ?_⟩
      have I150 := I148.next B; have r72_150 := Kd.C_below r72_148 B; clear B
      refine any1 47 ?_
      refine enter 73 17 #[(.slice A149 2 c149), (.slice (some ⟨w0.heap.size, 0, none⟩) 2 2)] ?_
      refine (sawmillref03_Same.calls 100 A149 c149 [⟨2, 4⟩, ⟨6, 7⟩] (some ⟨w0.heap.size, 0, none⟩) 2 [⟨2, 4⟩, ⟨6, 7⟩] true _ r149 hl149 r72_150 (by simp) g11).mono ?_; rintro e w151 ⟨rfl, hD⟩; have B := hD.below; clear hD; refine ⟨_, rfl, ?_⟩
      have I152 := I150.next B; clear B
      refine take 48 74 (.bool true) hQ ?_
      refine take 49 75 (.bool true) hQ ?_
      exact same (hk (.slice (some ⟨((w0.alloc (.cells #[.int .i64 2, .int .i64 4, .int .i64 6, .int .i64 7] 23)).alloc (.cells #[.int .i64 2, .int .i64 7] 23)).heap.size, 0, none⟩) 2 2) (.slice (some ⟨(w0.alloc (.cells #[.int .i64 2, .int .i64 4, .int .i64 6, .int .i64 7] 23)).heap.size, 0, none⟩) 1 1) (.slice A149 2 c149) (.slice (some ⟨w0.heap.size, 0, none⟩) 2 2) w151 I152.HB)

theorem c7 {Q : Exit → Act → World → Prop} (hQ : ∀ c (a : Act) d v w, Q (.panic c) (a.put d v) w → Q (.panic c) a w) (g gs : Nat) (x0 x4 x6 x7 x8 x9 x10 x11 x12 x13 x14 x15 x16 x17 x18 x19 x20 x21 x22 x23 x24 x25 y38 y41 y54 y56 y57 y60 y66 y68 y69 y72 : Value) (w0 : World)
    (C : SpC w0 (some ⟨g, 0, none⟩) la) (s0 : w0.cell? ⟨gs, 0, none⟩ = some (.int .i64 5)) (s1 : w0.cell? ⟨gs, 1, none⟩ = some (.int .i64 8))
    (hk : ∀ (y78 : Value) (w : World), Below w0.heap.size w0 w → wpAny Try.prog .any (R Try.f15 4) Q 30 (L 87 57) (F [x0, (.slice (some ⟨g, 0, none⟩) 5 5), (.pointer (some ⟨gs, 0, none⟩)), (.bool true), x4, (.bool false), x6, x7, x8, x9, x10, x11, x12, x13, x14, x15, x16, x17, x18, x19, x20, x21, x22, x23, x24, x25, (.agg #[(.int .i64 (-2)), (.int .i64 3)]), (.int .i64 5), (.bool true), (.bool true), (.agg #[(.int .i64 1), (.int .i64 5)]), (.agg #[(.int .i64 3), (.int .i64 9)]), (.agg #[(.int .i64 3), (.int .i64 5)]), (.agg #[(.int .i64 3), (.int .i64 5)]), (.bool true), (.bool true), (.bool true), (.slice (some ⟨g, 0, none⟩) 5 5), y38, (.agg #[(.int .i64 1), (.int .i64 4)]), (.agg #[(.int .i64 5), (.int .i64 9)]), y41, (.bool true), (.bool true), (.bool true), (.slice (some ⟨g, 0, none⟩) 5 5), (.bool false), (.bool true), (.bool true), (.bool true), (.bool true), (.bool true), (.bool true), (.agg #[(.int .i64 0), (.int .i64 10)]), y54, (.agg #[(.int .i64 3), (.int .i64 5)]), y56, y57, (.agg #[(.int .i64 0), (.int .i64 3)]), (.agg #[(.int .i64 5), (.int .i64 10)]), y60, (.bool true), (.bool true), (.bool true), (.agg #[(.int .i64 0), (.int .i64 4)]), (.agg #[(.int .i64 6), (.int .i64 9)]), y66, (.agg #[(.int .i64 2), (.int .i64 7)]), y68, y69, (.agg #[(.int .i64 2), (.int .i64 4)]), (.agg #[(.int .i64 6), (.int .i64 7)]), y72, (.bool true), (.bool true), (.bool true), (.agg #[(.int .i64 0), (.int .i64 4)]), (.agg #[(.int .i64 2), (.int .i64 6)]), y78, (.int .i64 6), (.bool true), (.bool true), (.bool true)] 112) w) :
    wpAny Try.prog .any (R Try.f15 4) Q 37 (L 87 50) (F [x0, (.slice (some ⟨g, 0, none⟩) 5 5), (.pointer (some ⟨gs, 0, none⟩)), (.bool true), x4, (.bool false), x6, x7, x8, x9, x10, x11, x12, x13, x14, x15, x16, x17, x18, x19, x20, x21, x22, x23, x24, x25, (.agg #[(.int .i64 (-2)), (.int .i64 3)]), (.int .i64 5), (.bool true), (.bool true), (.agg #[(.int .i64 1), (.int .i64 5)]), (.agg #[(.int .i64 3), (.int .i64 9)]), (.agg #[(.int .i64 3), (.int .i64 5)]), (.agg #[(.int .i64 3), (.int .i64 5)]), (.bool true), (.bool true), (.bool true), (.slice (some ⟨g, 0, none⟩) 5 5), y38, (.agg #[(.int .i64 1), (.int .i64 4)]), (.agg #[(.int .i64 5), (.int .i64 9)]), y41, (.bool true), (.bool true), (.bool true), (.slice (some ⟨g, 0, none⟩) 5 5), (.bool false), (.bool true), (.bool true), (.bool true), (.bool true), (.bool true), (.bool true), (.agg #[(.int .i64 0), (.int .i64 10)]), y54, (.agg #[(.int .i64 3), (.int .i64 5)]), y56, y57, (.agg #[(.int .i64 0), (.int .i64 3)]), (.agg #[(.int .i64 5), (.int .i64 10)]), y60, (.bool true), (.bool true), (.bool true), (.agg #[(.int .i64 0), (.int .i64 4)]), (.agg #[(.int .i64 6), (.int .i64 9)]), y66, (.agg #[(.int .i64 2), (.int .i64 7)]), y68, y69, (.agg #[(.int .i64 2), (.int .i64 4)]), (.agg #[(.int .i64 6), (.int .i64 7)]), y72, (.bool true), (.bool true), (.bool true)] 112) w0 := by
  have I0 : Inv g gs w0 w0 := ⟨Below.refl w0.heap.size w0, C, s0, s1⟩
  refine take 50 76 (.agg #[(.int .i64 0), (.int .i64 4)]) hQ ?_
  refine take 51 77 (.agg #[(.int .i64 2), (.int .i64 6)]) hQ ?_
  refine any1 52 ?_
  refine value 78 (.slice (some ⟨w0.heap.size, 0, none⟩) 2 2) (w' := (w0.alloc (.cells #[.int .i64 0, .int .i64 4, .int .i64 2, .int .i64 6] 23))) ?_
  have B := (Below.refl w0.heap.size w0).alloc (Nat.le_refl _) (.cells #[.int .i64 0, .int .i64 4, .int .i64 2, .int .i64 6] 23)
  have I154 := I0.next B; clear B
  have r78_153 := litS w0 [⟨0, 4⟩, ⟨2, 6⟩] #[.int .i64 0, .int .i64 4, .int .i64 2, .int .i64 6] rfl (by simp)
  refine any1 53 ?_
  refine enter 79 30 #[(.slice (some ⟨w0.heap.size, 0, none⟩) 2 2)] ?_
  refine (span_Total.calls 100 (some ⟨w0.heap.size, 0, none⟩) 2 [⟨0, 4⟩, ⟨2, 6⟩] 6 _ r78_153 (by simp) g12).mono ?_; rintro e w155 ⟨rfl, B⟩; refine ⟨_, rfl, ?_⟩
  have I156 := I154.next B; clear B
  refine take 54 80 (.bool true) hQ ?_
  refine take 55 81 (.bool true) hQ ?_
  refine take 56 82 (.bool true) hQ ?_
  exact same (hk (.slice (some ⟨w0.heap.size, 0, none⟩) 2 2) w155 I156.HB)

theorem c8 {Q : Exit → Act → World → Prop} (hQ : ∀ c (a : Act) d v w, Q (.panic c) (a.put d v) w → Q (.panic c) a w) (g gs : Nat) (x0 x4 x6 x7 x8 x9 x10 x11 x12 x13 x14 x15 x16 x17 x18 x19 x20 x21 x22 x23 x24 x25 y38 y41 y54 y56 y57 y60 y66 y68 y69 y72 y78 : Value) (w0 : World)
    (C : SpC w0 (some ⟨g, 0, none⟩) la) (s0 : w0.cell? ⟨gs, 0, none⟩ = some (.int .i64 5)) (s1 : w0.cell? ⟨gs, 1, none⟩ = some (.int .i64 8))
    (hk : ∀ (y87 : Value) (w : World), Below w0.heap.size w0 w → wpAny Try.prog .any (R Try.f15 4) Q 21 (L 87 66) (F [x0, (.slice (some ⟨g, 0, none⟩) 5 5), (.pointer (some ⟨gs, 0, none⟩)), (.bool true), x4, (.bool false), x6, x7, x8, x9, x10, x11, x12, x13, x14, x15, x16, x17, x18, x19, x20, x21, x22, x23, x24, x25, (.agg #[(.int .i64 (-2)), (.int .i64 3)]), (.int .i64 5), (.bool true), (.bool true), (.agg #[(.int .i64 1), (.int .i64 5)]), (.agg #[(.int .i64 3), (.int .i64 9)]), (.agg #[(.int .i64 3), (.int .i64 5)]), (.agg #[(.int .i64 3), (.int .i64 5)]), (.bool true), (.bool true), (.bool true), (.slice (some ⟨g, 0, none⟩) 5 5), y38, (.agg #[(.int .i64 1), (.int .i64 4)]), (.agg #[(.int .i64 5), (.int .i64 9)]), y41, (.bool true), (.bool true), (.bool true), (.slice (some ⟨g, 0, none⟩) 5 5), (.bool false), (.bool true), (.bool true), (.bool true), (.bool true), (.bool true), (.bool true), (.agg #[(.int .i64 0), (.int .i64 10)]), y54, (.agg #[(.int .i64 3), (.int .i64 5)]), y56, y57, (.agg #[(.int .i64 0), (.int .i64 3)]), (.agg #[(.int .i64 5), (.int .i64 10)]), y60, (.bool true), (.bool true), (.bool true), (.agg #[(.int .i64 0), (.int .i64 4)]), (.agg #[(.int .i64 6), (.int .i64 9)]), y66, (.agg #[(.int .i64 2), (.int .i64 7)]), y68, y69, (.agg #[(.int .i64 2), (.int .i64 4)]), (.agg #[(.int .i64 6), (.int .i64 7)]), y72, (.bool true), (.bool true), (.bool true), (.agg #[(.int .i64 0), (.int .i64 4)]), (.agg #[(.int .i64 2), (.int .i64 6)]), y78, (.int .i64 6), (.bool true), (.bool true), (.bool true), (.slice (some ⟨g, 0, none⟩) 5 5), (.slice (some ⟨g, 0, none⟩) 1 5), (.slice (some ⟨g, 0, none⟩) 5 5), (.slice (some ⟨g, 2, none⟩) 1 4), y87, (.int .i64 2), (.bool true), (.bool true), (.bool true)] 112) w) :
    wpAny Try.prog .any (R Try.f15 4) Q 30 (L 87 57) (F [x0, (.slice (some ⟨g, 0, none⟩) 5 5), (.pointer (some ⟨gs, 0, none⟩)), (.bool true), x4, (.bool false), x6, x7, x8, x9, x10, x11, x12, x13, x14, x15, x16, x17, x18, x19, x20, x21, x22, x23, x24, x25, (.agg #[(.int .i64 (-2)), (.int .i64 3)]), (.int .i64 5), (.bool true), (.bool true), (.agg #[(.int .i64 1), (.int .i64 5)]), (.agg #[(.int .i64 3), (.int .i64 9)]), (.agg #[(.int .i64 3), (.int .i64 5)]), (.agg #[(.int .i64 3), (.int .i64 5)]), (.bool true), (.bool true), (.bool true), (.slice (some ⟨g, 0, none⟩) 5 5), y38, (.agg #[(.int .i64 1), (.int .i64 4)]), (.agg #[(.int .i64 5), (.int .i64 9)]), y41, (.bool true), (.bool true), (.bool true), (.slice (some ⟨g, 0, none⟩) 5 5), (.bool false), (.bool true), (.bool true), (.bool true), (.bool true), (.bool true), (.bool true), (.agg #[(.int .i64 0), (.int .i64 10)]), y54, (.agg #[(.int .i64 3), (.int .i64 5)]), y56, y57, (.agg #[(.int .i64 0), (.int .i64 3)]), (.agg #[(.int .i64 5), (.int .i64 10)]), y60, (.bool true), (.bool true), (.bool true), (.agg #[(.int .i64 0), (.int .i64 4)]), (.agg #[(.int .i64 6), (.int .i64 9)]), y66, (.agg #[(.int .i64 2), (.int .i64 7)]), y68, y69, (.agg #[(.int .i64 2), (.int .i64 4)]), (.agg #[(.int .i64 6), (.int .i64 7)]), y72, (.bool true), (.bool true), (.bool true), (.agg #[(.int .i64 0), (.int .i64 4)]), (.agg #[(.int .i64 2), (.int .i64 6)]), y78, (.int .i64 6), (.bool true), (.bool true), (.bool true)] 112) w0 := by
  have I0 : Inv g gs w0 w0 := ⟨Below.refl w0.heap.size w0, C, s0, s1⟩
  refine take 57 83 (.slice (some ⟨g, 0, none⟩) 5 5) hQ ?_
  refine take 58 84 (.slice (some ⟨g, 0, none⟩) 1 5) hQ ?_
  refine take 59 85 (.slice (some ⟨g, 0, none⟩) 5 5) hQ ?_
  refine take 60 86 (.slice (some ⟨g, 2, none⟩) 1 4) hQ ?_
  refine any1 61 ?_
  refine enter 87 22 #[(.slice (some ⟨g, 0, none⟩) 1 5), (.slice (some ⟨g, 2, none⟩) 1 4)] ?_
  have Cp : SpC w0 (some ⟨g, 0, none⟩) [⟨5, 8⟩] := SpC_part (xs := []) (ys := [⟨5, 8⟩]) (zs := [⟨1, 3⟩, ⟨7, 7⟩, ⟨3, 4⟩, ⟨6, 9⟩]) I0.C
  have Cq : SpC w0 (some ⟨g, 2, none⟩) [⟨1, 3⟩] := SpC_part (xs := [⟨5, 8⟩]) (ys := [⟨1, 3⟩]) (zs := [⟨7, 7⟩, ⟨3, 4⟩, ⟨6, 9⟩]) I0.C
  refine (span_Union.calls _ 5 [⟨5, 8⟩] _ 4 [⟨1, 3⟩] [⟨1, 3⟩, ⟨5, 8⟩] _ Cp (by simp) Cq (by simp) f9).mono ?_; rintro e w157 ⟨v, rfl, Rr, B⟩; obtain ⟨A157, c157, rfl, hl157, r157⟩ := Kd.R_reads Rr; clear Rr; refine ⟨_, rfl, ?_⟩
  have I158 := I0.next B; clear B
  refine take 62 88 (.int .i64 2) hQ ?_
  refine take 63 89 (.bool true) hQ ?_
  refine take 64 90 (.bool true) hQ ?_
  refine take 65 91 (.bool true) hQ ?_
  exact same (hk (.slice A157 2 c157) w157 I158.HB)

theorem c9 {Q : Exit → Act → World → Prop} (hQ : ∀ c (a : Act) d v w, Q (.panic c) (a.put d v) w → Q (.panic c) a w) (g gs : Nat) (x0 x4 x6 x7 x8 x9 x10 x11 x12 x13 x14 x15 x16 x17 x18 x19 x20 x21 x22 x23 x24 x25 y38 y41 y54 y56 y57 y60 y66 y68 y69 y72 y78 y87 : Value) (w0 : World)
    (C : SpC w0 (some ⟨g, 0, none⟩) la) (s0 : w0.cell? ⟨gs, 0, none⟩ = some (.int .i64 5)) (s1 : w0.cell? ⟨gs, 1, none⟩ = some (.int .i64 8))
    (hk : ∀ (w : World), Below w0.heap.size w0 w → wpAny Try.prog .any (R Try.f15 4) Q 12 (L 87 75) (F [x0, (.slice (some ⟨g, 0, none⟩) 5 5), (.pointer (some ⟨gs, 0, none⟩)), (.bool true), x4, (.bool false), x6, x7, x8, x9, x10, x11, x12, x13, x14, x15, x16, x17, x18, x19, x20, x21, x22, x23, x24, x25, (.agg #[(.int .i64 (-2)), (.int .i64 3)]), (.int .i64 5), (.bool true), (.bool true), (.agg #[(.int .i64 1), (.int .i64 5)]), (.agg #[(.int .i64 3), (.int .i64 9)]), (.agg #[(.int .i64 3), (.int .i64 5)]), (.agg #[(.int .i64 3), (.int .i64 5)]), (.bool true), (.bool true), (.bool true), (.slice (some ⟨g, 0, none⟩) 5 5), y38, (.agg #[(.int .i64 1), (.int .i64 4)]), (.agg #[(.int .i64 5), (.int .i64 9)]), y41, (.bool true), (.bool true), (.bool true), (.slice (some ⟨g, 0, none⟩) 5 5), (.bool false), (.bool true), (.bool true), (.bool true), (.bool true), (.bool true), (.bool true), (.agg #[(.int .i64 0), (.int .i64 10)]), y54, (.agg #[(.int .i64 3), (.int .i64 5)]), y56, y57, (.agg #[(.int .i64 0), (.int .i64 3)]), (.agg #[(.int .i64 5), (.int .i64 10)]), y60, (.bool true), (.bool true), (.bool true), (.agg #[(.int .i64 0), (.int .i64 4)]), (.agg #[(.int .i64 6), (.int .i64 9)]), y66, (.agg #[(.int .i64 2), (.int .i64 7)]), y68, y69, (.agg #[(.int .i64 2), (.int .i64 4)]), (.agg #[(.int .i64 6), (.int .i64 7)]), y72, (.bool true), (.bool true), (.bool true), (.agg #[(.int .i64 0), (.int .i64 4)]), (.agg #[(.int .i64 2), (.int .i64 6)]), y78, (.int .i64 6), (.bool true), (.bool true), (.bool true), (.slice (some ⟨g, 0, none⟩) 5 5), (.slice (some ⟨g, 0, none⟩) 1 5), (.slice (some ⟨g, 0, none⟩) 5 5), (.slice (some ⟨g, 2, none⟩) 1 4), y87, (.int .i64 2), (.bool true), (.bool true), (.bool true), (.slice (some ⟨g, 0, none⟩) 5 5), (.bool true), (.bool true), (.bool true), (.slice (some ⟨g, 0, none⟩) 5 5), (.bool false), (.bool true), (.bool true), (.bool true)] 112) w) :
    wpAny Try.prog .any (R Try.f15 4) Q 21 (L 87 66) (F [x0, (.slice (some ⟨g, 0, none⟩) 5 5), (.pointer (some ⟨gs, 0, none⟩)), (.bool true), x4, (.bool false), x6, x7, x8, x9, x10, x11, x12, x13, x14, x15, x16, x17, x18, x19, x20, x21, x22, x23, x24, x25, (.agg #[(.int .i64 (-2)), (.int .i64 3)]), (.int .i64 5), (.bool true), (.bool true), (.agg #[(.int .i64 1), (.int .i64 5)]), (.agg #[(.int .i64 3), (.int .i64 9)]), (.agg #[(.int .i64 3), (.int .i64 5)]), (.agg #[(.int .i64 3), (.int .i64 5)]), (.bool true), (.bool true), (.bool true), (.slice (some ⟨g, 0, none⟩) 5 5), y38, (.agg #[(.int .i64 1), (.int .i64 4)]), (.agg #[(.int .i64 5), (.int .i64 9)]), y41, (.bool true), (.bool true), (.bool true), (.slice (some ⟨g, 0, none⟩) 5 5), (.bool false), (.bool true), (.bool true), (.bool true), (.bool true), (.bool true), (.bool true), (.agg #[(.int .i64 0), (.int .i64 10)]), y54, (.agg #[(.int .i64 3), (.int .i64 5)]), y56, y57, (.agg #[(.int .i64 0), (.int .i64 3)]), (.agg #[(.int .i64 5), (.int .i64 10)]), y60, (.bool true), (.bool true), (.bool true), (.agg #[(.int .i64 0), (.int .i64 4)]), (.agg #[(.int .i64 6), (.int .i64 9)]), y66, (.agg #[(.int .i64 2), (.int .i64 7)]), y68, y69, (.agg #[(.int .i64 2), (.int .i64 4)]), (.agg #[(.int .i64 6), (.int .i64 7)]), y72, (.bool true), (.bool true), (.bool true), (.agg #[(.int .i64 0), (.int .i64 4)]), (.agg #[(.int .i64 2), (.int .i64 6)]), y78, (.int .i64 6), (.bool true), (.bool true), (.bool true), (.slice (some ⟨g, 0, none⟩) 5 5), (.slice (some ⟨g, 0, none⟩) 1 5), (.slice (some ⟨g, 0, none⟩) 5 5), (.slice (some ⟨g, 2, none⟩) 1 4), y87, (.int .i64 2), (.bool true), (.bool true), (.bool true)] 112) w0 := by
  have I0 : Inv g gs w0 w0 := ⟨Below.refl w0.heap.size w0, C, s0, s1⟩
  refine take 66 92 (.slice (some ⟨g, 0, none⟩) 5 5) hQ ?_
  refine any1 67 ?_
  refine enter 93 32 #[(.slice (some ⟨g, 0, none⟩) 5 5), (.int .i64 8)] ?_
  refine (span_Has.calls _ 5 la 8 true _ I0.C (by simp [la]) g13).mono ?_; rintro e w159 ⟨rfl, B⟩; refine ⟨_, rfl, ?_⟩
  have I160 := I0.next B; clear B
  refine take 68 94 (.bool true) hQ ?_
  refine take 69 95 (.bool true) hQ ?_
  refine take 70 96 (.slice (some ⟨g, 0, none⟩) 5 5) hQ ?_
  refine any1 71 ?_
  refine enter 97 32 #[(.slice (some ⟨g, 0, none⟩) 5 5), (.int .i64 4)] ?_
  refine (span_Has.calls _ 5 la 4 false _ I160.C (by simp [la]) g14).mono ?_; rintro e w161 ⟨rfl, B⟩; refine ⟨_, rfl, ?_⟩
  have I162 := I160.next B; clear B
  refine take 72 98 (.bool true) hQ ?_
  refine take 73 99 (.bool true) hQ ?_
  refine take 74 100 (.bool true) hQ ?_
  exact same (hk  w161 I162.HB)

theorem c10 {Q : Exit → Act → World → Prop} (hQ : ∀ c (a : Act) d v w, Q (.panic c) (a.put d v) w → Q (.panic c) a w) (g gs : Nat) (x0 x4 x6 x7 x8 x9 x10 x11 x12 x13 x14 x15 x16 x17 x18 x19 x20 x21 x22 x23 x24 x25 y38 y41 y54 y56 y57 y60 y66 y68 y69 y72 y78 y87 : Value) (w0 : World)
    (C : SpC w0 (some ⟨g, 0, none⟩) la) (s0 : w0.cell? ⟨gs, 0, none⟩ = some (.int .i64 5)) (s1 : w0.cell? ⟨gs, 1, none⟩ = some (.int .i64 8))
    (hk : ∀ (w : World), Below w0.heap.size w0 w → wpAny Try.prog .any (R Try.f15 4) Q 0 (L 87 87) (F [(.bool true), (.slice (some ⟨g, 0, none⟩) 5 5), (.pointer (some ⟨gs, 0, none⟩)), (.bool true), x4, (.bool false), x6, x7, x8, x9, x10, x11, x12, x13, x14, x15, x16, x17, x18, x19, x20, x21, x22, x23, x24, x25, (.agg #[(.int .i64 (-2)), (.int .i64 3)]), (.int .i64 5), (.bool true), (.bool true), (.agg #[(.int .i64 1), (.int .i64 5)]), (.agg #[(.int .i64 3), (.int .i64 9)]), (.agg #[(.int .i64 3), (.int .i64 5)]), (.agg #[(.int .i64 3), (.int .i64 5)]), (.bool true), (.bool true), (.bool true), (.slice (some ⟨g, 0, none⟩) 5 5), y38, (.agg #[(.int .i64 1), (.int .i64 4)]), (.agg #[(.int .i64 5), (.int .i64 9)]), y41, (.bool true), (.bool true), (.bool true), (.slice (some ⟨g, 0, none⟩) 5 5), (.bool false), (.bool true), (.bool true), (.bool true), (.bool true), (.bool true), (.bool true), (.agg #[(.int .i64 0), (.int .i64 10)]), y54, (.agg #[(.int .i64 3), (.int .i64 5)]), y56, y57, (.agg #[(.int .i64 0), (.int .i64 3)]), (.agg #[(.int .i64 5), (.int .i64 10)]), y60, (.bool true), (.bool true), (.bool true), (.agg #[(.int .i64 0), (.int .i64 4)]), (.agg #[(.int .i64 6), (.int .i64 9)]), y66, (.agg #[(.int .i64 2), (.int .i64 7)]), y68, y69, (.agg #[(.int .i64 2), (.int .i64 4)]), (.agg #[(.int .i64 6), (.int .i64 7)]), y72, (.bool true), (.bool true), (.bool true), (.agg #[(.int .i64 0), (.int .i64 4)]), (.agg #[(.int .i64 2), (.int .i64 6)]), y78, (.int .i64 6), (.bool true), (.bool true), (.bool true), (.slice (some ⟨g, 0, none⟩) 5 5), (.slice (some ⟨g, 0, none⟩) 1 5), (.slice (some ⟨g, 0, none⟩) 5 5), (.slice (some ⟨g, 2, none⟩) 1 4), y87, (.int .i64 2), (.bool true), (.bool true), (.bool true), (.slice (some ⟨g, 0, none⟩) 5 5), (.bool true), (.bool true), (.bool true), (.slice (some ⟨g, 0, none⟩) 5 5), (.bool false), (.bool true), (.bool true), (.bool true), (.agg #[(.int .i64 5), (.int .i64 8)]), (.agg #[(.int .i64 5), (.int .i64 8)]), (.bool true), (.bool true), (.bool true), (.bool true), (.bool true), (.bool true), (.bool false), (.bool true), (.bool true)] 112) w) :
    wpAny Try.prog .any (R Try.f15 4) Q 12 (L 87 75) (F [x0, (.slice (some ⟨g, 0, none⟩) 5 5), (.pointer (some ⟨gs, 0, none⟩)), (.bool true), x4, (.bool false), x6, x7, x8, x9, x10, x11, x12, x13, x14, x15, x16, x17, x18, x19, x20, x21, x22, x23, x24, x25, (.agg #[(.int .i64 (-2)), (.int .i64 3)]), (.int .i64 5), (.bool true), (.bool true), (.agg #[(.int .i64 1), (.int .i64 5)]), (.agg #[(.int .i64 3), (.int .i64 9)]), (.agg #[(.int .i64 3), (.int .i64 5)]), (.agg #[(.int .i64 3), (.int .i64 5)]), (.bool true), (.bool true), (.bool true), (.slice (some ⟨g, 0, none⟩) 5 5), y38, (.agg #[(.int .i64 1), (.int .i64 4)]), (.agg #[(.int .i64 5), (.int .i64 9)]), y41, (.bool true), (.bool true), (.bool true), (.slice (some ⟨g, 0, none⟩) 5 5), (.bool false), (.bool true), (.bool true), (.bool true), (.bool true), (.bool true), (.bool true), (.agg #[(.int .i64 0), (.int .i64 10)]), y54, (.agg #[(.int .i64 3), (.int .i64 5)]), y56, y57, (.agg #[(.int .i64 0), (.int .i64 3)]), (.agg #[(.int .i64 5), (.int .i64 10)]), y60, (.bool true), (.bool true), (.bool true), (.agg #[(.int .i64 0), (.int .i64 4)]), (.agg #[(.int .i64 6), (.int .i64 9)]), y66, (.agg #[(.int .i64 2), (.int .i64 7)]), y68, y69, (.agg #[(.int .i64 2), (.int .i64 4)]), (.agg #[(.int .i64 6), (.int .i64 7)]), y72, (.bool true), (.bool true), (.bool true), (.agg #[(.int .i64 0), (.int .i64 4)]), (.agg #[(.int .i64 2), (.int .i64 6)]), y78, (.int .i64 6), (.bool true), (.bool true), (.bool true), (.slice (some ⟨g, 0, none⟩) 5 5), (.slice (some ⟨g, 0, none⟩) 1 5), (.slice (some ⟨g, 0, none⟩) 5 5), (.slice (some ⟨g, 2, none⟩) 1 4), y87, (.int .i64 2), (.bool true), (.bool true), (.bool true), (.slice (some ⟨g, 0, none⟩) 5 5), (.bool true), (.bool true), (.bool true), (.slice (some ⟨g, 0, none⟩) 5 5), (.bool false), (.bool true), (.bool true), (.bool true)] 112) w0 := by
  have I0 : Inv g gs w0 w0 := ⟨Below.refl w0.heap.size w0, C, s0, s1⟩
  refine take 76 102 (.agg #[(.int .i64 5), (.int .i64 8)]) hQ ?_
  refine any1 75 ?_
  refine value 101 (.agg #[(.int .i64 5), (.int .i64 8)]) (w' := w0) ?_ (hv := load75 (by kernel_rfl) I0.s0 I0.s1)
  refine take 77 103 (.bool true) hQ ?_
  refine take 78 104 (.bool true) hQ ?_
  refine take 79 105 (.bool true) hQ ?_
  refine take 80 106 (.bool true) hQ ?_
  refine take 81 107 (.bool true) hQ ?_
  refine take 82 108 (.bool true) hQ ?_
  refine take 83 109 (.bool false) hQ ?_
  refine take 84 110 (.bool true) hQ ?_
  refine take 85 111 (.bool true) hQ ?_
  refine take 86 0 (.bool true) hQ ?_
  exact same (hk  w0 I0.HB)

theorem region4 {Q : Exit → Act → World → Prop} (hQ : ∀ c (a : Act) d v w, Q (.panic c) (a.put d v) w → Q (.panic c) a w) (g gs : Nat) (x0 x4 x6 x7 x8 x9 x10 x11 x12 x13 x14 x15 x16 x17 x18 x19 x20 x21 x22 x23 x24 x25 : Value) (w0 : World)
    (C : SpC w0 (some ⟨g, 0, none⟩) la) (s0 : w0.cell? ⟨gs, 0, none⟩ = some (.int .i64 5)) (s1 : w0.cell? ⟨gs, 1, none⟩ = some (.int .i64 8))
    (hq : ∀ (y38 y41 y54 y56 y57 y60 y66 y68 y69 y72 y78 y87 : Value) (w : World), Below w0.heap.size w0 w → Q .normal (F [(.bool true), (.slice (some ⟨g, 0, none⟩) 5 5), (.pointer (some ⟨gs, 0, none⟩)), (.bool true), x4, (.bool false), x6, x7, x8, x9, x10, x11, x12, x13, x14, x15, x16, x17, x18, x19, x20, x21, x22, x23, x24, x25, (.agg #[(.int .i64 (-2)), (.int .i64 3)]), (.int .i64 5), (.bool true), (.bool true), (.agg #[(.int .i64 1), (.int .i64 5)]), (.agg #[(.int .i64 3), (.int .i64 9)]), (.agg #[(.int .i64 3), (.int .i64 5)]), (.agg #[(.int .i64 3), (.int .i64 5)]), (.bool true), (.bool true), (.bool true), (.slice (some ⟨g, 0, none⟩) 5 5), y38, (.agg #[(.int .i64 1), (.int .i64 4)]), (.agg #[(.int .i64 5), (.int .i64 9)]), y41, (.bool true), (.bool true), (.bool true), (.slice (some ⟨g, 0, none⟩) 5 5), (.bool false), (.bool true), (.bool true), (.bool true), (.bool true), (.bool true), (.bool true), (.agg #[(.int .i64 0), (.int .i64 10)]), y54, (.agg #[(.int .i64 3), (.int .i64 5)]), y56, y57, (.agg #[(.int .i64 0), (.int .i64 3)]), (.agg #[(.int .i64 5), (.int .i64 10)]), y60, (.bool true), (.bool true), (.bool true), (.agg #[(.int .i64 0), (.int .i64 4)]), (.agg #[(.int .i64 6), (.int .i64 9)]), y66, (.agg #[(.int .i64 2), (.int .i64 7)]), y68, y69, (.agg #[(.int .i64 2), (.int .i64 4)]), (.agg #[(.int .i64 6), (.int .i64 7)]), y72, (.bool true), (.bool true), (.bool true), (.agg #[(.int .i64 0), (.int .i64 4)]), (.agg #[(.int .i64 2), (.int .i64 6)]), y78, (.int .i64 6), (.bool true), (.bool true), (.bool true), (.slice (some ⟨g, 0, none⟩) 5 5), (.slice (some ⟨g, 0, none⟩) 1 5), (.slice (some ⟨g, 0, none⟩) 5 5), (.slice (some ⟨g, 2, none⟩) 1 4), y87, (.int .i64 2), (.bool true), (.bool true), (.bool true), (.slice (some ⟨g, 0, none⟩) 5 5), (.bool true), (.bool true), (.bool true), (.slice (some ⟨g, 0, none⟩) 5 5), (.bool false), (.bool true), (.bool true), (.bool true), (.agg #[(.int .i64 5), (.int .i64 8)]), (.agg #[(.int .i64 5), (.int .i64 8)]), (.bool true), (.bool true), (.bool true), (.bool true), (.bool true), (.bool true), (.bool false), (.bool true), (.bool true)] 112) w) :
    wpAny Try.prog .any (R Try.f15 4) Q 87 (L 87 0) (F [x0, (.slice (some ⟨g, 0, none⟩) 5 5), (.pointer (some ⟨gs, 0, none⟩)), (.bool true), x4, (.bool false), x6, x7, x8, x9, x10, x11, x12, x13, x14, x15, x16, x17, x18, x19, x20, x21, x22, x23, x24, x25] 112) w0 := by
  refine c1 hQ g gs _ _ _ _ _ _ _ _ _ _ _ _ _ _ _ _ _ _ _ _ _ _ w0 C s0 s1 ?_
  intro  w1 B1
  have D1 := B1
  have C1 := Kd.C_below C B1
  have s0_1 := (B1.cell (World.block_lt_of_cell? _ _ s0)).trans s0
  have s1_1 := (B1.cell (World.block_lt_of_cell? _ _ s1)).trans s1
  refine c2 hQ g gs _ _ _ _ _ _ _ _ _ _ _ _ _ _ _ _ _ _ _ _ _ _ w1 C1 s0_1 s1_1 ?_
  intro y38 y41 w2 B2
  have D2 := D1.trans (B2.mono D1.size)
  have C2 := Kd.C_below C1 B2
  have s0_2 := (B2.cell (World.block_lt_of_cell? _ _ s0_1)).trans s0_1
  have s1_2 := (B2.cell (World.block_lt_of_cell? _ _ s1_1)).trans s1_1
  refine c3 hQ g gs _ _ _ _ _ _ _ _ _ _ _ _ _ _ _ _ _ _ _ _ _ _ _ _ w2 C2 s0_2 s1_2 ?_
  intro  w3 B3
  have D3 := D2.trans (B3.mono D2.size)
  have C3 := Kd.C_below C2 B3
  have s0_3 := (B3.cell (World.block_lt_of_cell? _ _ s0_2)).trans s0_2
  have s1_3 := (B3.cell (World.block_lt_of_cell? _ _ s1_2)).trans s1_2
  refine c4 hQ g gs _ _ _ _ _ _ _ _ _ _ _ _ _ _ _ _ _ _ _ _ _ _ _ _ w3 C3 s0_3 s1_3 ?_
  intro  w4 B4
  have D4 := D3.trans (B4.mono D3.size)
  have C4 := Kd.C_below C3 B4
  have s0_4 := (B4.cell (World.block_lt_of_cell? _ _ s0_3)).trans s0_3
  have s1_4 := (B4.cell (World.block_lt_of_cell? _ _ s1_3)).trans s1_3
  refine c5 hQ g gs _ _ _ _ _ _ _ _ _ _ _ _ _ _ _ _ _ _ _ _ _ _ _ _ w4 C4 s0_4 s1_4 ?_
  intro y54 y56 y57 y60 w5 B5
  have D5 := D4.trans (B5.mono D4.size)
  have C5 := Kd.C_below C4 B5
  have s0_5 := (B5.cell (World.block_lt_of_cell? _ _ s0_4)).trans s0_4
  have s1_5 := (B5.cell (World.block_lt_of_cell? _ _ s1_4)).trans s1_4
  refine c6 hQ g gs _ _ _ _ _ _ _ _ _ _ _ _ _ _ _ _ _ _ _ _ _ _ _ _ _ _ _ _ w5 C5 s0_5 s1_5 ?_
  intro y66 y68 y69 y72 w6 B6
  have D6 := D5.trans (B6.mono D5.size)
  have C6 := Kd.C_below C5 B6
  have s0_6 := (B6.cell (World.block_lt_of_cell? _ _ s0_5)).trans s0_5
  have s1_6 := (B6.cell (World.block_lt_of_cell? _ _ s1_5)).trans s1_5
  refine c7 hQ g gs _ _ _ _ _ _ _ _ _ _ _ _ _ _ _ _ _ _ _ _ _ _ _ _ _ _ _ _ _ _ _ _ w6 C6 s0_6 s1_6 ?_
  intro y78 w7 B7
  have D7 := D6.trans (B7.mono D6.size)
  have C7 := Kd.C_below C6 B7
  have s0_7 := (B7.cell (World.block_lt_of_cell? _ _ s0_6)).trans s0_6
  have s1_7 := (B7.cell (World.block_lt_of_cell? _ _ s1_6)).trans s1_6
  refine c8 hQ g gs _ _ _ _ _ _ _ _ _ _ _ _ _ _ _ _ _ _ _ _ _ _ _ _ _ _ _ _ _ _ _ _ _ w7 C7 s0_7 s1_7 ?_
  intro y87 w8 B8
  have D8 := D7.trans (B8.mono D7.size)
  have C8 := Kd.C_below C7 B8
  have s0_8 := (B8.cell (World.block_lt_of_cell? _ _ s0_7)).trans s0_7
  have s1_8 := (B8.cell (World.block_lt_of_cell? _ _ s1_7)).trans s1_7
  refine c9 hQ g gs _ _ _ _ _ _ _ _ _ _ _ _ _ _ _ _ _ _ _ _ _ _ _ _ _ _ _ _ _ _ _ _ _ _ w8 C8 s0_8 s1_8 ?_
  intro  w9 B9
  have D9 := D8.trans (B9.mono D8.size)
  have C9 := Kd.C_below C8 B9
  have s0_9 := (B9.cell (World.block_lt_of_cell? _ _ s0_8)).trans s0_8
  have s1_9 := (B9.cell (World.block_lt_of_cell? _ _ s1_8)).trans s1_8
  refine c10 hQ g gs _ _ _ _ _ _ _ _ _ _ _ _ _ _ _ _ _ _ _ _ _ _ _ _ _ _ _ _ _ _ _ _ _ _ w9 C9 s0_9 s1_9 ?_
  intro  w10 B10
  have D10 := D9.trans (B10.mono D9.size)
  exact wpAny_done (by kernel_rfl) (hq _ _ _ _ _ _ _ _ _ _ _ _ _ D10) 0

end Go.Proofs.Ytioglhaofcmebaa.P.Ext
