/- report.Stock: what its loop keeps (the tallies, the map, the memory below), and what each step does to it. -/
import Derived.Test.YtnhflmihjegaiaaDoorTally
import Derived.Test.YtnhflmihjegaiaaDoorStockS
import Derived.Test.YtnhflmihjegaiaaDoorItem
namespace Go.Proofs.YtnhflmihjegaiaaDoor
open Go Go.RowKit Go.Sort Go.Shelf Go.Maps Go.Proofs.YtnhflmihjegaiaaDoorW.PrintWords P
set_option linter.unusedSimpArgs false
set_option linter.unusedVariables false

/-- The row of a board, its count 0. -/
def itemT (x : S100) : S42 := ⟨x.f0.f3, lenG x.f0.f4.f2.f0 x.f0.f4.f2.f1, x.f0.f10, 0, 0⟩
def stockK (l : List S100) (place : Int) (k : Nat) : List S42 := (l.take k).foldl (fun xs x => if x.f1 = place then tallyP xs (itemT x) x.f0.f5 else xs) []
theorem stockK_succ (l : List S100) (place : Int) (k : Nat) (h : k < l.length) : stockK l place (k + 1) = if l[k].f1 = place then tallyP (stockK l place k) (itemT l[k]) l[k].f0.f5 else stockK l place k := by
  unfold stockK
  rw [List.take_add_one, List.getElem?_eq_getElem h]
  simp only [Option.toList_some, List.foldl_append, List.foldl_cons, List.foldl_nil]
theorem tallyP_len (xs : List S42) (x : S42) (v : Int) : (tallyP xs x v).length ≤ xs.length + 1 := by
  unfold tallyP
  split <;> simp
theorem stockK_len (l : List S100) (place : Int) : ∀ k, (stockK l place k).length ≤ k
  | 0 => by simp [stockK]
  | k + 1 => by
    have := stockK_len l place k
    rcases Nat.lt_or_ge k l.length with h | h
    · rw [stockK_succ l place k h]
      have h2 := tallyP_len (stockK l place k) (itemT l[k]) l[k].f0.f5
      split <;> omega
    · have e : stockK l place (k + 1) = stockK l place k := by unfold stockK; rw [List.take_of_length_le (by omega), List.take_of_length_le (by omega)]
      rw [e]; omega
theorem tallyP_wf {xs : List S42} {x : S42} {v : Int} (h : ∀ y ∈ xs, WfK y) (hx : WfK x) : ∀ y ∈ tallyP xs x v, WfK y := by
  unfold tallyP
  split
  · rename_i i hi
    intro y hy
    rcases List.mem_or_eq_of_mem_set hy with hy | rfl
    · exact h y hy
    · by_cases hl : i < xs.length
      · have := h xs[i] (List.getElem_mem hl)
        rw [List.getD_eq_getElem?_getD, List.getElem?_eq_getElem hl]
        exact this
      · rw [List.getD_eq_getElem?_getD, List.getElem?_eq_none (by omega)]
        exact hx
  · intro y hy
    rcases List.mem_append.1 hy with hy | hy
    · exact h y hy
    · rw [List.mem_singleton.1 hy]
      exact hx
theorem stockK_wf (l : List S100) (place : Int) (hw : ∀ x ∈ l, WfK (itemT x)) : ∀ k, ∀ y ∈ stockK l place k, WfK y
  | 0 => by simp [stockK]
  | k + 1 => by
    have := stockK_wf l place hw k
    rcases Nat.lt_or_ge k l.length with h | h
    · rw [stockK_succ l place k h]
      split
      · exact tallyP_wf this (hw _ (List.getElem_mem h))
      · exact this
    · have e : stockK l place (k + 1) = stockK l place k := by unfold stockK; rw [List.take_of_length_le (by omega), List.take_of_length_le (by omega)]
      rw [e]; exact this

theorem info129 : (Tryd.prog.info? 129).map (fun i => (i.zero, i.size, i.bytes)) = some (some (.agg #[.int .i64 0, .int .i64 0, .int .i64 0, .int .i64 0, .int .i64 0]), 5, 40) := by kernel_rfl
theorem info84 : (Tryd.prog.info? 84).map (fun i => (i.zero, i.size, i.bytes)) = some (some (.agg #[.int .i64 0, .int .i64 0, .int .i64 0, .int .i64 0, .int .i64 0]), 5, 40) := by kernel_rfl

/-- The map of the places, in memory. -/
def MapM (w : World) (mb : Nat) (ks : List Lit) : Prop := ∃ D n, w.ownsMap Tryd.prog 126 (plainElem Tryd.prog 3) mb n D ∧ MapR D ks ∧ n ≤ ks.length
theorem MapM.kept {w w' : World} {mb : Nat} {ks : List Lit} {row : Option Nat} (h : MapM w mb ks) (hg : w.grownBy w' row) (hne : some mb ≠ row) : MapM w' mb ks := by
  obtain ⟨D, n, h1, h2, h3⟩ := h
  exact ⟨D, n, h1.kept hg hne, h2, h3⟩
theorem MapM.below {w w' : World} {mb : Nat} {ks : List Lit} (h : MapM w mb ks) (B : Below w.heap.size w w') : MapM w' mb ks := h.kept (grown_of_below B none) (by simp)
theorem zero3 (w : World) : (zeroValue 3).run Tryd.prog w = .ok (.int .i64 0) w := by
  have hi := info3
  cases hq : Tryd.prog.info? 3 with
  | none => simp [hq] at hi
  | some i =>
    simp [hq] at hi
    simp [zeroValue, typeInfo, hq, hi.1]
theorem MapM.look_yes {w : World} {mb : Nat} {ks : List Lit} {x : S42} {i : Nat} (h : MapM w mb ks) (hx : WfK x) (hi : ks[i]? = some (keyS x)) :
    (Instr.lookup 122 (.map (some mb)) (.agg #[.int .i64 x.f0, .int .i64 x.f1, .int .i64 x.f2]) true).run Tryd.prog w = .ok (.tuple #[.int .i64 ((i : Nat) : Int), .bool true]) w := by
  obtain ⟨D, n, h1, h2, h3⟩ := h
  obtain ⟨v, ps, hrun, hv⟩ := h1.look_ok law126 Tryd.underlying122 (z := .int .i64 0) ((zero3 w)) (plainElem_int Tryd.underlying3 (by decide)) (key_ex x.f0 x.f1 x.f2 hx.1 hx.2.1 hx.2.2)
  have e1 : D.atKey (keyL x.f0 x.f1 x.f2) (.lit (.int .i64 0)) = .lit (.int .i64 ((i : Nat) : Int)) := h2.at_ i _ hi _
  rw [e1] at hv
  have e2 : Maps.has D (keyL x.f0 x.f1 x.f2) = true := h2.yes hi
  rw [e2] at hrun
  obtain ⟨c, rfl, hc, hwc⟩ := plainElem_int_inv Tryd.underlying3 hv
  simp only [Prod.mk.injEq, DataW.lit.injEq, Lit.int.injEq] at hc
  refine hrun.trans ?_
  simp_all
theorem MapM.look_no {w : World} {mb : Nat} {ks : List Lit} {x : S42} (h : MapM w mb ks) (hx : WfK x) (hn : keyS x ∉ ks) :
    (Instr.lookup 122 (.map (some mb)) (.agg #[.int .i64 x.f0, .int .i64 x.f1, .int .i64 x.f2]) true).run Tryd.prog w = .ok (.tuple #[.int .i64 0, .bool false]) w := by
  obtain ⟨D, n, h1, h2, h3⟩ := h
  obtain ⟨v, ps, hrun, hv⟩ := h1.look_ok law126 Tryd.underlying122 (z := .int .i64 0) ((zero3 w)) (plainElem_int Tryd.underlying3 (by decide)) (key_ex x.f0 x.f1 x.f2 hx.1 hx.2.1 hx.2.2)
  have e2 : Maps.has D (keyL x.f0 x.f1 x.f2) = false := h2.no hn
  rw [e2] at hrun
  rw [Maps.atKey_of_not_has e2] at hv
  obtain ⟨c, rfl, hc, hwc⟩ := plainElem_int_inv Tryd.underlying3 hv
  simp only [Prod.mk.injEq, DataW.lit.injEq, Lit.int.injEq] at hc
  refine hrun.trans ?_
  simp_all
theorem MapM.put {w : World} {mb : Nat} {ks : List Lit} {x : S42} (h : MapM w mb ks) (hx : WfK x) (hn : keyS x ∉ ks) (hl : ks.length < 1000000) :
    ∃ w', (Instr.mapUpdate 122 (.map (some mb)) (.agg #[.int .i64 x.f0, .int .i64 x.f1, .int .i64 x.f2]) (.int .i64 ((ks.length : Nat) : Int))).run Tryd.prog w = .ok () w' ∧ MapM w' mb (ks ++ [keyS x]) ∧ w.grownBy w' (some mb) := by
  obtain ⟨D, n, h1, h2, h3⟩ := h
  obtain ⟨w', hrun, h4, h5⟩ := h1.update law126 Tryd.underlying122 (by unfold maxLen; omega) (key_ex x.f0 x.f1 x.f2 hx.1 hx.2.1 hx.2.2) (val := .int .i64 ((ks.length : Nat) : Int)) (plainElem_int Tryd.underlying3 (wf64 (by omega)))
  exact ⟨w', hrun, ⟨_, n + 1, h4, h2.add (h1.tidy law126) trivial hn, by simp; omega⟩, h5⟩

theorem find_yes {xs : List S42} {x : S42} (hw : ∀ y ∈ xs, WfK y) (hx : WfK x) {i : Nat} (h : xs.findIdx? (sameK x) = some i) : ∃ hi : i < xs.length, (xs.map keyS)[i]? = some (keyS x) ∧ ∀ v, tallyP xs x v = xs.set i (bump xs[i] v) := by
  obtain ⟨hi, hp, _⟩ := List.findIdx?_eq_some_iff_getElem.1 h
  refine ⟨hi, ?_, fun v => ?_⟩
  · rw [List.getElem?_map, List.getElem?_eq_getElem hi]
    simp only [Option.map_some, Option.some.injEq]
    exact ((keyS_iff hx (hw _ (List.getElem_mem hi))).2 hp).symm
  · unfold tallyP
    rw [h]
    simp [List.getD_eq_getElem?_getD, List.getElem?_eq_getElem hi]
theorem find_no {xs : List S42} {x : S42} (hw : ∀ y ∈ xs, WfK y) (hx : WfK x) (h : xs.findIdx? (sameK x) = none) : keyS x ∉ xs.map keyS ∧ ∀ v, tallyP xs x v = (xs ++ [x]).set xs.length (bump ((xs ++ [x])[xs.length]'(by simp)) v) := by
  refine ⟨fun hm => ?_, fun v => ?_⟩
  · obtain ⟨y, hy, e⟩ := List.mem_map.1 hm
    have h1 := (keyS_iff hx (hw y hy)).1 e.symm
    have h2 := List.findIdx?_eq_none_iff.1 h y hy
    rw [h1] at h2
    cases h2
  · unfold tallyP
    rw [h]
    simp

theorem List.set_getElem?_self_of {α : Type} {l : List α} {i : Nat} {x : α} (h : l[i]? = some x) : l.set i x = l := by
  apply List.ext_getElem?
  intro j
  rw [List.getElem?_set]
  by_cases e : i = j
  · subst e
    obtain ⟨hl, he⟩ := List.getElem?_eq_some_iff.1 h
    simp [hl, he]
  · simp [e]

/-- What the first loop keeps. -/
structure SI (w wr : World) (mb : Nat) (v : Value) (xs : List S42) : Prop where
  tr : TR wr (mb + 1) v xs
  mp : MapM wr mb (xs.map keyS)
  bl : Below w.heap.size w wr
  lo : w.heap.size ≤ mb
  hi : mb < wr.heap.size
theorem SI.below {w wr w' : World} {mb : Nat} {v : Value} {xs : List S42} (h : SI w wr mb v xs) (B : Below wr.heap.size wr w') : SI w w' mb v xs :=
  ⟨Kd.R_below h.tr B, h.mp.below B, h.bl.trans (B.mono h.bl.size), h.lo, by have := h.hi; have := B.size; omega⟩
theorem mb_ne {g mb : Nat} (h : mb + 1 ≤ g) : some mb ≠ some g := by intro e; injection e; omega
theorem SI.set3 {w wr : World} {mb g n cap i : Nat} {xs : List S42} (h : SI w wr mb (.slice (some ⟨g, 0, none⟩) n cap) xs) (hi : i < xs.length) (b : Int) :
    SI w (wr.setCell ⟨g, i * 5 + 3, none⟩ (.int .i64 b)) mb (.slice (some ⟨g, 0, none⟩) n cap) (xs.set i { xs[i] with f3 := b }) := by
  obtain ⟨h1, h2⟩ := TR_set3 h.tr hi b
  have hg := (TR_block h.tr).2.1
  have hs := h.bl.size
  have hlo := h.lo
  refine ⟨h1, ?_, h.bl.grown h2 hs (fun k e => by injection e; omega), h.lo, ?_⟩
  · have e : (xs.set i { xs[i] with f3 := b }).map keyS = xs.map keyS := by
      rw [List.map_set]
      exact List.set_getElem?_self_of (by rw [List.getElem?_map, List.getElem?_eq_getElem hi]; rfl)
    rw [e]
    exact h.mp.kept h2 (mb_ne hg)
  · have := h.hi
    have := h2.size
    omega
theorem SI.set4 {w wr : World} {mb g n cap i : Nat} {xs : List S42} (h : SI w wr mb (.slice (some ⟨g, 0, none⟩) n cap) xs) (hi : i < xs.length) (b : Int) :
    SI w (wr.setCell ⟨g, i * 5 + 4, none⟩ (.int .i64 b)) mb (.slice (some ⟨g, 0, none⟩) n cap) (xs.set i { xs[i] with f4 := b }) := by
  obtain ⟨h1, h2⟩ := TR_set4 h.tr hi b
  have hg := (TR_block h.tr).2.1
  have hs := h.bl.size
  have hlo := h.lo
  refine ⟨h1, ?_, h.bl.grown h2 hs (fun k e => by injection e; omega), h.lo, ?_⟩
  · have e : (xs.set i { xs[i] with f4 := b }).map keyS = xs.map keyS := by
      rw [List.map_set]
      exact List.set_getElem?_self_of (by rw [List.getElem?_map, List.getElem?_eq_getElem hi]; rfl)
    rw [e]
    exact h.mp.kept h2 (mb_ne hg)
  · have := h.hi
    have := h2.size
    omega
theorem TR_ne {W : World} {base g n cap xb : Nat} {xs : List S42} {cs : Array Value} {t : TypeId} (h : TR W base (.slice (some ⟨g, 0, none⟩) n cap) xs) (hb : W.heap[xb]? = some (.cells cs t (0, 0))) (ht : 129 ≠ t) : g ≠ xb := by
  obtain ⟨_, _, _, _, cur, hh, _⟩ := TR_block h
  exact blk_ne hh hb ht
theorem TR_frozen {W : World} {base g n cap : Nat} {xs : List S42} (h : TR W base (.slice (some ⟨g, 0, none⟩) n cap) xs) (j : Nat) : W.frozen? ⟨g, j, none⟩ = false := by
  obtain ⟨_, _, _, _, cur, hh, _⟩ := TR_block h
  exact blk_frozen hh j
theorem TR_ne2 {W : World} {base xb : Nat} {v : Value} {xs : List S42} {cs : Array Value} {t : TypeId} (h : TR W base v xs) (hb : W.heap[xb]? = some (.cells cs t (0, 0))) (ht : 129 ≠ t) : some xb ≠ v.ownBlock := by
  rcases TR_shape h with ⟨rfl, _⟩ | ⟨g, cap, rfl⟩
  · simp [Value.ownBlock]
  · have := TR_ne h hb ht
    simp [Value.ownBlock]
    exact fun e => this e.symm
theorem cell_grown {W W' : World} {row : Option Nat} (hg : W.grownBy W' row) {b j : Nat} {v : Value} (h : W.cell? ⟨b, j, none⟩ = some v) (hne : some b ≠ row) : W'.cell? ⟨b, j, none⟩ = some v := by
  have h2 := hg.block b (World.block_lt_of_cell? _ _ h) hne
  unfold World.cell? at h ⊢
  rw [h2]
  exact h
theorem SI.put {w wr w1 : World} {mb : Nat} {v : Value} {xs : List S42} (h : SI w wr mb v xs) (hg : wr.grownBy w1 (some mb)) : TR w1 (mb + 1) v xs ∧ Below w.heap.size w w1 ∧ mb < w1.heap.size ∧ (∀ k, v.ownBlock = some k → mb < k) := by
  have hb := fun k hk => Kd.R_base h.tr k hk
  refine ⟨Kd.R_grown1 h.tr rfl hg (fun e => ?_), h.bl.grown hg h.bl.size (fun k e => by injection e; have := h.lo; omega), by have := h.hi; have := hg.size; omega, fun k hk => by have := hb k hk; omega⟩
  have := hb mb e.symm
  omega
theorem SI.push {w w1 w2 : World} {mb : Nat} {v v1 : Value} {xs ys : List S42} (hR : TR w2 (mb + 1) v1 ys) (hM : MapM w1 mb (ys.map keyS)) (hne : ∀ k, v.ownBlock = some k → mb < k) (hg : w1.grownBy w2 v.ownBlock) (hB : Below w.heap.size w w1) (hlo : w.heap.size ≤ mb) (hi : mb < w1.heap.size) : SI w w2 mb v1 ys :=
  ⟨hR, hM.kept hg (fun e => by have := hne mb e.symm; omega), hB.grown hg hB.size (fun k e => by have := hne k e; omega), hlo, by have := hg.size; omega⟩
theorem SI.bump3 {w wr : World} {mb g n cap i : Nat} {xs : List S42} (h : SI w wr mb (.slice (some ⟨g, 0, none⟩) n cap) xs) (hi : i < xs.length) :
    ∃ ys, ∃ hy : i < ys.length, SI w (wr.setCell ⟨g, i * 5 + 3, none⟩ (.int .i64 (wrap64 (xs[i].f3 + 1)))) mb (.slice (some ⟨g, 0, none⟩) n cap) ys ∧ ys.length = xs.length ∧ ∀ v, ys.set i { ys[i] with f4 := wrap64 (ys[i].f4 + v) } = xs.set i (bump xs[i] v) := by
  refine ⟨_, by rw [List.length_set]; exact hi, h.set3 hi _, by rw [List.length_set], fun v => ?_⟩
  simp only [List.getElem_set_self, List.set_set]
  rfl

section
variable {ops : Array Oper} {rest : List Oper} {o : Oper} {a : Act} {W : World} {Q : Exit → Act → World → Prop}
theorem look_event {s t N : Tmp} {v : Value} (hgd : o.guard = none) (hN : o.dst = some N) (ho : o.op = .lookup 122 (.tmp s) (.tmp t) true) {mb : Nat} {k : Value} (hm : a.eval (.tmp s) = .map (some mb)) (hk : a.eval (.tmp t) = k)
    (hrun : (Instr.lookup 122 (.map (some mb)) k true).run Tryd.prog W = .ok v W) (h : wpList Tryd.prog ops Q rest (a.put o.dst v) W) : wpList Tryd.prog ops Q (o :: rest) a W :=
  Kd.event_run hgd (by simp only [execOp, ho, hm, hk]; rw [Sem.run_bind, hrun]; rfl) h
theorem put_event {s t u : Tmp} (hgd : o.guard = none) (hN : o.dst = none) (ho : o.op = .mapUpdate 122 (.tmp s) (.tmp t) (.tmp u)) {mb : Nat} {k v : Value} (hm : a.eval (.tmp s) = .map (some mb)) (hk : a.eval (.tmp t) = k) (hv : a.eval (.tmp u) = v) {P1 : World → Prop}
    (hrun : ∃ w', (Instr.mapUpdate 122 (.map (some mb)) k v).run Tryd.prog W = .ok () w' ∧ P1 w') (h : ∀ w', P1 w' → wpList Tryd.prog ops Q rest a w') : wpList Tryd.prog ops Q (o :: rest) a W := by
  obtain ⟨w', hr, hp⟩ := hrun
  refine wpList_plain hgd fun K hK => ?_
  unfold Oper.wp
  simp only [execOp, ho, hm, hk, hv]
  rw [Sem.run_bind, hr]
  show K (a.put o.dst undef) w'
  rw [hN]
  exact hK _ _ (h _ hp)
theorem push_event {s t : Tmp} (hgd : o.guard = none) (ho : o.op = .call { callee := .builtin .append, args := #[.tmp s, .tmp t], argTypes := #[123, 123] }) {base : Nat} {v : Value} {xs : List S42} (x : S42) (hs : a.eval (.tmp s) = v) (hx : a.eval (.tmp t) = .slice (some ⟨W.heap.size, 0, none⟩) 1 1)
    (HR : TR W base v xs) (hb : base ≤ W.heap.size) (hl : xs.length ≤ 1000000)
    (h : ∀ v1 w1, TR w1 base v1 (xs ++ [x]) → W.grownBy w1 v.ownBlock → wpList Tryd.prog ops Q rest (a.put o.dst v1) w1) :
    wpList Tryd.prog ops Q (o :: rest) a (W.alloc (.cells #[.int .i64 x.f0, .int .i64 x.f1, .int .i64 x.f2, .int .i64 x.f3, .int .i64 x.f4] 129)) :=
  Kd.R_append k42 (w0 := W) base hgd (.tmp s) (.tmp t) 123 129 (.agg #[.int .i64 0, .int .i64 0, .int .i64 0, .int .i64 0, .int .i64 0]) 40 ho Tryd.underlying123 info129 rfl (Nat.succ_pos 4) (by omega) v xs x [.int .i64 x.f0, .int .i64 x.f1, .int .i64 x.f2, .int .i64 x.f3, .int .i64 x.f4] (fun _ => True) (fun _ => False) hs hx
    (k42_mkM _ _ _ x) (fun _ hk => hk.elim) (fun _ _ => trivial) HR ⟨rfl, rfl, rfl, Nat.le_refl _, fun _ _ => rfl⟩ hb (by omega) (fun v1 w1 h1 _ h3 _ => h v1 w1 h1 h3)
end
end Go.Proofs.YtnhflmihjegaiaaDoor
