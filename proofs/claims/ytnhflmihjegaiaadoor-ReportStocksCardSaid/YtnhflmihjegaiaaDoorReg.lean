/- Steps through a region that draws its order: an operation that may come up, written as a law of its own. -/
import Derived.Test.YtnhflmihjegaiaaDoorProg
import Derived.Orders
import Derived.KernelRfl
namespace Go.Proofs.YtnhflmihjegaiaaDoor.Reg
open Go

/-- The operations of a function's region. -/
def find : Code → Nat → Option (Array Oper)
  | .region i o _, n => if i == n then some o else none
  | .seq a b, n => match find a n with
    | some o => some o
    | none => find b n
  | .cond _ a b, n => match find a n with
    | some o => some o
    | none => find b n
  | .block _ b, n => find b n
  | .loop b, n => find b n
  | .scope b, n => find b n
  | _, _ => none
def ops (c : Code) (n : Nat) : Array Oper := (find c n).getD #[]
def R (f : Func) (k : Nat) : Array Oper := ops (f.body.getD .ret) k
def O (f : Func) (k i : Nat) : Oper := (R f k)[i]!
/-- The first m of n have come up. -/
def L (n m : Nat) : Array Bool := Array.replicate m true ++ Array.replicate (n - m) false
/-- A frame of n places of which the first are given. -/
def F (h : List Value) (n : Nat) : Act := ⟨(h ++ List.replicate (n - h.length) undef).toArray, []⟩

section
variable {P : Program} {R : Array Oper} {Q : Exit → Act → World → Prop} {md : Region.Mode}

/-- Operation i comes up: hidden, so that no elaborator looks into it. -/
structure Step (P : Program) (R : Array Oper) (Q : Exit → Act → World → Prop) (i : Nat) (K : Act → World → Prop) (a : Act) (w : World) : Prop where
  out : wpOp P R Q i K a w

theorem take {f : Func} {k : Nat} (i d : Nat) (v : Value) {n : Nat} {l : Array Bool} {a : Act} {w : World}
    (hQ : ∀ c (a : Act) d v w, Q (.panic c) (a.put d v) w → Q (.panic c) a w) (h : wpAny P md (Reg.R f k) Q n (l.setIfInBounds i true) (a.put (some d) v) w)
    (hi : (Reg.R f k)[i]? = some (O f k i) := by kernel_rfl) (hd : (O f k i).dst = some d := by kernel_rfl) (hs : Region.noSelect (Reg.R f k) = true := by kernel_rfl)
    (hf : Region.free md (Reg.R f k) l i = true := by kernel_rfl) (hr : (Region.ready md (Reg.R f k) l).contains i = true := by kernel_rfl)
    (hw : Region.wanted (O f k i) (yielded (Reg.R f k) a.tmps) = true := by kernel_rfl) (hv : ∀ w, (execOp a.eval (O f k i)).run P w = .ok (.value v) w := by intro _; kernel_rfl) :
    wpAny P md (Reg.R f k) Q (n + 1) l a w :=
  wpAny_take hi hs hf hr (fun c a w => hQ c a _ _ w) (Or.inl ⟨hw, hv⟩) (by rw [hd]; exact h)

/-- An operation whose guard is false. -/
theorem pass {f : Func} {k : Nat} (i d : Nat) {n : Nat} {l : Array Bool} {a : Act} {w : World}
    (hQ : ∀ c (a : Act) d v w, Q (.panic c) (a.put d v) w → Q (.panic c) a w) (h : wpAny P md (Reg.R f k) Q n (l.setIfInBounds i true) (a.put (some d) undef) w)
    (hi : (Reg.R f k)[i]? = some (O f k i) := by kernel_rfl) (hd : (O f k i).dst = some d := by kernel_rfl) (hs : Region.noSelect (Reg.R f k) = true := by kernel_rfl)
    (hf : Region.free md (Reg.R f k) l i = true := by kernel_rfl) (hr : (Region.ready md (Reg.R f k) l).contains i = true := by kernel_rfl)
    (hw : Region.wanted (O f k i) (yielded (Reg.R f k) a.tmps) = false := by kernel_rfl) :
    wpAny P md (Reg.R f k) Q (n + 1) l a w :=
  wpAny_take hi hs hf hr (fun c a w => hQ c a _ _ w) (Or.inr ⟨hw, rfl⟩) (by rw [hd]; exact h)

theorem any1 (i : Nat) {n : Nat} {l : Array Bool} {a : Act} {w : World}
    (h : Step P R Q i (wpAny P md R Q n (l.setIfInBounds i true)) a w) (hr : Region.ready md R l = [i] := by kernel_rfl) : wpAny P md R Q (n + 1) l a w :=
  wpAny_all hr (by simp) (fun j hj => by simp at hj; subst hj; exact h.out)

theorem any2 (i j : Nat) {n : Nat} {l : Array Bool} {a : Act} {w : World}
    (h1 : Step P R Q i (wpAny P md R Q n (l.setIfInBounds i true)) a w) (h2 : Step P R Q j (wpAny P md R Q n (l.setIfInBounds j true)) a w) (hr : Region.ready md R l = [i, j] := by kernel_rfl) : wpAny P md R Q (n + 1) l a w :=
  wpAny_all hr (by simp) (fun k hk => by simp at hk; rcases hk with rfl | rfl; exact h1.out; exact h2.out)

theorem any3 (i j m : Nat) {n : Nat} {l : Array Bool} {a : Act} {w : World}
    (h1 : Step P R Q i (wpAny P md R Q n (l.setIfInBounds i true)) a w) (h2 : Step P R Q j (wpAny P md R Q n (l.setIfInBounds j true)) a w) (h3 : Step P R Q m (wpAny P md R Q n (l.setIfInBounds m true)) a w) (hr : Region.ready md R l = [i, j, m] := by kernel_rfl) : wpAny P md R Q (n + 1) l a w :=
  wpAny_all hr (by simp) (fun k hk => by simp at hk; rcases hk with rfl | rfl | rfl; exact h1.out; exact h2.out; exact h3.out)

theorem value {f : Func} {k i : Nat} (d : Nat) (v : Value) {w' : World} {K : Act → World → Prop} {a : Act} {w : World} (h : K (a.put (some d) v) w')
    (hi : (Reg.R f k)[i]? = some (O f k i) := by kernel_rfl) (hd : (O f k i).dst = some d := by kernel_rfl)
    (hw : Region.wanted (O f k i) (yielded (Reg.R f k) a.tmps) = true := by kernel_rfl) (hv : (execOp a.eval (O f k i)).run P w = .ok (.value v) w' := by kernel_rfl) : Step P (Reg.R f k) Q i K a w := by
  constructor
  unfold wpOp
  rw [hi]
  dsimp only
  rw [if_pos hw]
  refine Or.inl ?_
  unfold Oper.wp
  rw [hv, Oper.upon_value, hd]
  exact h

theorem enter {f : Func} {k i : Nat} (d : Nat) (g : FuncId) (args : Array Value) {K : Act → World → Prop} {a : Act} {w : World}
    (h : Calls P g args w fun e w' => ∃ v, e = .returned v ∧ K (a.put (some d) v) w')
    (hi : (Reg.R f k)[i]? = some (O f k i) := by kernel_rfl) (hd : (O f k i).dst = some d := by kernel_rfl)
    (hw : Region.wanted (O f k i) (yielded (Reg.R f k) a.tmps) = true := by kernel_rfl) (hv : (execOp a.eval (O f k i)).run P w = .ok (.enter g args) w := by kernel_rfl) : Step P (Reg.R f k) Q i K a w := by
  constructor
  unfold wpOp
  rw [hi]
  dsimp only
  rw [if_pos hw]
  refine Or.inl ?_
  unfold Oper.wp
  rw [hv, Oper.upon_enter, hd]
  exact h.mono (fun e w' he => by obtain ⟨v, rfl, hk⟩ := he; exact hk)

theorem same {n : Nat} {l l' : Array Bool} {a a' : Act} {w : World} (h : wpAny P md R Q n l' a' w) (hl : l = l' := by kernel_rfl) (ha : a = a' := by kernel_rfl) : wpAny P md R Q n l a w := by
  subst hl; subst ha; exact h

theorem start {f : Func} {k id n : Nat} {x : Array Oper} {a a' : Act} {w : World} (hm : P.follows .mixedOrders = true) (hx : x = Reg.R f k) (hn : x.size = n) (ha : a = a')
    (hl : Array.replicate n false = L n 0) (h : wpAny P .any (Reg.R f k) Q n (L n 0) a' { w with drawn := w.drawn + 1 }) : (Code.region id x true).wp P Q a w := by
  subst ha
  refine wp_region_any hm ?_
  rw [hn, hl, hx]
  exact h

end
end Go.Proofs.YtnhflmihjegaiaaDoor.Reg
