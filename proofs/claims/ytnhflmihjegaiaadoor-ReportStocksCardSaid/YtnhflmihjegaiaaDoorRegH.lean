/- Steps through a region that draws its order, under a condition S on the world (what its loads read). -/
import Derived.Test.YtnhflmihjegaiaaDoorReg
import Derived.OrdersHeld
namespace Go.Proofs.YtnhflmihjegaiaaDoor.RegH
open Go Reg

section
variable {P : Program} {Q : Exit → Act → World → Prop} {md : Region.Mode} {S : World → Prop}

theorem take {f : Func} {k : Nat} (i d : Nat) (v : Value) {n : Nat} {l : Array Bool} {a : Act} {w : World}
    (hQ : ∀ c (a : Act) d v w, Q (.panic c) (a.put d v) w → Q (.panic c) a w) (hS : S w) (hv : ∀ w, S w → (execOp a.eval (O f k i)).run P w = .ok (.value v) w)
    (h : wpAnyH P md (Reg.R f k) Q S n (l.setIfInBounds i true) (a.put (some d) v) w)
    (hi : (Reg.R f k)[i]? = some (O f k i) := by kernel_rfl) (hd : (O f k i).dst = some d := by kernel_rfl) (hs : Region.noSelect (Reg.R f k) = true := by kernel_rfl)
    (hf : Region.free md (Reg.R f k) l i = true := by kernel_rfl) (hr : (Region.ready md (Reg.R f k) l).contains i = true := by kernel_rfl)
    (hw : Region.wanted (O f k i) (yielded (Reg.R f k) a.tmps) = true := by kernel_rfl) :
    wpAnyH P md (Reg.R f k) Q S (n + 1) l a w :=
  wpAnyH_take hi hs hf hr (fun c a w => hQ c a _ _ w) (Or.inl ⟨hw, hv⟩) hS (by rw [hd]; exact h)

theorem any1 {R : Array Oper} (i : Nat) {n : Nat} {l : Array Bool} {a : Act} {w : World}
    (h : Step P R Q i (fun a' w' => S w' ∧ wpAnyH P md R Q S n (l.setIfInBounds i true) a' w') a w) (hr : Region.ready md R l = [i] := by kernel_rfl) : wpAnyH P md R Q S (n + 1) l a w :=
  wpAnyH_all hr (by simp) (fun j hj => by simp at hj; subst hj; exact h.out)
theorem any2 {R : Array Oper} (i j : Nat) {n : Nat} {l : Array Bool} {a : Act} {w : World}
    (h1 : Step P R Q i (fun a' w' => S w' ∧ wpAnyH P md R Q S n (l.setIfInBounds i true) a' w') a w) (h2 : Step P R Q j (fun a' w' => S w' ∧ wpAnyH P md R Q S n (l.setIfInBounds j true) a' w') a w) (hr : Region.ready md R l = [i, j] := by kernel_rfl) : wpAnyH P md R Q S (n + 1) l a w :=
  wpAnyH_all hr (by simp) (fun k hk => by simp at hk; rcases hk with rfl | rfl; exact h1.out; exact h2.out)

theorem skip {f : Func} {k i : Nat} {w' : World} {K : Act → World → Prop} {a : Act} {w : World} (h : K (a.put none undef) w')
    (hv : (execOp a.eval (O f k i)).run P w = .ok .skip w') (hi : (Reg.R f k)[i]? = some (O f k i) := by kernel_rfl) (hd : (O f k i).dst = none := by kernel_rfl)
    (hw : Region.wanted (O f k i) (yielded (Reg.R f k) a.tmps) = true := by kernel_rfl) : Step P (Reg.R f k) Q i K a w := by
  constructor
  unfold wpOp
  rw [hi]
  dsimp only
  rw [if_pos hw]
  refine Or.inl ?_
  unfold Oper.wp
  rw [hv, Oper.upon_skip, hd]
  exact h

theorem same {R : Array Oper} {n : Nat} {l l' : Array Bool} {a a' : Act} {w : World} (h : wpAnyH P md R Q S n l' a' w) (hl : l = l' := by kernel_rfl) (ha : a = a' := by kernel_rfl) : wpAnyH P md R Q S n l a w := by
  subst hl; subst ha; exact h

theorem start {f : Func} {k id n : Nat} {x : Array Oper} {a a' : Act} {w : World} (hm : P.follows .mixedOrders = true) (hx : x = Reg.R f k) (hn : x.size = n) (ha : a = a')
    (hl : Array.replicate n false = L n 0) (h : wpAnyH P .any (Reg.R f k) Q S n (L n 0) a' { w with drawn := w.drawn + 1 }) : (Code.region id x true).wp P Q a w := by
  subst ha
  refine wp_region_held (S := S) hm ?_
  rw [hn, hl, hx]
  exact h
end
end Go.Proofs.YtnhflmihjegaiaaDoor.RegH
