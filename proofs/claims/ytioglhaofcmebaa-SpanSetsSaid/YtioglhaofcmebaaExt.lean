/- The functions that are given by hand to the printed texts: Canon, Union, Has, the reference's Minus. -/
import Derived.Test.YtioglhaofcmebaaPx0
import Derived.Test.YtioglhaofcmebaaPx1
import Derived.Test.YtioglhaofcmebaaSpG
namespace Go.Proofs.Ytioglhaofcmebaa.P.Ext
open Go.RowKit Go.Proofs.YtioglhaofcmebaaW.PrintWords Go.Proofs.Ytioglhaofcmebaa P
set_option linter.unusedSimpArgs false
set_option linter.unusedVariables false

def span_Canon.f (l : List S23) : Option (List S23) := if l.length ≤ 1000000 then some (canonL l) else none
theorem span_Canon.calls (A0 : Option Addr) (c0 : Nat) (l0 : List S23) (r : List S23) (w : World) (hr0 : Kd.C k23 w A0 l0.length l0) (hc0 : l0.length ≤ c0) (h : span_Canon.f l0 = some r) :
    Calls Try.prog 18 #[.slice A0 l0.length c0] w fun e w' => ∃ v0_ : Value, e = .returned (v0_) ∧ Kd.R k23 23 w' w.heap.size (fun _ => True) v0_ r ∧ Below w.heap.size w w' := by
  unfold span_Canon.f at h
  split at h
  · cases h; exact Canon_any w A0 c0 l0 hr0 hc0 (by assumption)
  · cases h

def span_Union.f (a b : List S23) : Option (List S23) := if a.length ≤ 400000 ∧ b.length ≤ 400000 then some (canonL (a ++ b)) else none
theorem span_Union.calls (A0 : Option Addr) (c0 : Nat) (l0 : List S23) (A1 : Option Addr) (c1 : Nat) (l1 : List S23) (r : List S23) (w : World) (hr0 : Kd.C k23 w A0 l0.length l0) (hc0 : l0.length ≤ c0) (hr1 : Kd.C k23 w A1 l1.length l1) (hc1 : l1.length ≤ c1) (h : span_Union.f l0 l1 = some r) :
    Calls Try.prog 22 #[.slice A0 l0.length c0, .slice A1 l1.length c1] w fun e w' => ∃ v0_ : Value, e = .returned (v0_) ∧ Kd.R k23 23 w' w.heap.size (fun _ => True) v0_ r ∧ Below w.heap.size w w' := by
  unfold span_Union.f at h
  split at h
  · rename_i hh; cases h; exact Union_any w A0 c0 l0 A1 c1 l1 hr0 hc0 hr1 hc1 hh.1 hh.2
  · cases h

def span_Has.f (l : List S23) (n : Int) : Option Bool := some (l.any (pH n))
theorem span_Has.calls (A0 : Option Addr) (c0 : Nat) (l0 : List S23) (a1 : Int) (r : Bool) (w : World) (hr0 : Kd.C k23 w A0 l0.length l0) (hc0 : l0.length ≤ c0) (h : span_Has.f l0 a1 = some r) :
    Calls Try.prog 32 #[.slice A0 l0.length c0, .int .i64 a1] w fun e w' => e = .returned (.bool r) ∧ Below w.heap.size w w' := by
  unfold span_Has.f at h
  cases h
  exact Has_any w A0 c0 l0 a1 hr0 hc0

#print axioms span_Union.calls
end Go.Proofs.Ytioglhaofcmebaa.P.Ext
