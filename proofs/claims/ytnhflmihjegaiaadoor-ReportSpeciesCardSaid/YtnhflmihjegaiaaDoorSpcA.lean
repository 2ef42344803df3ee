/- ReportSpecies, the plain law: sums of yields by species. -/
import Derived.Test.YtnhflmihjegaiaaDoorRecC
namespace Go.Proofs.YtnhflmihjegaiaaDoor
open Go.RowKit P
set_option linter.unusedSimpArgs false
set_option linter.unusedVariables false

theorem S42.eq_of {a b : S42} (h0 : a.f0 = b.f0) (h1 : a.f1 = b.f1) (h2 : a.f2 = b.f2) (h3 : a.f3 = b.f3) (h4 : a.f4 = b.f4) : a = b := by
  cases a; cases b; simp_all
def plusY (a b : S42) : S42 := ⟨a.f0 + b.f0, a.f1 + b.f1, a.f2 + b.f2, a.f3 + b.f3, a.f4 + b.f4⟩
def sumY (p : S47 → Bool) : List S47 → S42
  | [] => zeroY
  | g :: r => if p g = true then plusY g.f2 (sumY p r) else sumY p r
theorem valid_iff (y : S42) : validY y = true ↔ ((0 ≤ y.f0 ∧ y.f0 ≤ 2305843009213693952) ∧ (0 ≤ y.f1 ∧ y.f1 ≤ 2305843009213693952) ∧ (0 ≤ y.f2 ∧ y.f2 ≤ 2305843009213693952) ∧ (0 ≤ y.f3 ∧ y.f3 ≤ 2305843009213693952) ∧ (-2305843009213693952 ≤ y.f4 ∧ y.f4 ≤ 2305843009213693952)) := by
  unfold validY fitY
  simp only [Bool.and_eq_true, decide_eq_true_eq]
  constructor
  · rintro ⟨⟨⟨⟨⟨h0, h1⟩, h2⟩, h3⟩, h4⟩, h5⟩
    exact ⟨h0, h1, h2, h3, h4, h5⟩
  · rintro ⟨h0, h1, h2, h3, h4, h5⟩
    exact ⟨⟨⟨⟨⟨h0, h1⟩, h2⟩, h3⟩, h4⟩, h5⟩
theorem wrap_in {n : Int} (h : -9223372036854775808 ≤ n ∧ n ≤ 9223372036854775807) : wrap64 n = n := by unfold wrap64; omega
theorem addY_ok {a b r : S42} (h : addY a b = (r, 0)) : validY a = true ∧ validY b = true ∧ r = plusY a b := by
  unfold addY at h
  by_cases ha : validY a = true
  · rw [if_pos ha] at h
    by_cases hb : validY b = true
    · rw [if_pos hb] at h
      refine ⟨ha, hb, ?_⟩
      have va := (valid_iff a).1 ha
      have vb := (valid_iff b).1 hb
      have e : (⟨wrap64 (a.f0 + b.f0), wrap64 (a.f1 + b.f1), wrap64 (a.f2 + b.f2), wrap64 (a.f3 + b.f3), wrap64 (a.f4 + b.f4)⟩ : S42) = r := congrArg Prod.fst h
      rw [← e]
      unfold plusY
      rw [wrap_in (by omega), wrap_in (by omega), wrap_in (by omega), wrap_in (by omega), wrap_in (by omega)]
    · rw [if_neg hb] at h
      have : (9 : Int) = 0 := congrArg Prod.snd h
      omega
  · rw [if_neg ha] at h
    have : (9 : Int) = 0 := congrArg Prod.snd h
    omega
theorem plus_assoc (a b c : S42) : plusY (plusY a b) c = plusY a (plusY b c) := by
  unfold plusY
  simp only [Int.add_assoc]
theorem plus_zero (a : S42) : plusY a zeroY = a := by
  unfold plusY zeroY
  simp only [Int.add_zero]
theorem zero_plus (a : S42) : plusY zeroY a = a := by
  unfold plusY zeroY
  simp only [Int.zero_add]
theorem plus_comm (a b : S42) : plusY a b = plusY b a := by
  unfold plusY
  simp only [Int.add_comm]
theorem recGoS_ok (sp : ByteArray) : ∀ (l : List S47) (s r : S42), recGoS sp l s = (r, 0) → r = plusY s (sumY (fun g => !skipS sp g) l) ∧ ∀ g ∈ l, skipS sp g = false → validY g.f2 = true
  | [], s, r, h => by
    refine ⟨?_, fun g hg => by cases hg⟩
    have e : s = r := congrArg Prod.fst h
    rw [← e]
    exact (plus_zero s).symm
  | g :: t, s, r, h => by
    unfold recGoS at h
    by_cases hk : skipS sp g = true
    · rw [if_pos hk] at h
      obtain ⟨h1, h2⟩ := recGoS_ok sp t s r h
      refine ⟨?_, fun x hx hx2 => ?_⟩
      · rw [h1]
        simp only [sumY, hk, Bool.not_true, Bool.false_eq_true, if_false]
      · rcases List.mem_cons.1 hx with rfl | hx
        · rw [hk] at hx2; cases hx2
        · exact h2 x hx hx2
    · rw [if_neg hk] at h
      by_cases he : (addY s g.f2).2 = 0
      · rw [if_neg (fun h => h he)] at h
        obtain ⟨h1, h2⟩ := recGoS_ok sp t _ r h
        have hadd : addY s g.f2 = ((addY s g.f2).1, 0) := by rw [← he]
        obtain ⟨v1, v2, v3⟩ := addY_ok hadd
        have hk2 : skipS sp g = false := by simpa using hk
        refine ⟨?_, fun x hx hx2 => ?_⟩
        · rw [h1, v3, plus_assoc]
          simp only [sumY, hk2, Bool.not_false, if_true]
        · rcases List.mem_cons.1 hx with rfl | hx
          · exact v2
          · exact h2 x hx hx2
      · rw [if_pos he] at h
        exact absurd (congrArg Prod.snd h) he
theorem recGoS_err (sp : ByteArray) : ∀ (l : List S47) (s : S42), (recGoS sp l s).2 ≠ 0 → (recGoS sp l s).1 = zeroY
  | [], s, h => absurd rfl h
  | g :: t, s, h => by
    unfold recGoS at h ⊢
    by_cases hk : skipS sp g = true
    · rw [if_pos hk] at h ⊢
      exact recGoS_err sp t s h
    · rw [if_neg hk] at h ⊢
      by_cases he : (addY s g.f2).2 = 0
      · rw [if_neg (fun h => h he)] at h ⊢
        exact recGoS_err sp t _ h
      · rw [if_pos he]
def okB (y : S42) (c : Nat) : Prop := (0 ≤ y.f0 ∧ y.f0 ≤ c * 18014398509481984) ∧ (0 ≤ y.f1 ∧ y.f1 ≤ c * 18014398509481984) ∧ (0 ≤ y.f2 ∧ y.f2 ≤ c * 18014398509481984) ∧ (0 ≤ y.f3 ∧ y.f3 ≤ c * 18014398509481984) ∧ (-(c * 18014398509481984) ≤ y.f4 ∧ y.f4 ≤ c * 18014398509481984)
theorem okB_plus {a b : S42} {c d : Nat} (ha : okB a c) (hb : okB b d) : okB (plusY a b) (c + d) := by
  unfold okB plusY at *
  simp only [Int.natCast_add]
  omega
theorem okB_mono {a : S42} {c d : Nat} (ha : okB a c) (h : c ≤ d) : okB a d := by
  unfold okB at *
  omega
theorem okB_zero : okB zeroY 0 := by
  unfold okB zeroY
  simp
theorem okB_valid {a : S42} {c : Nat} (ha : okB a c) (h : c ≤ 100) : validY a = true := by
  rw [valid_iff]
  unfold okB at ha
  omega
theorem addY_fine {a b : S42} {c d : Nat} (ha : okB a c) (hb : okB b d) (hc : c ≤ 100) (hd : d ≤ 100) : addY a b = (plusY a b, 0) := by
  have h : (addY a b).2 = 0 := by
    unfold addY
    rw [if_pos (okB_valid ha hc), if_pos (okB_valid hb hd)]
  have e : addY a b = ((addY a b).1, 0) := by rw [← h]
  rw [e, (addY_ok e).2.2]
theorem sumY_bnd (p : S47 → Bool) : ∀ (l : List S47), (∀ g ∈ l, p g = true → okB g.f2 1) → okB (sumY p l) l.length
  | [], _ => okB_zero
  | g :: t, h => by
    have ih := sumY_bnd p t (fun x hx => h x (List.mem_cons_of_mem _ hx))
    unfold sumY
    by_cases hp : p g = true
    · rw [if_pos hp]
      exact okB_mono (okB_plus (h g (List.mem_cons_self ..) hp) ih) (by rw [List.length_cons]; omega)
    · rw [if_neg hp]
      exact okB_mono ih (by rw [List.length_cons]; omega)
theorem recGoS_fine (sp : ByteArray) : ∀ (l : List S47) (s : S42) (c : Nat), (∀ g ∈ l, skipS sp g = false → okB g.f2 1) → okB s c → c + l.length ≤ 100 → (recGoS sp l s).2 = 0
  | [], s, c, _, _, _ => rfl
  | g :: t, s, c, h, hs, hc => by
    rw [List.length_cons] at hc
    unfold recGoS
    by_cases hk : skipS sp g = true
    · rw [if_pos hk]
      exact recGoS_fine sp t s c (fun x hx => h x (List.mem_cons_of_mem _ hx)) hs (by omega)
    · have hk2 : skipS sp g = false := by simpa using hk
      have hg := h g (List.mem_cons_self ..) hk2
      have ha := addY_fine hs hg (by omega) (by omega)
      rw [if_neg hk, ha, if_neg (fun h => h rfl)]
      exact recGoS_fine sp t _ (c + 1) (fun x hx => h x (List.mem_cons_of_mem _ hx)) (okB_plus hs hg) (by omega)

theorem sumY_congr {p q : S47 → Bool} : ∀ (l : List S47), (∀ g ∈ l, p g = q g) → sumY p l = sumY q l
  | [], _ => rfl
  | g :: t, h => by
    unfold sumY
    rw [h g (List.mem_cons_self ..), sumY_congr t (fun x hx => h x (List.mem_cons_of_mem _ hx))]
theorem sumY_or {p q : S47 → Bool} : ∀ (l : List S47), (∀ g ∈ l, (p g && q g) = false) → sumY (fun g => p g || q g) l = plusY (sumY p l) (sumY q l)
  | [], _ => rfl
  | g :: t, h => by
    have ih := sumY_or t (fun x hx => h x (List.mem_cons_of_mem _ hx))
    have hg := h g (List.mem_cons_self ..)
    unfold sumY
    rw [ih]
    cases hp : p g <;> cases hq : q g
    · simp
    · simp only [Bool.false_or, if_true, Bool.false_eq_true, if_false]
      rw [← plus_assoc, plus_comm g.f2, plus_assoc]
    · simp only [Bool.true_or, if_true, Bool.false_eq_true, if_false]
      rw [plus_assoc]
    · rw [hp, hq] at hg; cases hg
theorem sumY_none (l : List S47) : sumY (fun _ => false) l = zeroY := by
  induction l with
  | nil => rfl
  | cons g t ih => unfold sumY; rw [if_neg Bool.false_ne_true]; exact ih

/-! ### species -/
def eqs (a b : S47) : Bool := a.f0.toList == b.f0.toList
def seenB (l : List S47) (i : Nat) (g : S47) : Bool := (l.take i).any (fun h => eqs h g)
def partK (l : List S47) (i : Nat) : S42 := sumY (fun g => g.f1 && seenB l i g) l
def wideG (g : S47) : Bool := decide (g.f2.f0 > 18014398509481984) || decide (g.f2.f1 > 18014398509481984) || decide (g.f2.f2 > 18014398509481984) || decide (g.f2.f3 > 18014398509481984) || decide (g.f2.f4 > 18014398509481984) || decide (g.f2.f4 < -18014398509481984)
def wideB (l : List S47) : Bool := l.any wideG
theorem seenB_succ (l : List S47) (i : Nat) (h : i < l.length) (g : S47) : seenB l (i + 1) g = (seenB l i g || eqs l[i] g) := by
  unfold seenB
  rw [List.take_add_one, List.getElem?_eq_getElem h]
  simp only [Option.toList_some, List.any_append, List.any_cons, List.any_nil, Bool.or_false]
theorem partK_zero (l : List S47) : partK l 0 = zeroY := by
  unfold partK
  rw [sumY_congr l (q := fun _ => false) (fun g _ => by simp [seenB])]
  exact sumY_none l
theorem partK_same (l : List S47) (i : Nat) (h : i < l.length) (hs : seenB l i l[i] = true) : partK l (i + 1) = partK l i := by
  unfold partK
  refine sumY_congr l (fun g _ => ?_)
  rw [seenB_succ l i h]
  cases he : eqs l[i] g
  · rw [Bool.or_false]
  · have : seenB l i g = true := by
      unfold seenB at hs ⊢
      rw [List.any_eq_true] at hs ⊢
      obtain ⟨x, hx, hxe⟩ := hs
      refine ⟨x, hx, ?_⟩
      unfold eqs at *
      rw [beq_iff_eq] at *
      exact hxe.trans he
    rw [this, Bool.or_true]
theorem partK_new (l : List S47) (i : Nat) (h : i < l.length) (hs : seenB l i l[i] = false) (hne : l[i].f0.toList ≠ []) : partK l (i + 1) = plusY (partK l i) (sumY (fun g => !skipS l[i].f0 g) l) := by
  have hE : l[i].f0.toList.isEmpty = false := by cases h : l[i].f0.toList with | nil => exact absurd h hne | cons a b => rfl
  unfold partK
  rw [← sumY_or l (fun g _ => ?_)]
  · refine sumY_congr l (fun g _ => ?_)
    rw [seenB_succ l i h]
    unfold skipS eqs
    rw [hE]
    cases g.f1
    · simp
    · cases h5 : seenB l i g
      · simp [eq_comm, Bool.beq_comm]
      · simp
  · unfold skipS
    rw [hE]
    cases g.f1
    · simp
    · cases h5 : seenB l i g
      · simp
      · cases h6 : (g.f0.toList == l[i].f0.toList)
        · simp
        · exfalso
          unfold seenB at hs h5
          rw [List.any_eq_true] at h5
          obtain ⟨x, hx, hxe⟩ := h5
          rw [List.any_eq_false] at hs
          refine hs x hx ?_
          unfold eqs at *
          rw [beq_iff_eq] at *
          exact hxe.trans h6
theorem skip_all (g : S47) : skipS ⟨#[]⟩ g = !g.f1 := by
  unfold skipS
  rw [ByteArray.toList_eq]
  simp
theorem partK_all {l : List S47} {all : S42} (h : recS l ⟨#[]⟩ = (all, 0)) : partK l l.length = all := by
  have h1 := (recGoS_ok ⟨#[]⟩ l zeroY all h).1
  rw [h1, zero_plus]
  unfold partK
  refine sumY_congr l (fun g hg => ?_)
  rw [skip_all, Bool.not_not]
  have : seenB l l.length g = true := by
    unfold seenB
    rw [List.take_length, List.any_eq_true]
    exact ⟨g, hg, by unfold eqs; exact beq_self_eq_true _⟩
  rw [this, Bool.and_true]
theorem not_wide {l : List S47} {all : S42} (h : recS l ⟨#[]⟩ = (all, 0)) (hw : wideB l = false) : ∀ g ∈ l, g.f1 = true → okB g.f2 1 := by
  intro g hg h1
  have hv := (valid_iff _).1 ((recGoS_ok ⟨#[]⟩ l zeroY all h).2 g hg (by rw [skip_all, h1]; rfl))
  unfold wideB at hw
  rw [List.any_eq_false] at hw
  have h2 := hw g hg
  unfold wideG at h2
  simp only [Bool.or_eq_true, decide_eq_true_eq, not_or] at h2
  unfold okB
  omega
theorem skip_sawn {sp : ByteArray} {g : S47} (h : skipS sp g = false) : g.f1 = true := by
  unfold skipS at h
  rw [Bool.or_eq_false_iff] at h
  simpa using h.1
/-- A round: no error, and the sum grows; or an error, and a yield is wide. -/
theorem round_ok {l : List S47} {all : S42} (h : recS l ⟨#[]⟩ = (all, 0)) {i : Nat} (hi : i < l.length) (hs : seenB l i l[i] = false) (hne : l[i].f0.toList ≠ []) (h1 : (recS l l[i].f0).2 = 0) (h2 : (addY (partK l i) (recS l l[i].f0).1).2 = 0) :
    (addY (partK l i) (recS l l[i].f0).1).1 = partK l (i + 1) := by
  have e1 : recS l l[i].f0 = ((recS l l[i].f0).1, 0) := by rw [← h1]
  have e2 : addY (partK l i) (recS l l[i].f0).1 = ((addY (partK l i) (recS l l[i].f0).1).1, 0) := by rw [← h2]
  rw [(addY_ok e2).2.2, (recGoS_ok _ l zeroY _ e1).1, zero_plus, partK_new l i hi hs hne]
theorem round_wide {l : List S47} {all : S42} (h : recS l ⟨#[]⟩ = (all, 0)) (hl : l.length ≤ 40) {i : Nat} (hi : i < l.length) (he : (recS l l[i].f0).2 ≠ 0 ∨ (addY (partK l i) (recS l l[i].f0).1).2 ≠ 0) : wideB l = true := by
  cases hw : wideB l with
  | true => rfl
  | false =>
    exfalso
    have hb := not_wide h hw
    have hf : (recS l l[i].f0).2 = 0 := recGoS_fine _ l zeroY 0 (fun g hg hk => hb g hg (skip_sawn hk)) okB_zero (by omega)
    rcases he with he | he
    · exact he hf
    · have e1 : recS l l[i].f0 = ((recS l l[i].f0).1, 0) := by rw [← hf]
      have hy : okB (recS l l[i].f0).1 l.length := by
        rw [(recGoS_ok _ l zeroY _ e1).1, zero_plus]
        exact sumY_bnd _ l (fun g hg hp => hb g hg (skip_sawn (by simpa using hp)))
      have hp : okB (partK l i) l.length := sumY_bnd _ l (fun g hg hp => hb g hg (by rw [Bool.and_eq_true] at hp; exact hp.1))
      rw [addY_fine hp hy (by omega) (by omega)] at he
      exact he rfl
end Go.Proofs.YtnhflmihjegaiaaDoor
