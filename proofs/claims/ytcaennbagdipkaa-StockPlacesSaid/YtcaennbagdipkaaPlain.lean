/- The stock as a list of entries; what the reference's printed functions come to on such lists. Plain lists alone. -/
import Derived.Test.YtcaennbagdipkaaPx
import Derived.Test.YtcaennbagdipkaaBase
namespace Go.Proofs.Ytcaennbagdipkaa
open Go.RowKit Go.Proofs.YtcaennbagdipkaaW.PrintWords Go.Proofs.YtcaennbagdipkaaW.PrintLast Go.Proofs.YtcaennbagdipkaaW.PrintMore
open P
set_option linter.unusedSimpArgs false
set_option linter.unusedVariables false

abbrev es : ByteArray := ⟨#[]⟩

theorem toList_inj {a b : ByteArray} : a.toList = b.toList ↔ a = b := by
  constructor
  · intro h
    have := str_eq a b
    rw [h] at this
    simpa using this.symm
  · rintro rfl; rfl
theorem toList_nil {a : ByteArray} : a.toList = ([] : List UInt8) ↔ a = es := by
  have e : es.toList = [] := by rw [ByteArray.toList_eq]
  rw [← e]
  exact toList_inj

theorem wrap_succ (n : Nat) (h : n ≤ 4611686018427387904) : wrap64 ((n : Int) + 1) = ((n + 1 : Nat) : Int) := by
  unfold wrap64; omega

theorem rd68 (a : List S68) (e : S68) (b : List S68) : rd_T68 (a ++ e :: b) (a.length : Int) = e := by
  simp [rd_T68]

theorem at_mid (l : List S68) (it : ByteArray) : ∀ (b a : List S68) (k : Nat), l = a ++ b → b.length < k → l.length ≤ 4611686018427387904 → (∀ x ∈ b, x.f0 ≠ it) → sawmillref47_at.l0 k l it (a.length : Int) = some (-1) := by
  intro b
  induction b with
  | nil =>
    intro a k hl hk hm _
    obtain ⟨k, rfl⟩ : ∃ m, k = m + 1 := ⟨k - 1, by omega⟩
    simp only [sawmillref47_at.l0]
    rw [if_neg (by subst hl; simp)]
  | cons e b ih =>
    intro a k hl hk hm hb
    obtain ⟨k, rfl⟩ : ∃ m, k = m + 1 := ⟨k - 1, by omega⟩
    have hlen : l.length = a.length + (b.length + 1) := by subst hl; simp
    simp only [sawmillref47_at.l0]
    rw [if_pos (by omega), if_pos (by omega), hl, rd68, if_neg (fun h => hb e (by simp) (toList_inj.1 h)), wrap_succ _ (by omega)]
    have := ih (a ++ [e]) k (by rw [hl]; simp) (by simp at hk; omega) hm (fun x hx => hb x (by simp [hx]))
    rw [← hl]
    simpa using this

theorem at_none (l : List S68) (it : ByteArray) (k : Nat) (hk : l.length < k) (hm : l.length ≤ 4611686018427387904) (h : ∀ x ∈ l, x.f0 ≠ it) : sawmillref47_at.f k l it = some (-1) :=
  at_mid l it l [] k rfl hk hm h

theorem at_hits (l : List S68) (it : ByteArray) (e : S68) (r : List S68) (he : e.f0 = it) : ∀ (b a : List S68) (k : Nat), l = a ++ (b ++ e :: r) → b.length < k → l.length ≤ 4611686018427387904 → (∀ x ∈ b, x.f0 ≠ it) → sawmillref47_at.l0 k l it (a.length : Int) = some ((a.length + b.length : Nat) : Int) := by
  intro b
  induction b with
  | nil =>
    intro a k hl hk hm _
    obtain ⟨k, rfl⟩ : ∃ m, k = m + 1 := ⟨k - 1, by omega⟩
    have hlen : l.length = a.length + (r.length + 1) := by subst hl; simp
    simp only [sawmillref47_at.l0]
    rw [if_pos (by omega), if_pos (by omega), hl]
    simp only [List.nil_append]
    rw [rd68, if_pos (by rw [he])]
    simp
  | cons x b ih =>
    intro a k hl hk hm hb
    obtain ⟨k, rfl⟩ : ∃ m, k = m + 1 := ⟨k - 1, by omega⟩
    have hlen : l.length = a.length + (b.length + 1 + (r.length + 1)) := by subst hl; simp; omega
    simp only [sawmillref47_at.l0]
    rw [if_pos (by omega), if_pos (by omega), hl]
    simp only [List.cons_append]
    rw [rd68, if_neg (fun h => hb x (by simp) (toList_inj.1 h)), wrap_succ _ (by omega)]
    have := ih (a ++ [x]) k (by rw [hl]; simp) (by simp at hk; omega) hm (fun x hx => hb x (by simp [hx]))
    rw [show a ++ x :: (b ++ e :: r) = l by rw [hl]; simp]
    simp only [List.length_append, List.length_cons, List.length_nil] at this ⊢
    rw [show a.length + (0 + 1) = a.length + 1 by omega] at this
    rw [show a.length + 1 + b.length = a.length + (b.length + 1) by omega] at this
    exact this

theorem at_some (a : List S68) (e : S68) (r : List S68) (it : ByteArray) (k : Nat) (he : e.f0 = it) (hk : a.length < k) (hm : (a ++ e :: r).length ≤ 4611686018427387904) (h : ∀ x ∈ a, x.f0 ≠ it) : sawmillref47_at.f k (a ++ e :: r) it = some (a.length : Int) := by
  have := at_hits (a ++ e :: r) it e r he a [] k rfl hk hm h
  simpa [sawmillref47_at.f] using this

/-! ### Add, Reserve, Of -/
theorem Add_name (k : Nat) (l : List S68) : sawmillref47_Add.f k l es = some (l, 6) := by
  unfold sawmillref47_Add.f
  rw [if_pos (toList_nil.2 rfl)]

theorem Add_exists (k : Nat) (a : List S68) (e : S68) (r : List S68) (it : ByteArray) (hn : it ≠ es) (he : e.f0 = it) (hk : a.length < k) (hm : (a ++ e :: r).length ≤ 4611686018427387904) (h : ∀ x ∈ a, x.f0 ≠ it) : sawmillref47_Add.f k (a ++ e :: r) it = some (a ++ e :: r, 7) := by
  unfold sawmillref47_Add.f
  rw [if_neg (fun h => hn (toList_nil.1 h)), at_some a e r it k he hk hm h]
  simp only [Option.bind_some]
  rw [if_pos (by omega)]

theorem Add_new (k : Nat) (l : List S68) (it : ByteArray) (hn : it ≠ es) (hk : l.length < k) (h : ∀ x ∈ l, x.f0 ≠ it) (hl : l.length < 512) : sawmillref47_Add.f k l it = some (l ++ [⟨it, es⟩], 0) := by
  unfold sawmillref47_Add.f
  rw [if_neg (fun h => hn (toList_nil.1 h)), at_none l it k hk (by omega) h]
  simp only [Option.bind_some]
  rw [if_neg (by omega), if_neg (by omega), if_pos (by simp; omega), if_pos (by simp; omega)]
  simp

theorem Add_full (k : Nat) (l : List S68) (it : ByteArray) (hn : it ≠ es) (hk : l.length < k) (h : ∀ x ∈ l, x.f0 ≠ it) (hl : 512 ≤ l.length) (hm : l.length ≤ 4611686018427387904) : sawmillref47_Add.f k l it = some (l, 12) := by
  unfold sawmillref47_Add.f
  rw [if_neg (fun h => hn (toList_nil.1 h)), at_none l it k hk hm h]
  simp only [Option.bind_some]
  rw [if_neg (by omega), if_pos (by omega)]

theorem Reserve_name (k : Nat) (l : List S68) (it : ByteArray) : sawmillref47_Reserve.f k l it es = some (l, 6) := by
  unfold sawmillref47_Reserve.f
  rw [if_pos (toList_nil.2 rfl)]

theorem Reserve_none (k : Nat) (l : List S68) (it o : ByteArray) (hn : o ≠ es) (hk : l.length < k) (hm : l.length ≤ 4611686018427387904) (h : ∀ x ∈ l, x.f0 ≠ it) : sawmillref47_Reserve.f k l it o = some (l, 8) := by
  unfold sawmillref47_Reserve.f
  rw [if_neg (fun h => hn (toList_nil.1 h)), at_none l it k hk hm h]
  simp only [Option.bind_some]
  rw [if_pos (by omega)]

theorem Reserve_state (k : Nat) (a : List S68) (e : S68) (r : List S68) (it o : ByteArray) (hn : o ≠ es) (he : e.f0 = it) (hk : a.length < k) (hm : (a ++ e :: r).length ≤ 4611686018427387904) (h : ∀ x ∈ a, x.f0 ≠ it) (ho : e.f1 ≠ es) : sawmillref47_Reserve.f k (a ++ e :: r) it o = some (a ++ e :: r, 14) := by
  unfold sawmillref47_Reserve.f
  rw [if_neg (fun h => hn (toList_nil.1 h)), at_some a e r it k he hk hm h]
  simp only [Option.bind_some]
  rw [if_neg (by omega), if_pos (by omega), if_pos (by simp; omega), rd68, if_neg (fun h => ho (toList_nil.1 h))]

theorem Reserve_ok (k : Nat) (a : List S68) (e : S68) (r : List S68) (it o : ByteArray) (hn : o ≠ es) (he : e.f0 = it) (hk : a.length < k) (hm : (a ++ e :: r).length < 4398046511104) (h : ∀ x ∈ a, x.f0 ≠ it) (ho : e.f1 = es) : sawmillref47_Reserve.f k (a ++ e :: r) it o = some (a ++ ⟨it, o⟩ :: r, 0) := by
  unfold sawmillref47_Reserve.f
  rw [if_neg (fun h => hn (toList_nil.1 h)), at_some a e r it k he hk (by omega) h]
  simp only [Option.bind_some]
  rw [if_neg (by omega), if_pos (by omega), if_pos (by simp; omega), rd68, if_pos (by rw [ho]; exact toList_nil.2 rfl), if_pos (by simpa using hm)]
  simp only [List.nil_append]
  rw [if_pos (by simp; omega), rd68, he]
  simp

theorem Of_none (k : Nat) (l : List S68) (it : ByteArray) (hk : l.length < k) (hm : l.length ≤ 4611686018427387904) (h : ∀ x ∈ l, x.f0 ≠ it) : sawmillref47_Of.f k l it = some (es, false) := by
  unfold sawmillref47_Of.f
  rw [at_none l it k hk hm h]
  simp only [Option.bind_some]
  rw [if_pos (by omega)]

theorem Of_some (k : Nat) (a : List S68) (e : S68) (r : List S68) (it : ByteArray) (he : e.f0 = it) (hk : a.length < k) (hm : (a ++ e :: r).length ≤ 4611686018427387904) (h : ∀ x ∈ a, x.f0 ≠ it) : sawmillref47_Of.f k (a ++ e :: r) it = some (e.f1, true) := by
  unfold sawmillref47_Of.f
  rw [at_some a e r it k he hk hm h]
  simp only [Option.bind_some]
  rw [if_neg (by omega), if_pos (by omega), if_pos (by simp; omega), rd68]

/-! ### Held, Free, Release, Remove -/
theorem Held_go (o : ByteArray) (ho : o ≠ es) (l : List S68) : ∀ (b a : List S68) (out : List ByteArray) (k : Nat), l = a ++ b → b.length < k → l.length ≤ 4611686018427387904 → out.length + b.length < 8796093022208 →
    sawmillref47_Held.l0 k l o out (a.length : Int) = some (out ++ (b.filter fun e => decide (e.f1 = o)).map S68.f0) := by
  intro b
  induction b with
  | nil =>
    intro a out k hl hk hm _
    obtain ⟨k, rfl⟩ : ∃ m, k = m + 1 := ⟨k - 1, by omega⟩
    simp only [sawmillref47_Held.l0]
    rw [if_neg (by subst hl; simp)]
    simp
  | cons e b ih =>
    intro a out k hl hk hm hb
    obtain ⟨k, rfl⟩ : ∃ m, k = m + 1 := ⟨k - 1, by omega⟩
    have hlen : l.length = a.length + (b.length + 1) := by subst hl; simp
    simp only [List.length_cons] at hk hb
    simp only [sawmillref47_Held.l0]
    rw [if_pos (by omega), if_neg (fun h => ho (toList_nil.1 h)), if_pos (by omega), wrap_succ _ (by omega)]
    have hrd : rd_T68 l (a.length : Int) = e := by rw [hl, rd68]
    rw [hrd]
    by_cases h : e.f1 = o
    · rw [if_pos (by rw [h]), if_pos (by omega)]
      have := ih (a ++ [e]) (out ++ [e.f0]) k (by rw [hl]; simp) (by omega) hm (by simp; omega)
      simp only [List.length_append, List.length_cons, List.length_nil] at this
      rw [this]
      simp [List.filter_cons, h]
    · rw [if_neg (fun h' => h (toList_inj.1 h'))]
      have := ih (a ++ [e]) out k (by rw [hl]; simp) (by omega) hm (by omega)
      simp only [List.length_append, List.length_cons, List.length_nil] at this
      rw [this]
      simp [List.filter_cons, h]

theorem Held_empty (l : List S68) : ∀ (b a : List S68) (out : List ByteArray) (k : Nat), l = a ++ b → b.length < k → l.length ≤ 4611686018427387904 → sawmillref47_Held.l0 k l es out (a.length : Int) = some out := by
  intro b
  induction b with
  | nil =>
    intro a out k hl hk hm
    obtain ⟨k, rfl⟩ : ∃ m, k = m + 1 := ⟨k - 1, by omega⟩
    simp only [sawmillref47_Held.l0]
    rw [if_neg (by subst hl; simp)]
  | cons e b ih =>
    intro a out k hl hk hm
    obtain ⟨k, rfl⟩ : ∃ m, k = m + 1 := ⟨k - 1, by omega⟩
    have hlen : l.length = a.length + (b.length + 1) := by subst hl; simp
    simp only [List.length_cons] at hk
    simp only [sawmillref47_Held.l0]
    rw [if_pos (by omega), if_pos (toList_nil.2 rfl), wrap_succ _ (by omega)]
    have := ih (a ++ [e]) out k (by rw [hl]; simp) (by omega) hm
    simpa using this

/-- The items reserved for an order, as the reference tells them. -/
def rheld (l : List S68) (o : ByteArray) : List ByteArray := if o = es then [] else (l.filter fun e => decide (e.f1 = o)).map S68.f0

theorem Held_eq (k : Nat) (l : List S68) (o : ByteArray) (hk : l.length < k) (hm : l.length < 4398046511104) : sawmillref47_Held.f k l o = some (rheld l o) := by
  unfold sawmillref47_Held.f rheld
  by_cases h : o = es
  · subst h; rw [if_pos rfl]; exact Held_empty l l [] [] k rfl hk (by omega)
  · rw [if_neg h]
    have := Held_go o h l l [] [] k rfl hk (by omega) (by simp; omega)
    simpa using this

def rfree (l : List S68) : List ByteArray := (l.filter fun e => decide (e.f1 = es)).map S68.f0

theorem Free_go (l : List S68) : ∀ (b a : List S68) (out : List ByteArray) (k : Nat), l = a ++ b → b.length < k → l.length ≤ 4611686018427387904 → out.length + b.length < 8796093022208 →
    sawmillref47_Free.l0 k l out (a.length : Int) = some (out ++ rfree b) := by
  intro b
  induction b with
  | nil =>
    intro a out k hl hk hm _
    obtain ⟨k, rfl⟩ : ∃ m, k = m + 1 := ⟨k - 1, by omega⟩
    simp only [sawmillref47_Free.l0]
    rw [if_neg (by subst hl; simp)]
    simp [rfree]
  | cons e b ih =>
    intro a out k hl hk hm hb
    obtain ⟨k, rfl⟩ : ∃ m, k = m + 1 := ⟨k - 1, by omega⟩
    have hlen : l.length = a.length + (b.length + 1) := by subst hl; simp
    simp only [List.length_cons] at hk hb
    simp only [sawmillref47_Free.l0]
    rw [if_pos (by omega), if_pos (by omega), wrap_succ _ (by omega)]
    have hrd : rd_T68 l (a.length : Int) = e := by rw [hl, rd68]
    rw [hrd]
    by_cases h : e.f1 = es
    · rw [if_pos (toList_nil.2 h), if_pos (by omega)]
      have := ih (a ++ [e]) (out ++ [e.f0]) k (by rw [hl]; simp) (by omega) hm (by simp; omega)
      simp only [List.length_append, List.length_cons, List.length_nil] at this
      rw [this]
      simp [rfree, List.filter_cons, h]
    · rw [if_neg (fun h' => h (toList_nil.1 h'))]
      have := ih (a ++ [e]) out k (by rw [hl]; simp) (by omega) hm (by omega)
      simp only [List.length_append, List.length_cons, List.length_nil] at this
      rw [this]
      simp [rfree, List.filter_cons, h]

theorem Free_eq (k : Nat) (l : List S68) (hk : l.length < k) (hm : l.length < 4398046511104) : sawmillref47_Free.f k l = some (rfree l) := by
  unfold sawmillref47_Free.f
  have := Free_go l l [] [] k rfl hk (by omega) (by simp; omega)
  simpa using this

def rrel (l : List S68) (o : ByteArray) : List S68 := if o = es then l else l.map fun e => if e.f1 = o then ⟨e.f0, es⟩ else e

theorem set_mid {α : Type} (a : List α) (e x : α) (b : List α) : (a ++ e :: b).set a.length x = a ++ x :: b := by simp

theorem Release_go (o : ByteArray) (ho : o ≠ es) : ∀ (b a : List S68) (n : Nat) (k : Nat), b.length < k → a.length + b.length ≤ 4611686018427387904 → n + b.length ≤ 4611686018427387904 →
    sawmillref47_Release.l0 k o (a ++ b) (n : Int) (a.length : Int) = some (a ++ (b.map fun e => if e.f1 = o then (⟨e.f0, es⟩ : S68) else e), ((n + (b.filter fun e => decide (e.f1 = o)).length : Nat) : Int)) := by
  intro b
  induction b with
  | nil =>
    intro a n k hk hm hn
    obtain ⟨k, rfl⟩ : ∃ m, k = m + 1 := ⟨k - 1, by omega⟩
    simp only [sawmillref47_Release.l0]
    rw [if_neg (by simp)]
    simp
  | cons e b ih =>
    intro a n k hk hm hn
    obtain ⟨k, rfl⟩ : ∃ m, k = m + 1 := ⟨k - 1, by omega⟩
    simp only [List.length_cons] at hk hm hn
    simp only [sawmillref47_Release.l0]
    rw [if_pos (by simp; omega), if_neg (fun h => ho (toList_nil.1 h)), if_pos (by omega), wrap_succ a.length (by omega), wrap_succ n (by omega), rd68]
    by_cases h : e.f1 = o
    · rw [if_pos (by rw [h])]
      have := ih (a ++ [(⟨e.f0, es⟩ : S68)]) (n + 1) k (by omega) (by simp; omega) (by omega)
      simp only [List.length_append, List.length_cons, List.length_nil, List.append_assoc, List.singleton_append] at this
      rw [Int.toNat_natCast, set_mid, this]
      simp [List.filter_cons, h]
      omega
    · rw [if_neg (fun h' => h (toList_inj.1 h'))]
      have := ih (a ++ [e]) n k (by omega) (by simp; omega) (by omega)
      simp only [List.length_append, List.length_cons, List.length_nil, List.append_assoc, List.singleton_append] at this
      rw [this]
      simp [List.filter_cons, h]

theorem Release_empty : ∀ (b a : List S68) (n : Nat) (k : Nat), b.length < k → a.length + b.length ≤ 4611686018427387904 → sawmillref47_Release.l0 k es (a ++ b) (n : Int) (a.length : Int) = some (a ++ b, (n : Int)) := by
  intro b
  induction b with
  | nil =>
    intro a n k hk hm
    obtain ⟨k, rfl⟩ : ∃ m, k = m + 1 := ⟨k - 1, by omega⟩
    simp only [sawmillref47_Release.l0]
    rw [if_neg (by simp)]
  | cons e b ih =>
    intro a n k hk hm
    obtain ⟨k, rfl⟩ : ∃ m, k = m + 1 := ⟨k - 1, by omega⟩
    simp only [List.length_cons] at hk hm
    simp only [sawmillref47_Release.l0]
    rw [if_pos (by simp; omega), if_pos (toList_nil.2 rfl), wrap_succ a.length (by omega)]
    have := ih (a ++ [e]) n k (by omega) (by simp; omega)
    simpa using this

theorem Release_eq (k : Nat) (l : List S68) (o : ByteArray) (hk : l.length < k) (hm : l.length < 4398046511104) : sawmillref47_Release.f k l o = some (rrel l o, ((rheld l o).length : Int)) := by
  unfold sawmillref47_Release.f
  simp only [Option.bind_some, List.nil_append, List.length_nil, Nat.zero_add]
  rw [if_pos hm]
  unfold rrel rheld
  by_cases h : o = es
  · subst h
    rw [if_pos rfl, if_pos rfl]
    exact Release_empty l [] 0 k hk (by simp; omega)
  · rw [if_neg h, if_neg h]
    have := Release_go o h l [] 0 k hk (by simp; omega) (by omega)
    simpa using this

def rrem (l : List S68) (o : ByteArray) : List S68 := if o = es then l else l.filter fun e => decide (e.f1 ≠ o)

theorem Remove_go (o : ByteArray) (l : List S68) (hk0 : ∀ k, l.length < k → sawmillref47_Held.f k l o = some (rheld l o)) : ∀ (b a out : List S68) (k : Nat), l = a ++ b → b.length + l.length + 1 < k → l.length ≤ 4611686018427387904 → out.length + b.length < 4398046511104 →
    sawmillref47_Remove.l0 k l o out (a.length : Int) = some (out ++ rrem b o, rheld l o) := by
  intro b
  induction b with
  | nil =>
    intro a out k hl hk hm _
    obtain ⟨k, rfl⟩ : ∃ m, k = m + 1 := ⟨k - 1, by omega⟩
    simp only [sawmillref47_Remove.l0]
    rw [if_neg (by subst hl; simp)]
    rw [hk0 k (by simp at hk; omega)]
    simp [rrem]
  | cons e b ih =>
    intro a out k hl hk hm hb
    obtain ⟨k, rfl⟩ : ∃ m, k = m + 1 := ⟨k - 1, by omega⟩
    have hlen : l.length = a.length + (b.length + 1) := by subst hl; simp
    simp only [List.length_cons] at hk hb
    simp only [sawmillref47_Remove.l0]
    have hrd : rd_T68 l (a.length : Int) = e := by rw [hl, rd68]
    rw [if_pos (by omega), wrap_succ _ (by omega), hrd]
    have keep := ih (a ++ [e]) (out ++ [e]) k (by rw [hl]; simp) (by omega) hm (by simp; omega)
    have skip := ih (a ++ [e]) out k (by rw [hl]; simp) (by omega) hm (by omega)
    simp only [List.length_append, List.length_cons, List.length_nil, List.append_assoc, List.singleton_append] at keep skip
    by_cases h0 : o = es
    · subst h0
      rw [if_pos (toList_nil.2 rfl), if_pos (by omega), if_pos (by omega), show (⟨e.f0, e.f1⟩ : S68) = e from rfl, keep]
      simp [rrem]
    · rw [if_neg (fun h => h0 (toList_nil.1 h)), if_pos (by omega)]
      by_cases h : e.f1 = o
      · rw [if_pos (by rw [h]), skip]
        simp [rrem, h0, h]
      · rw [if_neg (fun h' => h (toList_inj.1 h')), if_pos (by omega), show (⟨e.f0, e.f1⟩ : S68) = e from rfl, keep]
        simp [rrem, h0, h]

theorem Remove_eq (k : Nat) (l : List S68) (o : ByteArray) (hk : 2 * l.length + 1 < k) (hm : l.length < 4398046511104) : sawmillref47_Remove.f k l o = some (rrem l o, rheld l o) := by
  unfold sawmillref47_Remove.f
  have := Remove_go o l (fun k hk => Held_eq k l o hk hm) l [] [] k rfl (by omega) (by omega) (by simp; omega)
  simpa using this

/-! ### Same, index, small -/
theorem rdOf_mid (a : List ByteArray) (e : ByteArray) (b : List ByteArray) : rdOf ByteArray.empty (a ++ e :: b) (a.length : Int) = e := by simp [rdOf]

theorem Same_go (l m : List ByteArray) : ∀ (b c a d : List ByteArray) (k : Nat), l = a ++ b → m = d ++ c → a.length = d.length → b.length = c.length → b.length < k → l.length ≤ 4611686018427387904 →
    sawmillref47_Same.l0 k l m (a.length : Int) = some (decide (b = c)) := by
  intro b
  induction b with
  | nil =>
    intro c a d k hl hm hd hc hk hL
    obtain ⟨k, rfl⟩ : ∃ m, k = m + 1 := ⟨k - 1, by omega⟩
    cases c with
    | cons _ _ => simp at hc
    | nil =>
      simp only [sawmillref47_Same.l0]
      rw [if_neg (by subst hl; simp)]
      simp
  | cons x b ih =>
    intro c a d k hl hm hd hc hk hL
    obtain ⟨k, rfl⟩ : ∃ m, k = m + 1 := ⟨k - 1, by omega⟩
    cases c with
    | nil => simp at hc
    | cons y c =>
      have hlen : l.length = a.length + (b.length + 1) := by subst hl; simp
      have hlen2 : m.length = d.length + (c.length + 1) := by subst hm; simp
      simp only [List.length_cons] at hk hc
      simp only [sawmillref47_Same.l0]
      have r1 : rdOf ByteArray.empty l (a.length : Int) = x := by rw [hl, rdOf_mid]
      have r2 : rdOf ByteArray.empty m (a.length : Int) = y := by rw [hm, hd, rdOf_mid]
      rw [if_pos (by omega), if_pos (by omega), if_pos (by omega), r1, r2, wrap_succ _ (by omega)]
      by_cases h : x = y
      · subst h
        rw [if_pos rfl]
        have := ih c (a ++ [x]) (d ++ [x]) k (by rw [hl]; simp) (by rw [hm]; simp) (by simp [hd]) (by omega) (by omega) hL
        simp only [List.length_append, List.length_cons, List.length_nil] at this
        rw [this]
        simp
      · rw [if_neg (fun h' => h (toList_inj.1 h'))]
        simp [h]

theorem Same_eq (k : Nat) (l m : List ByteArray) (hk : l.length < k) (hm : l.length ≤ 4611686018427387904) : sawmillref47_Same.f k l m = some (decide (l = m)) := by
  unfold sawmillref47_Same.f
  by_cases h : l.length = m.length
  · rw [if_pos (by omega)]
    exact Same_go l m l m [] [] k rfl rfl rfl h hk hm
  · rw [if_neg (by omega)]
    have : l ≠ m := fun e => h (by rw [e])
    simp [this]

theorem index_go (l : List ByteArray) (x : ByteArray) : ∀ (b a : List ByteArray) (n k : Nat), l = a ++ b → b.length < k → l.length ≤ 4611686018427387904 → n + b.length ≤ 4611686018427387904 →
    sawmilllaw47_index.l0 k l x (n : Int) (a.length : Int) = some ((n + (b.filter fun y => decide (y = x)).length : Nat) : Int) := by
  intro b
  induction b with
  | nil =>
    intro a n k hl hk hm _
    obtain ⟨k, rfl⟩ : ∃ m, k = m + 1 := ⟨k - 1, by omega⟩
    simp only [sawmilllaw47_index.l0]
    rw [if_neg (by subst hl; simp)]
    simp
  | cons e b ih =>
    intro a n k hl hk hm hn
    obtain ⟨k, rfl⟩ : ∃ m, k = m + 1 := ⟨k - 1, by omega⟩
    have hlen : l.length = a.length + (b.length + 1) := by subst hl; simp
    simp only [List.length_cons] at hk hn
    simp only [sawmilllaw47_index.l0]
    have r1 : rdOf ByteArray.empty l (a.length : Int) = e := by rw [hl, rdOf_mid]
    rw [if_pos (by omega), if_pos (by omega), wrap_succ a.length (by omega), wrap_succ n (by omega), r1]
    by_cases h : e = x
    · rw [if_pos (by rw [h])]
      have := ih (a ++ [e]) (n + 1) k (by rw [hl]; simp) (by omega) hm (by omega)
      simp only [List.length_append, List.length_cons, List.length_nil] at this
      rw [this]
      simp [List.filter_cons, h]
      omega
    · rw [if_neg (fun h' => h (toList_inj.1 h'))]
      have := ih (a ++ [e]) n k (by rw [hl]; simp) (by omega) hm (by omega)
      simp only [List.length_append, List.length_cons, List.length_nil] at this
      rw [this]
      simp [List.filter_cons, h]

theorem index_eq (k : Nat) (l : List ByteArray) (x : ByteArray) (hk : l.length < k) (hm : l.length ≤ 4611686018427387904) : sawmilllaw47_index.f k l x = some (((l.filter fun y => decide (y = x)).length : Nat) : Int) := by
  have := index_go l x l [] 0 k rfl hk hm (by omega)
  simpa [sawmilllaw47_index.f] using this

def opOk (o : S29) : Bool := decide (o.f1.size ≤ 100) && decide (o.f2.size ≤ 100)

theorem small_go (l : List S29) : ∀ (b a : List S29) (k : Nat), l = a ++ b → b.length < k → l.length ≤ 4611686018427387904 → sawmilllaw47_small.l0 k l (a.length : Int) = some (b.all opOk) := by
  intro b
  induction b with
  | nil =>
    intro a k hl hk hm
    obtain ⟨k, rfl⟩ : ∃ m, k = m + 1 := ⟨k - 1, by omega⟩
    simp only [sawmilllaw47_small.l0]
    rw [if_neg (by subst hl; simp)]
    rfl
  | cons e b ih =>
    intro a k hl hk hm
    obtain ⟨k, rfl⟩ : ∃ m, k = m + 1 := ⟨k - 1, by omega⟩
    have hlen : l.length = a.length + (b.length + 1) := by subst hl; simp
    simp only [List.length_cons] at hk
    simp only [sawmilllaw47_small.l0]
    have r1 : rd_T29 l (a.length : Int) = e := by rw [hl]; simp [rd_T29]
    rw [if_pos (by omega), if_pos (by omega), wrap_succ a.length (by omega), r1]
    have := ih (a ++ [e]) k (by rw [hl]; simp) (by omega) hm
    simp only [List.length_append, List.length_cons, List.length_nil] at this
    rw [this]
    by_cases h1 : e.f1.size ≤ 100
    · rw [if_neg (by omega)]
      by_cases h2 : e.f2.size ≤ 100
      · rw [if_neg (by omega)]; simp [opOk, h1, h2]
      · rw [if_pos (by omega)]; simp [opOk, h1, h2]
    · rw [if_pos (by omega)]; simp [opOk, h1]

theorem small_eq (k : Nat) (l : List S29) (hk : 201 < k) (hm : l.length ≤ 4611686018427387904) : sawmilllaw47_small.f k l = some (decide (l.length ≤ 200) && l.all opOk) := by
  unfold sawmilllaw47_small.f
  by_cases h : l.length ≤ 200
  · rw [if_neg (by omega)]
    have := small_go l l [] k rfl (by omega) hm
    simp only [List.length_nil] at this
    rw [show ((0 : Int)) = ((0 : Nat) : Int) from rfl, this]
    simp [h]
  · rw [if_pos (by omega)]; simp [h]

#print axioms small_eq
#print axioms Remove_eq
end Go.Proofs.Ytcaennbagdipkaa
