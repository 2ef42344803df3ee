/- The merge of slices.SortStableFunc: the plain law, part one (exchanges, rotations, the search, one merge). -/
import Derived.Sort.LotA
import Derived.Sort.WalkA
namespace Go.Proofs.YtnhflmihjegaiaaDoor.Sym
open Go.Sort
set_option linter.unusedSimpArgs false
set_option linter.unusedVariables false

variable {α : Type} [Inhabited α]

def swIx (a b n t : Nat) : Nat := if a ≤ t ∧ t < a + n then t + (b - a) else if b ≤ t ∧ t < b + n then t - (b - a) else t
def rotIx (a m b t : Nat) : Nat := if a ≤ t ∧ t < a + (b - m) then t + (m - a) else if a + (b - m) ≤ t ∧ t < b then t - (b - m) else t

/-- d' is d with its places looked up through f. -/
structure Via (f : Nat → Nat) (d d' : Array α) : Prop where
  size : d'.size = d.size
  at_ : ∀ t, d'[t]! = d[f t]!
theorem Via.refl {f : Nat → Nat} (hf : ∀ t, f t = t) (d : Array α) : Via f d d := ⟨rfl, fun t => by rw [hf]⟩
theorem Via.congr {f g : Nat → Nat} {d d' : Array α} (h : Via f d d') (hf : ∀ t, f t = g t) : Via g d d' := ⟨h.size, fun t => by rw [h.at_, hf]⟩
theorem Via.trans {f g : Nat → Nat} {d d1 d2 : Array α} (h : Via f d d1) (h2 : Via g d1 d2) : Via (fun t => f (g t)) d d2 := ⟨h2.size.trans h.size, fun t => by rw [h2.at_, h.at_]⟩
theorem via_swp (d : Array α) {i j : Nat} (hi : i < d.size) (hj : j < d.size) : Via (fun t => if t = j then i else if t = i then j else t) d (swp d i j) :=
  ⟨swp_size d i j, fun t => by
    rw [swp_get d hi hj]
    split
    · rfl
    · split <;> rfl⟩

theorem swR_start (a b : Nat) (d : Array α) : Via (swIx a b 0) d d := Via.refl (fun t => by unfold swIx; rw [if_neg (by omega), if_neg (by omega)]) d
theorem swR_step {a b n : Nat} {d d' : Array α} (h : Via (swIx a b n) d d') (hab : a + n < b) (hb : b + n < d.size) : Via (swIx a b (n + 1)) d (swp d' (a + n) (b + n)) :=
  (h.trans (via_swp d' (i := a + n) (j := b + n) (by rw [h.size]; omega) (by rw [h.size]; omega))).congr fun t => by
    unfold swIx
    repeat' split
    all_goals omega

theorem rot_start (a m b : Nat) (d : Array α) (ham : a ≤ m) (hmb : m ≤ b) : ∀ t, d[rotIx (m - (m - a)) m (m + (b - m)) t]! = d[rotIx a m b t]! := fun t => by
  rw [show m - (m - a) = a by omega, show m + (b - m) = b by omega]
theorem rot_left {i j m t : Nat} (hi : i ≤ m) (hij : j < i) : swIx (m - i) m j (rotIx (m - (i - j)) m (m + j) t) = rotIx (m - i) m (m + j) t := by
  unfold swIx rotIx
  repeat' split
  all_goals omega
theorem rot_right {i j m t : Nat} (hi : i ≤ m) (hij : i < j) : swIx (m - i) (m + j - i) i (rotIx (m - i) m (m + (j - i)) t) = rotIx (m - i) m (m + j) t := by
  unfold swIx rotIx
  repeat' split
  all_goals omega
theorem rot_end {i m t : Nat} (hi : i ≤ m) : swIx (m - i) m i t = rotIx (m - i) m (m + i) t := by
  unfold swIx rotIx
  repeat' split
  all_goals omega

/-- The first place moved up to k. -/
def mvL (a k t : Nat) : Nat := if a ≤ t ∧ t < k then t + 1 else if t = k then a else t
def mvR (m k t : Nat) : Nat := if k < t ∧ t ≤ m then t - 1 else if t = k then m else t
theorem mvL_start (a : Nat) (d : Array α) : Via (mvL a a) d d := Via.refl (fun t => by unfold mvL; rw [if_neg (by omega)]; split <;> omega) d
theorem mvR_start (m : Nat) (d : Array α) : Via (mvR m m) d d := Via.refl (fun t => by unfold mvR; rw [if_neg (by omega)]; split <;> omega) d
theorem mvL_step {a k : Nat} {d d' : Array α} (h : Via (mvL a k) d d') (hak : a ≤ k) (hk : k + 1 < d.size) : Via (mvL a (k + 1)) d (swp d' k (k + 1)) :=
  (h.trans (via_swp d' (i := k) (j := k + 1) (by rw [h.size]; omega) (by rw [h.size]; omega))).congr fun t => by
    unfold mvL
    repeat' split
    all_goals omega
theorem mvR_step {m k : Nat} {d d' : Array α} (h : Via (mvR m k) d d') (hk0 : 0 < k) (hkm : k ≤ m) (hm : m < d.size) : Via (mvR m (k - 1)) d (swp d' k (k - 1)) :=
  (h.trans (via_swp d' (i := k) (j := k - 1) (by rw [h.size]; omega) (by rw [h.size]; omega))).congr fun t => by
    unfold mvR
    repeat' split
    all_goals omega

/-! ### Order -/
def lx (due : α → Int) (ix : α → Nat) (x y : α) : Prop := due x < due y ∨ (due x = due y ∧ ix x < ix y)
variable {due : α → Int} {ix : α → Nat}
omit [Inhabited α] in
theorem lx_trans {x y z : α} (h1 : lx due ix x y) (h2 : lx due ix y z) : lx due ix x z := by unfold lx at *; omega
omit [Inhabited α] in
theorem lx_le {x y : α} (h : lx due ix x y) : due x ≤ due y := by unfold lx at h; omega
omit [Inhabited α] in
theorem lx_irr {x : α} : ¬ lx due ix x x := by unfold lx; omega
omit [Inhabited α] in
theorem lx_mk {x y : α} (h : due x ≤ due y) (h2 : ix x < ix y) : lx due ix x y := by unfold lx; omega
def Srt (due : α → Int) (ix : α → Nat) (d : Array α) (a b : Nat) : Prop := ∀ i j, a ≤ i → i < j → j < b → lx due ix d[i]! d[j]!
def Crs (ix : α → Nat) (d : Array α) (a m b : Nat) : Prop := ∀ i j, a ≤ i → i < m → m ≤ j → j < b → ix d[i]! < ix d[j]!
structure SM (due : α → Int) (ix : α → Nat) (d : Array α) (a b : Nat) (d' : Array α) : Prop where
  size : d'.size = d.size
  out : ∀ i, (i < a ∨ b ≤ i) → d'[i]! = d[i]!
  into : ∀ i, a ≤ i → i < b → ∃ j, a ≤ j ∧ j < b ∧ d'[i]! = d[j]!
  onto : ∀ j, a ≤ j → j < b → ∃ i, a ≤ i ∧ i < b ∧ d'[i]! = d[j]!
  srt : Srt due ix d' a b
theorem Srt.le {d : Array α} {a b i j : Nat} (h : Srt due ix d a b) (h1 : a ≤ i) (h2 : i ≤ j) (h3 : j < b) : due d[i]! ≤ due d[j]! := by
  rcases Nat.eq_or_lt_of_le h2 with e | e
  · subst e; exact Int.le_refl _
  · exact lx_le (h i j h1 e h3)
theorem Srt.sub {d : Array α} {a b a' b' : Nat} (h : Srt due ix d a b) (h1 : a ≤ a') (h2 : b' ≤ b) : Srt due ix d a' b' := fun i j hi hj hb => h i j (by omega) hj (by omega)
theorem SM.refl {d : Array α} {a b : Nat} (h : Srt due ix d a b) : SM due ix d a b d := ⟨rfl, fun _ _ => rfl, fun i h1 h2 => ⟨i, h1, h2, rfl⟩, fun i h1 h2 => ⟨i, h1, h2, rfl⟩, h⟩
theorem geq (d : Array α) {x y : Nat} (h : x = y) : d[x]! = d[y]! := by rw [h]

/-! ### The search -/
structure BS (p : Nat → Prop) (lo hi i j : Nat) : Prop where
  l : lo ≤ i
  m : i ≤ j
  r : j ≤ hi
  yes : ∀ k, lo ≤ k → k < i → p k
  no : ∀ k, j ≤ k → k < hi → ¬ p k
def Mono (p : Nat → Prop) (lo hi : Nat) : Prop := ∀ k h, lo ≤ k → k ≤ h → h < hi → p h → p k
theorem BS.start {p : Nat → Prop} {lo hi : Nat} (h : lo ≤ hi) : BS p lo hi lo hi := ⟨Nat.le_refl _, h, Nat.le_refl _, fun k h1 h2 => by omega, fun k h1 h2 => by omega⟩
theorem BS.up {p : Nat → Prop} {lo hi i j h : Nat} (b : BS p lo hi i j) (hM : Mono p lo hi) (h1 : i ≤ h) (h2 : h < j) (hp : p h) : BS p lo hi (h + 1) j :=
  ⟨by have := b.l; omega, by omega, b.r, fun k k1 k2 => hM k h k1 (by omega) (by have := b.r; omega) hp, b.no⟩
theorem BS.down {p : Nat → Prop} {lo hi i j h : Nat} (b : BS p lo hi i j) (hM : Mono p lo hi) (h1 : i ≤ h) (h2 : h < j) (hp : ¬ p h) : BS p lo hi i h :=
  ⟨b.l, by omega, by have := b.r; omega, b.yes, fun k k1 k2 hk => hp (hM h k (by have := b.l; omega) k1 k2 hk)⟩

theorem mono1 {d : Array α} {a m b : Nat} (hs : Srt due ix d m b) : Mono (fun h => due d[h]! < due d[a]!) m b := fun k h h1 h2 h3 hp => by
  have := hs.le h1 h2 h3
  show due d[k]! < due d[a]!
  have : due d[h]! < due d[a]! := hp
  omega
theorem mono2 {d : Array α} {a m : Nat} (hs : Srt due ix d a m) : Mono (fun h => due d[h]! ≤ due d[m]!) a m := fun k h h1 h2 h3 hp => by
  have := hs.le h1 h2 h3
  show due d[k]! ≤ due d[m]!
  have : due d[h]! ≤ due d[m]! := hp
  omega

theorem left1 {d d' : Array α} {a m b i : Nat} (hm : m = a + 1) (hmb : m < b) (hs : Srt due ix d m b) (hc : Crs ix d a m b) (B : BS (fun h => due d[h]! < due d[a]!) m b i i) (R : Via (mvL a (i - 1)) d d') : SM due ix d a b d' := by
  obtain ⟨hl, _, hr, hy, hn⟩ := B
  have e1 : ∀ t, a ≤ t → t < i - 1 → d'[t]! = d[t + 1]! := fun t h1 h2 => by rw [R.at_]; exact geq d (by unfold mvL; rw [if_pos (by omega)])
  have e2 : d'[i - 1]! = d[a]! := by rw [R.at_]; exact geq d (by unfold mvL; rw [if_neg (by omega), if_pos rfl])
  have e3 : ∀ t, (t < a ∨ i ≤ t) → d'[t]! = d[t]! := fun t h => by rw [R.at_]; exact geq d (by unfold mvL; rw [if_neg (by omega), if_neg (by omega)])
  refine ⟨R.size, fun t h => e3 t (by omega), fun t h1 h2 => ?_, fun t h1 h2 => ?_, fun t u h1 h2 h3 => ?_⟩
  · by_cases c1 : t < i - 1
    · exact ⟨t + 1, by omega, by omega, e1 t h1 c1⟩
    · by_cases c2 : t = i - 1
      · subst c2; exact ⟨a, by omega, by omega, e2⟩
      · exact ⟨t, h1, h2, e3 t (by omega)⟩
  · by_cases c1 : t = a
    · subst c1; exact ⟨i - 1, by omega, by omega, e2⟩
    · by_cases c2 : t < i
      · refine ⟨t - 1, by omega, by omega, ?_⟩
        rw [e1 (t - 1) (by omega) (by omega)]
        exact geq d (by omega)
      · exact ⟨t, h1, h2, e3 t (by omega)⟩
  · by_cases c1 : u < i - 1
    · rw [e1 t h1 (by omega), e1 u (by omega) c1]; exact hs _ _ (by omega) (by omega) (by omega)
    · by_cases c2 : u = i - 1
      · subst c2
        rw [e1 t h1 (by omega), e2]
        exact .inl (hy (t + 1) (by omega) (by omega))
      · rw [e3 u (by omega)]
        by_cases c3 : t < i - 1
        · rw [e1 t h1 c3]; exact hs _ _ (by omega) (by omega) (by omega)
        · by_cases c4 : t = i - 1
          · subst c4
            rw [e2]
            have hh : ¬ due d[u]! < due d[a]! := hn u (by omega) h3
            exact lx_mk (by omega) (hc a u (by omega) (by omega) (by omega) h3)
          · rw [e3 t (by omega)]; exact hs _ _ (by omega) h2 h3

theorem right1 {d d' : Array α} {a m b i : Nat} (hm : b = m + 1) (ham : a < m) (hs : Srt due ix d a m) (hc : Crs ix d a m b) (B : BS (fun h => due d[h]! ≤ due d[m]!) a m i i) (R : Via (mvR m i) d d') : SM due ix d a b d' := by
  obtain ⟨hl, _, hr, hy, hn⟩ := B
  have e1 : ∀ t, i < t → t ≤ m → d'[t]! = d[t - 1]! := fun t h1 h2 => by rw [R.at_]; exact geq d (by unfold mvR; rw [if_pos (by omega)])
  have e2 : d'[i]! = d[m]! := by rw [R.at_]; exact geq d (by unfold mvR; rw [if_neg (by omega), if_pos rfl])
  have e3 : ∀ t, (t < i ∨ m < t) → d'[t]! = d[t]! := fun t h => by rw [R.at_]; exact geq d (by unfold mvR; rw [if_neg (by omega), if_neg (by omega)])
  refine ⟨R.size, fun t h => e3 t (by omega), fun t h1 h2 => ?_, fun t h1 h2 => ?_, fun t u h1 h2 h3 => ?_⟩
  · by_cases c1 : t < i
    · exact ⟨t, h1, h2, e3 t (by omega)⟩
    · by_cases c2 : t = i
      · subst c2; exact ⟨m, by omega, by omega, e2⟩
      · exact ⟨t - 1, by omega, by omega, e1 t (by omega) (by omega)⟩
  · by_cases c1 : t = m
    · subst c1; exact ⟨i, by omega, by omega, e2⟩
    · by_cases c2 : t < i
      · exact ⟨t, h1, h2, e3 t (by omega)⟩
      · refine ⟨t + 1, by omega, by omega, ?_⟩
        rw [e1 (t + 1) (by omega) (by omega)]
        exact geq d (by omega)
  · by_cases c1 : t < i
    · rw [e3 t (by omega)]
      by_cases c2 : u < i
      · rw [e3 u (by omega)]; exact hs _ _ h1 h2 (by omega)
      · by_cases c3 : u = i
        · subst c3
          rw [e2]
          have hh : due d[t]! ≤ due d[m]! := hy t h1 c1
          exact lx_mk (by omega) (hc t m h1 (by omega) (by omega) (by omega))
        · rw [e1 u (by omega) (by omega)]; exact hs _ _ h1 (by omega) (by omega)
    · by_cases c2 : t = i
      · subst c2
        rw [e2, e1 u (by omega) (by omega)]
        have hh : ¬ due d[u - 1]! ≤ due d[m]! := hn (u - 1) (by omega) (by omega)
        exact .inl (by omega)
      · rw [e1 t (by omega) (by omega), e1 u (by omega) (by omega)]; exact hs _ _ (by omega) (by omega) (by omega)

/-! ### One merge -/
def lohi (a m b mid lo hi : Nat) : Prop := (mid < m ∧ lo = mid + m - b ∧ hi = mid) ∨ (m ≤ mid ∧ lo = a ∧ hi = m)
theorem mono3 {d : Array α} {a m b mid lo hi : Nat} (ham : a < m) (hmb : m < b) (hmid : mid = (a + b) / 2) (h : lohi a m b mid lo hi) (h1 : Srt due ix d a m) (h2 : Srt due ix d m b) : Mono (fun c => due d[c]! ≤ due d[mid + m - 1 - c]!) lo hi := fun k c k1 k2 k3 hp => by
  have x1 : due d[k]! ≤ due d[c]! := h1.le (by unfold lohi at h; omega) k2 (by unfold lohi at h; omega)
  have x2 : due d[mid + m - 1 - c]! ≤ due d[mid + m - 1 - k]! := h2.le (by unfold lohi at h; omega) (by omega) (by unfold lohi at h; omega)
  have x3 : due d[c]! ≤ due d[mid + m - 1 - c]! := hp
  show due d[k]! ≤ due d[mid + m - 1 - k]!
  omega
structure Split (due : α → Int) (ix : α → Nat) (d d1 : Array α) (a b s mid e : Nat) : Prop where
  s1 : Srt due ix d1 a s
  s2 : Srt due ix d1 s mid
  c1 : Crs ix d1 a s mid
  s3 : Srt due ix d1 mid e
  s4 : Srt due ix d1 e b
  c2 : Crs ix d1 mid e b
  across : ∀ i j, a ≤ i → i < mid → mid ≤ j → j < b → lx due ix d1[i]! d1[j]!
  size : d1.size = d.size
  out : ∀ i, (i < a ∨ b ≤ i) → d1[i]! = d[i]!
  into : ∀ i, a ≤ i → i < b → ∃ j, a ≤ j ∧ j < b ∧ d1[i]! = d[j]!
  onto : ∀ j, a ≤ j → j < b → ∃ i, a ≤ i ∧ i < b ∧ d1[i]! = d[j]!
theorem search_range {a m b mid lo hi s : Nat} (ham : a < m) (hmb : m < b) (hmid : mid = (a + b) / 2) (h : lohi a m b mid lo hi) (h1 : lo ≤ s) (h2 : s ≤ hi) :
    a ≤ s ∧ s ≤ m ∧ s ≤ mid ∧ m ≤ mid + m - s ∧ mid ≤ mid + m - s ∧ mid + m - s ≤ b := by
  unfold lohi at h
  omega
theorem split_law {d d1 : Array α} {a m b mid lo hi s e : Nat} (ham : a < m) (hmb : m < b) (hmid : mid = (a + b) / 2) (h : lohi a m b mid lo hi) (h1 : Srt due ix d a m) (h2 : Srt due ix d m b) (hc : Crs ix d a m b)
    (B : BS (fun c => due d[c]! ≤ due d[mid + m - 1 - c]!) lo hi s s) (he : e = mid + m - s) (V : Via (rotIx s m e) d d1) : Split due ix d d1 a b s mid e := by
  obtain ⟨hl, _, hr, hy, hn⟩ := B
  obtain ⟨r1, r2, r3, r4, r5, r6⟩ := search_range ham hmb hmid h hl hr
  rw [← he] at r4 r5 r6
  have eA : ∀ t, t < s → d1[t]! = d[t]! := fun t ht => by rw [V.at_]; exact geq d (by unfold rotIx; rw [if_neg (by omega), if_neg (by omega)])
  have eB : ∀ t, s ≤ t → t < mid → d1[t]! = d[t + (m - s)]! := fun t ht h3 => by rw [V.at_]; exact geq d (by unfold rotIx; rw [if_pos (by omega)])
  have eC : ∀ t, mid ≤ t → t < e → d1[t]! = d[t - (e - m)]! := fun t ht h3 => by rw [V.at_]; exact geq d (by unfold rotIx; rw [if_neg (by omega), if_pos (by omega)])
  have eD : ∀ t, e ≤ t → d1[t]! = d[t]! := fun t ht => by rw [V.at_]; exact geq d (by unfold rotIx; rw [if_neg (by omega), if_neg (by omega)])
  refine ⟨fun i j i1 i2 i3 => ?_, fun i j i1 i2 i3 => ?_, fun i j i1 i2 i3 i4 => ?_, fun i j i1 i2 i3 => ?_, fun i j i1 i2 i3 => ?_, fun i j i1 i2 i3 i4 => ?_, fun i j i1 i2 i3 i4 => ?_, V.size, fun t ht => ?_, fun t t1 t2 => ?_, fun t t1 t2 => ?_⟩
  · rw [eA i (by omega), eA j (by omega)]; exact h1 _ _ i1 i2 (by omega)
  · rw [eB i i1 (by omega), eB j (by omega) i3]; exact h2 _ _ (by omega) (by omega) (by omega)
  · rw [eA i i2, eB j i3 i4]; exact hc _ _ i1 (by omega) (by omega) (by omega)
  · rw [eC i i1 (by omega), eC j (by omega) i3]; exact h1 _ _ (by omega) (by omega) (by omega)
  · rw [eD i i1, eD j (by omega)]; exact h2 _ _ (by omega) i2 i3
  · rw [eC i i1 i2, eD j i3]; exact hc _ _ (by omega) (by omega) (by omega) i4
  · by_cases c1 : i < s
    · rw [eA i c1]
      by_cases c2 : j < e
      · rw [eC j i3 c2]; exact h1 _ _ i1 (by omega) (by omega)
      · rw [eD j (by omega)]
        have hlo : lo < s := by unfold lohi at h; omega
        have hp : due d[s - 1]! ≤ due d[mid + m - 1 - (s - 1)]! := hy (s - 1) (by omega) (by omega)
        rw [show mid + m - 1 - (s - 1) = e by omega] at hp
        have x1 := h1.le i1 (show i ≤ s - 1 by omega) (by omega)
        have x2 := h2.le r4 (show e ≤ j by omega) i4
        exact lx_mk (by omega) (hc _ _ i1 (by omega) (by omega) i4)
    · rw [eB i (by omega) i2]
      by_cases c2 : j < e
      · rw [eC j i3 c2]
        have hhi : s < hi := by unfold lohi at h; omega
        have hp : ¬ due d[s]! ≤ due d[mid + m - 1 - s]! := hn s (Nat.le_refl _) hhi
        have x1 := h2.le (show m ≤ i + (m - s) by omega) (show i + (m - s) ≤ mid + m - 1 - s by omega) (by omega)
        have x2 := h1.le r1 (show s ≤ j - (e - m) by omega) (by omega)
        exact .inl (by omega)
      · rw [eD j (by omega)]; exact h2 _ _ (by omega) (by omega) i4
  · rcases ht with ht | ht
    · exact eA t (by omega)
    · exact eD t (by omega)
  · by_cases c1 : t < s
    · exact ⟨t, t1, t2, eA t c1⟩
    · by_cases c2 : t < mid
      · exact ⟨_, by omega, by omega, eB t (by omega) c2⟩
      · by_cases c3 : t < e
        · exact ⟨_, by omega, by omega, eC t (by omega) c3⟩
        · exact ⟨t, t1, t2, eD t (by omega)⟩
  · by_cases c1 : t < s
    · exact ⟨t, t1, t2, eA t c1⟩
    · by_cases c2 : t < m
      · refine ⟨t + (e - m), by omega, by omega, ?_⟩
        rw [eC _ (by omega) (by omega)]
        exact geq d (by omega)
      · by_cases c3 : t < e
        · refine ⟨t - (m - s), by omega, by omega, ?_⟩
          rw [eB _ (by omega) (by omega)]
          exact geq d (by omega)
        · exact ⟨t, t1, t2, eD t (by omega)⟩

/-- The second half, as the first merge leaves it. -/
theorem Split.second {d d1 d2 : Array α} {a b s mid e : Nat} (S : Split due ix d d1 a b s mid e) (M : SM due ix d1 a mid d2) : Srt due ix d2 mid e ∧ (mid ≤ e → Srt due ix d2 e b) ∧ (mid ≤ e → Crs ix d2 mid e b) :=
  ⟨fun i j h1 h2 h3 => by rw [M.out i (by omega), M.out j (by omega)]; exact S.s3 i j h1 h2 h3,
   fun he i j h1 h2 h3 => by rw [M.out i (by omega), M.out j (by omega)]; exact S.s4 i j h1 h2 h3,
   fun he i j h1 h2 h3 h4 => by rw [M.out i (by omega), M.out j (by omega)]; exact S.c2 i j h1 h2 h3 h4⟩
theorem Split.join {d d1 d2 d3 : Array α} {a b s mid e : Nat} (S : Split due ix d d1 a b s mid e) (ha : a ≤ mid) (hb : mid ≤ b) (M : SM due ix d1 a mid d2) (N : SM due ix d2 mid b d3) : SM due ix d a b d3 := by
  have i1 : ∀ i, a ≤ i → i < b → ∃ j, a ≤ j ∧ j < b ∧ d3[i]! = d1[j]! ∧ (i < mid → j < mid) ∧ (mid ≤ i → mid ≤ j) := fun i h1 h2 => by
    by_cases c : i < mid
    · obtain ⟨j, j1, j2, e⟩ := M.into i h1 c
      exact ⟨j, j1, by omega, by rw [N.out i (by omega), e], fun _ => j2, fun h => by omega⟩
    · obtain ⟨j, j1, j2, e⟩ := N.into i (by omega) h2
      exact ⟨j, by omega, j2, by rw [e, M.out j (by omega)], fun h => by omega, fun _ => j1⟩
  refine ⟨N.size.trans (M.size.trans S.size), fun i h => ?_, fun i h1 h2 => ?_, fun j h1 h2 => ?_, fun i j h1 h2 h3 => ?_⟩
  · rw [N.out i (by omega), M.out i (by omega), S.out i h]
  · obtain ⟨j, j1, j2, e, _⟩ := i1 i h1 h2
    obtain ⟨k, k1, k2, e2⟩ := S.into j j1 j2
    exact ⟨k, k1, k2, e.trans e2⟩
  · obtain ⟨k, k1, k2, e⟩ := S.onto j h1 h2
    by_cases c : k < mid
    · obtain ⟨i, i1, i2, e2⟩ := M.onto k k1 c
      exact ⟨i, i1, by omega, by rw [N.out i (by omega), e2, e]⟩
    · obtain ⟨i, i1, i2, e2⟩ := N.onto k (by omega) k2
      exact ⟨i, by omega, i2, by rw [e2, M.out k (by omega), e]⟩
  · by_cases c : j < mid
    · rw [N.out i (by omega), N.out j (by omega)]; exact M.srt i j h1 h2 c
    · by_cases c2 : mid ≤ i
      · exact N.srt i j c2 h2 h3
      · obtain ⟨p, p1, p2, e1, q1, _⟩ := i1 i h1 (by omega)
        obtain ⟨q, q2, q3, e2, _, q4⟩ := i1 j (by omega) h3
        rw [e1, e2]
        exact S.across p q p1 (q1 (by omega)) (q4 (by omega)) q3

/-! ### The insertion sort -/
variable {lt : α → α → Bool}
theorem insInner_sm (hlt : ∀ x y, lt x y = true ↔ due x < due y) (a : Nat) : ∀ (j : Nat) (d : Array α), a ≤ j → j < d.size → Srt due ix d a j → Crs ix d a j (j + 1) → SM due ix d a (j + 1) (insInner lt a j d) := by
  intro j
  induction j with
  | zero =>
    intro d ha hj hs hc
    rw [insInner_stop lt a 0 d (.inl (by omega))]
    exact SM.refl (fun i k h1 h2 h3 => by omega)
  | succ j ih =>
    intro d ha hj hs hc
    by_cases c : a < j + 1 ∧ lt d[j + 1]! d[j]! = true
    · obtain ⟨haj, hl⟩ := c
      rw [insInner_go lt a (j + 1) d haj (by simpa using hl)]
      have hd := (hlt _ _).1 hl
      simp only [Nat.add_sub_cancel]
      have V := via_swp d (i := j + 1) (j := j) hj (by omega)
      have e1 : (swp d (j + 1) j)[j]! = d[j + 1]! := by rw [V.at_, if_pos rfl]
      have e2 : (swp d (j + 1) j)[j + 1]! = d[j]! := by rw [V.at_, if_neg (by omega), if_pos rfl]
      have e3 : ∀ t, t ≠ j → t ≠ j + 1 → (swp d (j + 1) j)[t]! = d[t]! := fun t h1 h2 => by rw [V.at_, if_neg h1, if_neg h2]
      have vs := V.size
      clear V
      generalize swp d (j + 1) j = d1 at *
      have M := ih d1 (by omega) (by omega) (fun i k h1 h2 h3 => by rw [e3 i (by omega) (by omega), e3 k (by omega) (by omega)]; exact hs i k h1 h2 (by omega))
        (fun i k h1 h2 h3 h4 => by rw [show k = j by omega, e1, e3 i (by omega) (by omega)]; exact hc i (j + 1) h1 (by omega) (by omega) (by omega))
      have ej : (insInner lt a j d1)[j + 1]! = d[j]! := by rw [M.out (j + 1) (by omega), e2]
      have ii : ∀ i, a ≤ i → i < j + 1 → ∃ k, a ≤ k ∧ k < j + 2 ∧ k ≠ j ∧ (insInner lt a j d1)[i]! = d[k]! := fun i h1 h2 => by
        obtain ⟨k, k1, k2, e⟩ := M.into i h1 h2
        by_cases c : k = j
        · subst c; exact ⟨k + 1, by omega, by omega, by omega, by rw [e, e1]⟩
        · exact ⟨k, k1, by omega, c, by rw [e, e3 k c (by omega)]⟩
      refine ⟨M.size.trans vs, fun i h => ?_, fun i h1 h2 => ?_, fun k h1 h2 => ?_, fun i k h1 h2 h3 => ?_⟩
      · rw [M.out i (by omega), e3 i (by omega) (by omega)]
      · by_cases c : i = j + 1
        · subst c; exact ⟨j, by omega, by omega, ej⟩
        · obtain ⟨k, k1, k2, _, e⟩ := ii i h1 (by omega)
          exact ⟨k, k1, k2, e⟩
      · by_cases c : k = j
        · subst c; exact ⟨k + 1, by omega, by omega, ej⟩
        · by_cases c2 : k = j + 1
          · subst c2
            obtain ⟨i, i1, i2, e⟩ := M.onto j (by omega) (by omega)
            exact ⟨i, i1, by omega, by rw [e, e1]⟩
          · obtain ⟨i, i1, i2, e⟩ := M.onto k h1 (by omega)
            exact ⟨i, i1, by omega, by rw [e, e3 k c c2]⟩
      · by_cases c : k = j + 1
        · subst c
          obtain ⟨p, p1, p2, p3, e⟩ := ii i h1 h2
          rw [ej, e]
          by_cases c2 : p = j + 1
          · subst c2; exact .inl hd
          · exact hs p j p1 (by omega) (by omega)
        · exact M.srt i k h1 h2 (by omega)
    · rw [insInner_stop lt a (j + 1) d (by
        by_cases c1 : a < j + 1
        · exact .inr (by simpa using fun h => c ⟨c1, h⟩)
        · exact .inl (by omega))]
      refine SM.refl (fun i k h1 h2 h3 => ?_)
      by_cases c2 : k = j + 1
      · subst c2
        have hl : ¬ due d[j + 1]! < due d[j]! := fun h => c ⟨by omega, (hlt _ _).2 h⟩
        have := hs.le h1 (show i ≤ j by omega) (by omega)
        exact lx_mk (by omega) (hc i (j + 1) h1 h2 (by omega) (by omega))
      · exact hs i k h1 h2 (by omega)
theorem SM.wide {d d1 e : Array α} {a b b' : Nat} (M : SM due ix d a b' d1) (hb : b' ≤ b) (N : SM due ix d1 a b e) : SM due ix d a b e :=
  ⟨N.size.trans M.size, fun i h => by rw [N.out i h, M.out i (by omega)], fun i h1 h2 => by
    obtain ⟨j, j1, j2, e⟩ := N.into i h1 h2
    by_cases c : j < b'
    · obtain ⟨k, k1, k2, e2⟩ := M.into j j1 c
      exact ⟨k, k1, by omega, e.trans e2⟩
    · exact ⟨j, j1, j2, by rw [e, M.out j (by omega)]⟩, fun j h1 h2 => by
    by_cases c : j < b'
    · obtain ⟨k, k1, k2, e2⟩ := M.onto j h1 c
      obtain ⟨i, i1, i2, e⟩ := N.onto k k1 (by omega)
      exact ⟨i, i1, i2, e.trans e2⟩
    · obtain ⟨i, i1, i2, e⟩ := N.onto j h1 h2
      exact ⟨i, i1, i2, by rw [e, M.out j (by omega)]⟩, N.srt⟩
theorem insOuter_sm (hlt : ∀ x y, lt x y = true ↔ due x < due y) (a b : Nat) : ∀ (n i : Nat) (d : Array α), b - i = n → a ≤ i → i ≤ b → b ≤ d.size → Srt due ix d a i → (∀ p q, a ≤ p → p < q → i ≤ q → q < b → ix d[p]! < ix d[q]!) → SM due ix d a b (insOuter lt a b i d)
  | 0, i, d, hn, hai, hib, hb, hs, hx => by
    rw [insOuter_stop lt a b i d (by omega)]
    rw [show i = b by omega] at hs
    exact SM.refl hs
  | n + 1, i, d, hn, hai, hib, hb, hs, hx => by
    rw [insOuter_go lt a b i d (by omega)]
    have M := insInner_sm (ix := ix) hlt a i d hai (by omega) hs (fun p q h1 h2 h3 h4 => hx p q h1 (by omega) h3 (by omega))
    refine M.wide (by omega) (insOuter_sm hlt a b n (i + 1) _ (by omega) (by omega) (by omega) (by rw [M.size]; exact hb) M.srt (fun p q h1 h2 h3 h4 => ?_))
    rw [M.out q (by omega)]
    by_cases c : p < i + 1
    · obtain ⟨k, k1, k2, e⟩ := M.into p h1 c
      rw [e]
      exact hx k q k1 (by omega) (by omega) h4
    · rw [M.out p (by omega)]
      exact hx p q h1 h2 (by omega) h4
theorem ins_sm (hlt : ∀ x y, lt x y = true ↔ due x < due y) {a b : Nat} {d : Array α} (hab : a ≤ b) (hb : b ≤ d.size) (hx : ∀ p q, a ≤ p → p < q → q < b → ix d[p]! < ix d[q]!) : SM due ix d a b (Sort.insertionSort lt d a b) := by
  unfold Sort.insertionSort
  by_cases c : a < b
  · exact insOuter_sm hlt a b _ (a + 1) d rfl (by omega) (by omega) hb (fun i j h1 h2 h3 => by omega) (fun p q h1 h2 h3 h4 => hx p q h1 h2 h4)
  · rw [insOuter_stop lt a b (a + 1) d (by omega)]
    exact SM.refl (fun i j h1 h2 h3 => by omega)
#print axioms ins_sm
#print axioms Split.join
end Go.Proofs.YtnhflmihjegaiaaDoor.Sym

namespace Go.Proofs.YtnhflmihjegaiaaDoor.Sym
open Go.Sort
set_option linter.unusedSimpArgs false
set_option linter.unusedVariables false

variable {α : Type} [Inhabited α] {due : α → Int} {ix : α → Nat}

structure Mix (d0 d : Array α) (n : Nat) : Prop where
  size : d.size = d0.size
  into : ∀ i, i < n → ∃ j, j < n ∧ d[i]! = d0[j]!
  onto : ∀ j, j < n → ∃ i, i < n ∧ d[i]! = d0[j]!
theorem Mix.refl (d : Array α) (n : Nat) : Mix d d n := ⟨rfl, fun i h => ⟨i, h, rfl⟩, fun i h => ⟨i, h, rfl⟩⟩
/-- Where a place's element comes from, with the cuts kept. -/
theorem SM.from {d d' : Array α} {a b : Nat} (M : SM due ix d a b d') (i : Nat) : ∃ j, d'[i]! = d[j]! ∧ ((j = i ∧ (i < a ∨ b ≤ i)) ∨ (a ≤ i ∧ i < b ∧ a ≤ j ∧ j < b)) := by
  by_cases h : a ≤ i ∧ i < b
  · obtain ⟨j, j1, j2, e⟩ := M.into i h.1 h.2
    exact ⟨j, e, .inr ⟨h.1, h.2, j1, j2⟩⟩
  · exact ⟨i, M.out i (by omega), .inl ⟨rfl, by omega⟩⟩
theorem Mix.step {d0 d d' : Array α} {n a b : Nat} (X : Mix d0 d n) (M : SM due ix d a b d') (hb : b ≤ n) : Mix d0 d' n :=
  ⟨M.size.trans X.size, fun i h => by
    obtain ⟨j, e, hj⟩ := M.from i
    obtain ⟨k, k1, e2⟩ := X.into j (by omega)
    exact ⟨k, k1, e.trans e2⟩, fun j h => by
    obtain ⟨k, k1, e⟩ := X.onto j h
    by_cases hk : a ≤ k ∧ k < b
    · obtain ⟨i, i1, i2, e2⟩ := M.onto k hk.1 hk.2
      exact ⟨i, by omega, e2.trans e⟩
    · exact ⟨k, k1, (M.out k (by omega)).trans e⟩⟩

structure Full (due : α → Int) (ix : α → Nat) (d0 d : Array α) (n bs : Nat) : Prop where
  mix : Mix d0 d n
  srt : ∀ k i j, k * bs ≤ i → i < j → j < k * bs + bs → j < n → lx due ix d[i]! d[j]!
  crs : ∀ k i j, i < k * bs → k * bs ≤ j → j < n → ix d[i]! < ix d[j]!
theorem Full.done {d0 d : Array α} {n bs : Nat} (F : Full due ix d0 d n bs) (h : n ≤ bs) : Srt due ix d 0 n := fun i j h1 h2 h3 => F.srt 0 i j (by omega) h2 (by omega) h3

/-! ### The insertion sorts -/
structure IB (due : α → Int) (ix : α → Nat) (d0 d : Array α) (n a : Nat) : Prop where
  mix : Mix d0 d n
  al : ∃ K, a = K * 20
  srt : ∀ k i j, k * 20 < a → k * 20 ≤ i → i < j → j < k * 20 + 20 → j < n → lx due ix d[i]! d[j]!
  crs : ∀ k i j, i < k * 20 → k * 20 ≤ j → j < n → ix d[i]! < ix d[j]!
  rest : ∀ p q, a ≤ p → p < q → q < n → ix d[p]! < ix d[q]!
theorem IB.start {d : Array α} {n : Nat} (hx : ∀ p q, p < q → q < n → ix d[p]! < ix d[q]!) : IB due ix d d n 0 :=
  ⟨Mix.refl _ _, ⟨0, rfl⟩, fun k i j h => by omega, fun k i j h1 h2 h3 => hx i j (by omega) h3, fun p q _ h2 h3 => hx p q h2 h3⟩
theorem IB.step {d0 d d' : Array α} {n a : Nat} (I : IB due ix d0 d n a) (h : a + 20 ≤ n) (M : SM due ix d a (a + 20) d') : IB due ix d0 d' n (a + 20) := by
  obtain ⟨K, hK⟩ := I.al
  refine ⟨I.mix.step M h, ⟨K + 1, by omega⟩, fun k i j h1 h2 h3 h4 h5 => ?_, fun k i j h1 h2 h3 => ?_, fun p q h1 h2 h3 => ?_⟩
  · by_cases c : k = K
    · exact M.srt i j (by omega) h3 (by omega)
    · rw [M.out i (by omega), M.out j (by omega)]; exact I.srt k i j (by omega) h2 h3 h4 h5
  · obtain ⟨i', e1, g1⟩ := M.from i
    obtain ⟨j', e2, g2⟩ := M.from j
    rw [e1, e2]
    exact I.crs k i' j' (by omega) (by omega) (by omega)
  · rw [M.out p (by omega), M.out q (by omega)]; exact I.rest p q (by omega) h2 h3
theorem IB.done {d0 d d' : Array α} {n a : Nat} (I : IB due ix d0 d n a) (h : n < a + 20) (h2 : a ≤ n) (M : SM due ix d a n d') : Full due ix d0 d' n 20 := by
  obtain ⟨K, hK⟩ := I.al
  refine ⟨I.mix.step M (Nat.le_refl _), fun k i j h1 h2 h3 h4 => ?_, fun k i j h1 h2 h3 => ?_⟩
  · by_cases c : k = K
    · exact M.srt i j (by omega) h2 (by omega)
    · rw [M.out i (by omega), M.out j (by omega)]; exact I.srt k i j (by omega) h1 h2 h3 h4
  · obtain ⟨i', e1, g1⟩ := M.from i
    obtain ⟨j', e2, g2⟩ := M.from j
    rw [e1, e2]
    exact I.crs k i' j' (by omega) (by omega) (by omega)

/-! ### A pass of merges -/
theorem mul_lt_le {k K s : Nat} (h : k < K) : k * s + s ≤ K * s := by
  have := Nat.mul_le_mul_right s h
  rwa [Nat.succ_mul] at this
/-- Two multiples. -/
theorem mul_cmp {k K s : Nat} : (k * s + s ≤ K * s) ∨ (k * s = K * s ∧ k = K) ∨ (K * s + s ≤ k * s) := by
  rcases Nat.lt_trichotomy k K with h | h | h
  · exact .inl (mul_lt_le h)
  · exact .inr (.inl ⟨by rw [h], h⟩)
  · exact .inr (.inr (mul_lt_le h))
structure MB (due : α → Int) (ix : α → Nat) (d0 d : Array α) (n bs a : Nat) : Prop where
  mix : Mix d0 d n
  al : ∃ K, a = K * (2 * bs)
  done : ∀ k i j, k * (2 * bs) < a → k * (2 * bs) ≤ i → i < j → j < k * (2 * bs) + 2 * bs → j < n → lx due ix d[i]! d[j]!
  todo : ∀ k i j, a ≤ k * bs → k * bs ≤ i → i < j → j < k * bs + bs → j < n → lx due ix d[i]! d[j]!
  c2 : ∀ k i j, i < k * (2 * bs) → k * (2 * bs) ≤ j → j < n → ix d[i]! < ix d[j]!
  c1 : ∀ k i j, a ≤ k * bs → i < k * bs → k * bs ≤ j → j < n → ix d[i]! < ix d[j]!
theorem two_mul_bs (k bs : Nat) : k * (2 * bs) = (2 * k) * bs := by rw [Nat.mul_comm 2 k, Nat.mul_assoc]
theorem MB.start {d0 d : Array α} {n bs : Nat} (F : Full due ix d0 d n bs) : MB due ix d0 d n bs 0 :=
  ⟨F.mix, ⟨0, by omega⟩, fun k i j h => by omega, fun k i j _ h2 h3 h4 h5 => F.srt k i j h2 h3 h4 h5, fun k i j h1 h2 h3 => by rw [two_mul_bs] at h1 h2; exact F.crs _ i j h1 h2 h3, fun k i j _ h1 h2 h3 => F.crs k i j h1 h2 h3⟩
theorem MB.left {d0 d : Array α} {n bs a : Nat} (I : MB due ix d0 d n bs a) (h : a + bs ≤ n) : Srt due ix d a (a + bs) := fun i j h1 h2 h3 => by
  obtain ⟨K, hK⟩ := I.al
  rw [two_mul_bs] at hK
  exact I.todo (2 * K) i j (by omega) (by omega) h2 (by omega) (by omega)
theorem MB.right {d0 d : Array α} {n bs a b : Nat} (I : MB due ix d0 d n bs a) (h : b ≤ n) (hb : b ≤ a + 2 * bs) : Srt due ix d (a + bs) b := fun i j h1 h2 h3 => by
  obtain ⟨K, hK⟩ := I.al
  rw [two_mul_bs] at hK
  have e : (2 * K + 1) * bs = a + bs := by rw [Nat.succ_mul, ← hK]
  exact I.todo (2 * K + 1) i j (by omega) (by omega) h2 (by omega) (by omega)
theorem MB.cross {d0 d : Array α} {n bs a b : Nat} (I : MB due ix d0 d n bs a) (h : b ≤ n) : Crs ix d a (a + bs) b := fun i j h1 h2 h3 h4 => by
  obtain ⟨K, hK⟩ := I.al
  rw [two_mul_bs] at hK
  have e : (2 * K + 1) * bs = a + bs := by rw [Nat.succ_mul, ← hK]
  exact I.c1 (2 * K + 1) i j (by omega) (by omega) (by omega) (by omega)
theorem MB.step {d0 d d' : Array α} {n bs a : Nat} (I : MB due ix d0 d n bs a) (h0 : 0 < bs) (h : a + 2 * bs ≤ n) (M : SM due ix d a (a + 2 * bs) d') : MB due ix d0 d' n bs (a + 2 * bs) := by
  obtain ⟨K, hK⟩ := I.al
  refine ⟨I.mix.step M h, ⟨K + 1, by rw [hK]; exact (Nat.succ_mul K (2 * bs)).symm⟩, fun k i j h1 h2 h3 h4 h5 => ?_, fun k i j h1 h2 h3 h4 h5 => ?_, fun k i j h1 h2 h3 => ?_, fun k i j h1 h2 h3 h4 => ?_⟩
  · rcases mul_cmp (k := k) (K := K) (s := 2 * bs) with c | c | c
    · rw [M.out i (by omega), M.out j (by omega)]; exact I.done k i j (by omega) h2 h3 h4 h5
    · exact M.srt i j (by omega) h3 (by omega)
    · omega
  · rw [M.out i (by omega), M.out j (by omega)]; exact I.todo k i j (by omega) h2 h3 h4 h5
  · obtain ⟨i', e1, g1⟩ := M.from i
    obtain ⟨j', e2, g2⟩ := M.from j
    rw [e1, e2]
    rcases mul_cmp (k := k) (K := K) (s := 2 * bs) with c | c | c
    · exact I.c2 k i' j' (by omega) (by omega) (by omega)
    · exact I.c2 k i' j' (by omega) (by omega) (by omega)
    · exact I.c2 k i' j' (by omega) (by omega) (by omega)
  · obtain ⟨i', e1, g1⟩ := M.from i
    obtain ⟨j', e2, g2⟩ := M.from j
    rw [e1, e2]
    exact I.c1 k i' j' (by omega) (by omega) (by omega) (by omega)
theorem MB.last {d0 d d' : Array α} {n bs a : Nat} (I : MB due ix d0 d n bs a) (h0 : 0 < bs) (h : n < a + 2 * bs) (han : a ≤ n) (M : SM due ix d a n d') : Full due ix d0 d' n (2 * bs) := by
  obtain ⟨K, hK⟩ := I.al
  refine ⟨I.mix.step M (Nat.le_refl _), fun k i j h1 h2 h3 h4 => ?_, fun k i j h1 h2 h3 => ?_⟩
  · rcases mul_cmp (k := k) (K := K) (s := 2 * bs) with c | c | c
    · rw [M.out i (by omega), M.out j (by omega)]; exact I.done k i j (by omega) h1 h2 h3 h4
    · exact M.srt i j (by omega) h2 (by omega)
    · omega
  · obtain ⟨i', e1, g1⟩ := M.from i
    obtain ⟨j', e2, g2⟩ := M.from j
    rw [e1, e2]
    rcases mul_cmp (k := k) (K := K) (s := 2 * bs) with c | c | c
    · exact I.c2 k i' j' (by omega) (by omega) (by omega)
    · exact I.c2 k i' j' (by omega) (by omega) (by omega)
    · exact I.c2 k i' j' (by omega) (by omega) (by omega)
theorem MB.short {d0 d : Array α} {n bs a : Nat} (I : MB due ix d0 d n bs a) (h0 : 0 < bs) (h : n ≤ a + bs) (han : a ≤ n) : Full due ix d0 d n (2 * bs) :=
  I.last h0 (by omega) han (SM.refl (fun i j h1 h2 h3 => by
    obtain ⟨K, hK⟩ := I.al
    rw [two_mul_bs] at hK
    exact I.todo (2 * K) i j (by omega) (by omega) h2 (by omega) h3))
#print axioms MB.last
end Go.Proofs.YtnhflmihjegaiaaDoor.Sym
