/- slices.SortStableFunc at ints, any length: the walk. (gen_sym.py) -/
import Derived.Test.YtnhflmihjegaiaaDoorSymG
import Derived.Test.YtnhflmihjegaiaaDoorSymP
import Derived.Test.YtnhflmihjegaiaaDoorShelf
namespace Go.Proofs.YtnhflmihjegaiaaDoor.Sym
open Go Go.Proofs Go.Shelf Go.RowKit Go.Lib Go.Sort
set_option linter.unusedSimpArgs false
set_option linter.unusedVariables false
variable {α : Type} [Inhabited α]

theorem symMerge_s (enc : α → Value) (cf : α → α → Int) (due : α → Int) (ix : α → Nat) (hcf : ∀ x y, cf x y < 0 ↔ due x < due y) (g : Nat) (cb : Array Value) (blk off cap : Nat) (d0 : Array α) (w0 : World)
    (eg : ∀ args w, (callFunc g args).run Tryd.prog w = .ok (.enter g args) w) (hcmp : CmpLays1 Tryd.prog g cb enc cf blk off d0.size w0) (R : Row1 enc w0 blk off d0) (hsz : d0.size < 4611686018427387904) :
    ∀ (N a m b : Nat) (d : Array α) (w : World), b - a ≤ N → d.size = d0.size → SW enc w0 blk off d w → a < m → m < b → b ≤ d0.size → Srt due ix d a m → Srt due ix d m b → Crs ix d a m b →
      Calls Tryd.prog 47 #[.slice (some ⟨blk, off, none⟩) d0.size cap, .int .i64 a, .int .i64 m, .int .i64 b, .func (.func g) #[] cb] w fun e w' => e = .returned (.tuple #[]) ∧ ∃ d', SM due ix d a b d' ∧ SW enc w0 blk off d' w' := by
  intro N
  induction N with
  | zero => intro a m b d w hN hs S h1 h2; omega
  | succ N ih =>
    intro a m b d w hN hs S ham hmb hb h1 h2 hc
    have hR : ∀ (x y z : Nat) (dk : Array α) (wk : World), z - x < b - a → x < y → y < z → z ≤ d.size → dk.size = d.size → SW enc w0 blk off dk wk → Srt due ix dk x y → Srt due ix dk y z → Crs ix dk x y z →
        Calls Tryd.prog 47 #[.slice (some ⟨blk, off, none⟩) d.size cap, .int .i64 x, .int .i64 y, .int .i64 z, .func (.func g) #[] cb] wk fun e w' => e = .returned (.tuple #[]) ∧ ∃ d', SM due ix dk x z d' ∧ SW enc w0 blk off d' w' := by
      intro x y z dk wk q1 q2 q3 q4 q5 q6 q7 q8 q9
      rw [hs]
      exact ih x y z dk wk (by omega) (by omega) q6 q2 q3 (by omega) q7 q8 q9
    rw [← hs] at hb hsz ⊢
    by_cases c1 : m = a + 1
    · exact symL enc cf due ix hcf g cb blk off cap a m b d0 d w0 w eg hcmp R hs.symm S hb hsz c1 hmb h2 hc
    · by_cases c2 : b = m + 1
      · exact symR enc cf due ix hcf g cb blk off cap a m b d0 d w0 w eg hcmp R hs.symm S hb hsz c2 ham c1 h1 hc
      · by_cases c3 : (a + b) / 2 < m
        · exact symG1 enc cf due ix hcf g cb blk off cap a m b d0 d w0 w eg hcmp R hs.symm S hb hsz ham hmb c1 c2 h1 h2 hc c3 hR
        · exact symG2 enc cf due ix hcf g cb blk off cap a m b d0 d w0 w eg hcmp R hs.symm S hb hsz ham hmb c1 c2 h1 h2 hc (by omega) hR

set_option maxHeartbeats 8000000 in
set_option maxRecDepth 1000000 in
theorem stable_s (enc : α → Value) (cf : α → α → Int) (due : α → Int) (ix : α → Nat) (hcf : ∀ x y, cf x y < 0 ↔ due x < due y) (g : Nat) (cb : Array Value) (blk off cap : Nat) (d0 : Array α) (w0 : World)
    (eg : ∀ args w, (callFunc g args).run Tryd.prog w = .ok (.enter g args) w) (hcmp : CmpLays1 Tryd.prog g cb enc cf blk off d0.size w0) (R : Row1 enc w0 blk off d0) (hsz : d0.size < 1000000000000)
    (hx : ∀ p q, p < q → q < d0.size → ix d0[p]! < ix d0[q]!) (S : SW enc w0 blk off d0 w0) :
    Calls Tryd.prog 36 #[.slice (some ⟨blk, off, none⟩) d0.size cap, .int .i64 d0.size, .func (.func g) #[] cb] w0 fun e w' => e = .returned (.tuple #[]) ∧ ∃ d', (Mix d0 d' d0.size ∧ Srt due ix d' 0 d0.size) ∧ SW enc w0 blk off d' w' := by
  have HS : Aside (∀ (a m b : Nat) (d : Array α) (w : World), d.size = d0.size → SW enc w0 blk off d w → a < m → m < b → b ≤ d0.size → Srt due ix d a m → Srt due ix d m b → Crs ix d a m b →
      Calls Tryd.prog 47 #[.slice (some ⟨blk, off, none⟩) d0.size cap, .int .i64 a, .int .i64 m, .int .i64 b, .func (.func g) #[] cb] w fun e w' => e = .returned (.tuple #[]) ∧ ∃ d', SM due ix d a b d' ∧ SW enc w0 blk off d' w') :=
    fun a m b d w h1 h2 h3 h4 h5 h6 h7 h8 => symMerge_s enc cf due ix hcf g cb blk off cap d0 w0 eg hcmp R (by omega) _ a m b d w (Nat.le_refl _) h1 h2 h3 h4 h5 h6 h7 h8
  have hlt : ∀ x y, ltOf cf x y = true ↔ due x < due y := fun x y => by unfold ltOf; rw [decide_eq_true_iff]; exact hcf x y
  have HI : Aside (∀ (a b : Nat) (d : Array α) (w : World), d.size = d0.size → SW enc w0 blk off d w → a ≤ b → b ≤ d0.size → (∀ p q, a ≤ p → p < q → q < b → ix d[p]! < ix d[q]!) →
      Calls Tryd.prog 46 #[.slice (some ⟨blk, off, none⟩) d0.size cap, .int .i64 a, .int .i64 b, .func (.func g) #[] cb] w fun e w' => e = .returned (.tuple #[]) ∧ ∃ d', SM due ix d a b d' ∧ SW enc w0 blk off d' w') :=
    fun a b d w h1 h2 h3 h4 h5 => by
      have := Tryd.insertionSortCmpFunc_s enc cf g cb blk off cap a b d0 d w0 w eg hcmp R h1.symm h2 h3 (by omega) (by omega)
      rw [h1] at this
      exact this.mono fun e w' ⟨he, hS⟩ => ⟨he, _, ins_sm hlt h3 (by omega) h5, hS⟩
  have S0 : Aside (SW enc w0 blk off d0 w0) := S
  have I0 := Lib.hid (IB.start (due := due) (d := d0) (n := d0.size) hx)
  clear S hx hlt hcmp hcf
  generalize hn : d0.size = n at *
  have HN := Lib.hid hn
  clear hn
  go_enter Tryd.func36, Tryd.ntmps36
  go_wp2
  go_loopw [7, 8] (fun va vb wr => ∃ (a b : Nat) (d : Array α), va = .int .i64 a ∧ vb = .int .i64 b ∧ b ≤ a + 20 ∧ a + 20 ≤ b ∧ a ≤ n ∧ Hid (IB due ix d0 d n a) ∧ Aside (SW enc w0 blk off d wr)) (fun _ vb _ => n + 20 - (intOf vb).toNat)
  case atStart => exact ⟨0, 20, d0, rfl, rfl, by omega, by omega, by omega, I0, S0⟩
  case round =>
    clear S0 I0
    obtain ⟨a, b, d, rfl, rfl, hb1, hb2, han, I, S1⟩ := hrel
    by_cases hle : b ≤ n
    · have z1 : (b : Int) ≤ (n : Int) := by omega
      have zd1 : decide ((b : Int) ≤ (n : Int)) = true := decide_eq_true z1
      have hbe : b = a + 20 := by omega
      have hc := HI.out a b d wr (I.out.mix.size.trans HN.out) S1.out (by omega) hle (fun p q h1 h2 h3 => I.out.rest p q h1 h2 (by omega))
      have HBE := Lib.hid hbe
      clear hbe
      go_wp2_with (go_at_call 46; refine hold ?_)
      refine Lib.hid ?_
      refine hc.mono ?_
      rintro e w1 ⟨rfl, d1, M1, S2⟩
      have I2 := Lib.hid (show IB due ix d0 d1 n b by rw [HBE.out]; rw [HBE.out] at M1; exact I.out.step (by omega) M1)
      have S3 : Aside (SW enc w0 blk off d1 w1) := S2
      clear M1 S2 S1 I hc HBE
      obtain ⟨b2, hb3⟩ : ∃ q, q = b + 20 := ⟨_, rfl⟩
      have zb : (b : Int) + 20 = (b2 : Int) := by omega
      have hb4 : b2 ≤ b + 20 := by omega
      have hb5 : b + 20 ≤ b2 := by omega
      clear hb3
      go_wp2_with fail
      go_roundw
      case rel => exact ⟨b, b2, d1, rfl, by go_num, hb4, hb5, hle, I2, S3⟩
      case measure => simp [intOf]; omega
    · have z1 : ¬ (b : Int) ≤ (n : Int) := by omega
      have zd1 : decide ((b : Int) ≤ (n : Int)) = false := decide_eq_false z1
      have hc := HI.out a n d wr (I.out.mix.size.trans HN.out) S1.out han (Nat.le_refl _) (fun p q h1 h2 h3 => I.out.rest p q h1 h2 h3)
      go_wp2_with (go_at_call 46; refine hold ?_)
      refine Lib.hid ?_
      refine hc.mono ?_
      rintro e w1 ⟨rfl, d1, M1, S2⟩
      have F0 := Lib.hid (I.out.done (by omega) han M1)
      have S3 : Aside (SW enc w0 blk off d1 w1) := S2
      clear M1 S2 S1 I hc HI
      go_wp2
      go_loopw [6] (fun vb wr => ∃ (bs : Nat) (d : Array α), vb = .int .i64 bs ∧ 0 < bs ∧ bs ≤ 20 + 2 * n ∧ Hid (Full due ix d0 d n bs) ∧ Aside (SW enc w0 blk off d wr)) (fun vb _ => n - (intOf vb).toNat)
      case atStart => exact ⟨20, d1, rfl, by omega, by omega, F0, S3⟩
      case round =>
        clear F0 S3
        obtain ⟨bs, d2, rfl, hbs0, hbs1, F, S1⟩ := hrel
        by_cases hlt : bs < n
        · have z2 : (bs : Int) < (n : Int) := by omega
          have zd2 : decide ((bs : Int) < (n : Int)) = true := decide_eq_true z2
          obtain ⟨b2, hb2e⟩ : ∃ q, q = 2 * bs := ⟨_, rfl⟩
          have zb1 : (2 : Int) * (bs : Int) = (b2 : Int) := by omega
          have zb2 : (bs : Int) * (2 : Int) = (b2 : Int) := by omega
          have hb21 : b2 ≤ 2 * bs := by omega
          have hb22 : 2 * bs ≤ b2 := by omega
          have HB2 := Lib.hid hb2e
          clear hb2e
          go_wp2
          go_loopw [7, 8] (fun va vb wr => ∃ (a b : Nat) (d : Array α), va = .int .i64 a ∧ vb = .int .i64 b ∧ b ≤ a + b2 ∧ a + b2 ≤ b ∧ a ≤ n ∧ Hid (MB due ix d0 d n bs a) ∧ Aside (SW enc w0 blk off d wr)) (fun _ vb _ => n + b2 - (intOf vb).toNat)
          case atStart => exact ⟨0, b2, d2, rfl, rfl, by omega, by omega, by omega, Lib.hid (MB.start F.out), S1⟩
          case round =>
            clear S1 F
            obtain ⟨a3, b3, d3, rfl, rfl, hb3, hb4, han3, I, S1⟩ := hrel
            by_cases hle3 : b3 ≤ n
            · have z3 : (b3 : Int) ≤ (n : Int) := by omega
              have zd3 : decide ((b3 : Int) ≤ (n : Int)) = true := decide_eq_true z3
              obtain ⟨m3, hm3⟩ : ∃ q, q = a3 + bs := ⟨_, rfl⟩
              have zm : (a3 : Int) + (bs : Int) = (m3 : Int) := by omega
              have hc := HS.out a3 m3 b3 d3 wr (I.out.mix.size.trans HN.out) S1.out (by omega) (by omega) hle3 (by rw [hm3]; exact I.out.left (by omega)) (by rw [hm3]; exact I.out.right hle3 (by omega)) (by rw [hm3]; exact I.out.cross hle3)
              have hm31 : m3 ≤ a3 + bs := by omega
              have hm32 : a3 + bs ≤ m3 := by omega
              clear hm3
              go_wp2_with (go_at_call 47; refine hold ?_)
              refine Lib.hid ?_
              refine hc.mono ?_
              rintro e w2 ⟨rfl, d4, M1, S2⟩
              have hbe : b3 = a3 + 2 * bs := by omega
              have I2 := Lib.hid (show MB due ix d0 d4 n bs b3 by rw [hbe]; rw [hbe] at M1; exact I.out.step hbs0 (by omega) M1)
              have S3 : Aside (SW enc w0 blk off d4 w2) := S2
              clear M1 S2 S1 I hc hbe
              obtain ⟨b4, hb5⟩ : ∃ q, q = b3 + b2 := ⟨_, rfl⟩
              have zb : (b3 : Int) + (b2 : Int) = (b4 : Int) := by omega
              have hb6 : b4 ≤ b3 + b2 := by omega
              have hb7 : b3 + b2 ≤ b4 := by omega
              clear hb5
              go_wp2_with fail
              go_roundw
              case rel => exact ⟨b3, b4, d4, rfl, by go_num, hb6, hb7, hle3, I2, S3⟩
              case measure => simp [intOf]; omega
            · have z3 : ¬ (b3 : Int) ≤ (n : Int) := by omega
              have zd3 : decide ((b3 : Int) ≤ (n : Int)) = false := decide_eq_false z3
              obtain ⟨m3, hm3⟩ : ∃ q, q = a3 + bs := ⟨_, rfl⟩
              have zm : (a3 : Int) + (bs : Int) = (m3 : Int) := by omega
              by_cases hmn : m3 < n
              · have z4 : (m3 : Int) < (n : Int) := by omega
                have zd4 : decide ((m3 : Int) < (n : Int)) = true := decide_eq_true z4
                have hc := HS.out a3 m3 n d3 wr (I.out.mix.size.trans HN.out) S1.out (by omega) (by omega) (Nat.le_refl _) (by rw [hm3]; exact I.out.left (by omega)) (by rw [hm3]; exact I.out.right (Nat.le_refl _) (by omega)) (by rw [hm3]; exact I.out.cross (Nat.le_refl _))
                clear hm3
                go_wp2_with (go_at_call 47; refine hold ?_)
                refine Lib.hid ?_
                refine hc.mono ?_
                rintro e w2 ⟨rfl, d4, M1, S2⟩
                have F2 := Lib.hid (show Full due ix d0 d4 n b2 by rw [HB2.out]; exact I.out.last hbs0 (by omega) han3 M1)
                have S3 : Aside (SW enc w0 blk off d4 w2) := S2
                clear M1 S2 S1 I hc
                go_wp2_with fail
                go_roundw
                case rel => exact ⟨b2, d4, by go_num, by omega, by omega, F2, S3⟩
                case measure => simp [intOf]; omega
              · have z4 : ¬ (m3 : Int) < (n : Int) := by omega
                have zd4 : decide ((m3 : Int) < (n : Int)) = false := decide_eq_false z4
                have F2 := Lib.hid (show Full due ix d0 d3 n b2 by rw [HB2.out]; exact I.out.short hbs0 (by omega) han3)
                clear I hm3
                go_wp2_with fail
                go_roundw
                case rel => exact ⟨b2, d3, by go_num, by omega, by omega, F2, S1⟩
                case measure => simp [intOf]; omega
        · have z2 : ¬ (bs : Int) < (n : Int) := by omega
          have zd2 : decide ((bs : Int) < (n : Int)) = false := decide_eq_false z2
          go_wp2
          go_end0
          exact ⟨rfl, d2, ⟨F.out.mix, F.out.done (by omega)⟩, S1.out⟩

set_option maxHeartbeats 8000000 in
set_option maxRecDepth 1000000 in
theorem sortStable_s (Q : World → Prop) (p : Option Addr) (m cap : Nat) (fv : Value) (w : World)
    (hcon : Calls Tryd.prog 36 #[.slice p m cap, .int .i64 (m : Int), fv] w fun e w' => e = .returned (.tuple #[]) ∧ Q w') :
    Calls Tryd.prog 25 #[.slice p m cap, fv] w fun e w' => e = .returned (.tuple #[]) ∧ Q w' := by
  go_enter Tryd.func25, Tryd.ntmps25
  go_wp2_with (go_at_call 36; refine hcon.mono ?_; rintro e w1 ⟨rfl, hp1⟩)
  go_end0
  exact ⟨rfl, hp1⟩
#print axioms stable_s
#print axioms sortStable_s
end Go.Proofs.YtnhflmihjegaiaaDoor.Sym
