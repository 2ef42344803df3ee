/- The merge of slices.SortStableFunc at ints: the walk of symMerge. (gen_sym.py) -/
import Derived.Test.YtnhflmihjegaiaaDoorSymW
namespace Go.Proofs.YtnhflmihjegaiaaDoor.Sym
open Go Go.Proofs Go.Shelf Go.RowKit Go.Lib Go.Sort
set_option linter.unusedSimpArgs false
set_option linter.unusedVariables false
variable {α : Type} [Inhabited α]

theorem hold {p : Prop} (h : Hid p) : p := h.out
theorem rot_id {s m e : Nat} (h1 : s ≤ m) (h2 : m ≤ e) (h : s = m ∨ m = e) : ∀ t, rotIx s m e t = t := fun t => by
  unfold rotIx
  repeat' split
  all_goals omega
section
omit [Inhabited α]
variable [Inhabited α] {due : α → Int} {ix : α → Nat} {d d1 d2 : Array α} {a b s mid e : Nat}
theorem Split.first (S : Split due ix d d1 a b s mid e) (h1 : a ≤ s) (h2 : s ≤ mid) (h : a = s ∨ s = mid) : Srt due ix d1 a mid := by
  rcases h with h | h
  · rw [h]; exact S.s2
  · rw [← h]; exact S.s1
theorem Split.last (S : Split due ix d d1 a b s mid e) (M : SM due ix d1 a mid d2) (h1 : mid ≤ e) (h2 : e ≤ b) (h : mid = e ∨ e = b) : Srt due ix d2 mid b := by
  obtain ⟨q1, q2, _⟩ := S.second M
  rcases h with h | h
  · rw [h]; exact q2 h1
  · rw [← h]; exact q1
end

set_option maxHeartbeats 32000000 in
set_option maxRecDepth 1000000 in
theorem symG1 (enc : α → Value) (cf : α → α → Int) (due : α → Int) (ix : α → Nat) (hcf : ∀ x y, cf x y < 0 ↔ due x < due y) (g : Nat) (cb : Array Value) (blk off cap a m b : Nat) (d0 d : Array α) (w0 w : World)
    (eg : ∀ args w, (callFunc g args).run Tryd.prog w = .ok (.enter g args) w) (hcmp : CmpLays1 Tryd.prog g cb enc cf blk off d0.size w0) (R : Row1 enc w0 blk off d0) (hs : d0.size = d.size) (S : SW enc w0 blk off d w) (hb : b ≤ d.size) (hsz : d.size < 4611686018427387904)
    (ham : a < m) (hmb : m < b) (hne : ¬ m = a + 1) (hne2 : ¬ b = m + 1) (h1 : Srt due ix d a m) (h2 : Srt due ix d m b) (hc : Crs ix d a m b)
    (hlo : (a + b) / 2 < m)
    (hR : ∀ (x y z : Nat) (dk : Array α) (wk : World), z - x < b - a → x < y → y < z → z ≤ d.size → dk.size = d.size → SW enc w0 blk off dk wk → Srt due ix dk x y → Srt due ix dk y z → Crs ix dk x y z →
      Calls Tryd.prog 47 #[.slice (some ⟨blk, off, none⟩) d.size cap, .int .i64 x, .int .i64 y, .int .i64 z, .func (.func g) #[] cb] wk fun e w' => e = .returned (.tuple #[]) ∧ ∃ d', SM due ix dk x z d' ∧ SW enc w0 blk off d' w') :
    Calls Tryd.prog 47 #[.slice (some ⟨blk, off, none⟩) d.size cap, .int .i64 a, .int .i64 m, .int .i64 b, .func (.func g) #[] cb] w fun e w' => e = .returned (.tuple #[]) ∧ ∃ d', SM due ix d a b d' ∧ SW enc w0 blk off d' w' := by
  have mixed : Tryd.prog.follows Departure.mixedOrders = true := by kernel_rfl
  have hcl0 := R.hO.cells
  simp only [Value.cells] at hcl0
  have hst := R.hO.store Tryd.prog
  have S0 : Aside (SW enc w0 blk off d w) := S
  clear S
  have HC : Aside _ := hcmp
  have HCF := Lib.hid hcf
  clear hcmp hcf
  have HR : Aside _ := hR
  clear hR
  have hw1 : ((m : Int) - (a : Int) == 1) = false := beq_eq_false_iff_ne.2 (by omega)
  have hw0 : ((b : Int) - (m : Int) == 1) = false := beq_eq_false_iff_ne.2 (by omega)
  obtain ⟨mid, hmid⟩ : ∃ q, q = (a + b) / 2 := ⟨_, rfl⟩
  have hmz : ((a : Int) + (b : Int)) / 2 = (mid : Int) := by omega
  obtain ⟨n, hn⟩ : ∃ q, q = mid + m := ⟨_, rfl⟩
  have hnz : (mid : Int) + (m : Int) = (n : Int) := by omega
  obtain ⟨p, hp⟩ : ∃ q, q = n - 1 := ⟨_, rfl⟩
  have hpz : (n : Int) - 1 = (p : Int) := by omega
  have b1 : a < mid := by omega
  have b2 : mid < b := by omega
  have b3 : n ≤ mid + m := by omega
  have b4 : mid + m ≤ n := by omega
  have b5 : n ≤ p + 1 := by omega
  have b6 : p + 1 ≤ n := by omega
  obtain ⟨lo, hloe⟩ : ∃ q, q = n - b := ⟨_, rfl⟩
  have hloz : (n : Int) - (b : Int) = (lo : Int) := by omega
  have b7 : lo + b ≤ n := by omega
  have b8 : n ≤ lo + b := by omega
  have b9 : mid < m := by omega
  have b10 : a ≤ lo ∧ lo ≤ mid := by omega
  have b11 : (mid : Int) < (m : Int) := by omega
  have b12 : (m : Int) > (mid : Int) := by omega
  have hlh : lohi a m b mid lo mid := by unfold lohi; omega
  have HRG := Lib.hid (fun s (x : lo ≤ s) (y : s ≤ mid) => search_range ham hmb hmid hlh x y)
  have HM := Lib.hid (mono3 ham hmb hmid hlh h1 h2)
  have HL := Lib.hid (fun (s e : Nat) (d' : Array α) B he V => split_law (d1 := d') (s := s) (e := e) ham hmb hmid hlh h1 h2 hc B he V)
  clear h1 h2 hc hlh hlo hmid hn hp hloe
  go_enter Tryd.func47, Tryd.ntmps47
  go_wp2
  go_loopw [20, 21] (fun vi vj wr => ∃ (i j : Nat), vi = .int .i64 i ∧ vj = .int .i64 j ∧ lo ≤ i ∧ i ≤ j ∧ j ≤ mid ∧ Hid (BS (fun c => due d[c]! ≤ due d[mid + m - 1 - c]!) lo mid i j) ∧ Aside (SW enc w0 blk off d wr)) (fun vi vj _ => (intOf vj).toNat - (intOf vi).toNat)
  case atStart => exact ⟨lo, mid, rfl, rfl, Nat.le_refl _, by omega, Nat.le_refl _, Lib.hid (BS.start (by omega)), S0⟩
  case round =>
    clear S0
    obtain ⟨i, j, rfl, rfl, hmi, hij, hjb, B, S1⟩ := hrel
    by_cases hlt : i < j
    · have hltz : (i : Int) < (j : Int) := by omega
      obtain ⟨c, hh⟩ : ∃ c, c = (i + j) / 2 := ⟨_, rfl⟩
      have hih : i ≤ c ∧ c < j := by omega
      have hz : ((i : Int) + (j : Int)) / 2 = (c : Int) := by omega
      clear hh
      obtain ⟨qx, hq⟩ : ∃ q, q = mid + m - 1 - c := ⟨_, rfl⟩
      have hqz : (p : Int) - (c : Int) = (qx : Int) := by omega
      have hqb : qx < b := by omega
      have hw2 : IntKind.i64.wrap ((c : Int) + 1) = (c : Int) + 1 := by rw [IntKind.wrap_i64]; omega
      rcases Int.lt_or_le (due d[qx]!) (due d[c]!) with hv | hv
      · have B2 := Lib.hid (B.out.down HM.out hih.1 hih.2 (show ¬ due d[c]! ≤ due d[mid + m - 1 - c]! by rw [← hq]; omega))
        clear hq
        go_wp2_with fail
        obtain ⟨iN1008, hiN1008⟩ : ∃ q, q = qx := ⟨_, rfl⟩
        obtain ⟨jN1008, hjN1008⟩ : ∃ q, q = c := ⟨_, rfl⟩
        have ea1008 : ((qx : Int)).toNat = iN1008 := by omega
        have pa1008 : (0 : Int) ≤ (qx : Int) := by omega
        have ba1008 : (qx : Int) < (d.size : Int) := by omega
        have ra1008 : IntKind.i64.wrap ((qx : Int)) = (qx : Int) := by rw [IntKind.wrap_i64]; omega
        have ec1008 : ((c : Int)).toNat = jN1008 := by omega
        have pc1008 : (0 : Int) ≤ (c : Int) := by omega
        have bc1008 : (c : Int) < (d.size : Int) := by omega
        have rc1008 : IntKind.i64.wrap ((c : Int)) = (c : Int) := by rw [IntKind.wrap_i64]; omega
        obtain ⟨x1008, hx1008⟩ : ∃ x, x = d[qx]! := ⟨_, rfl⟩
        obtain ⟨y1008, hy1008⟩ : ∃ x, x = d[c]! := ⟨_, rfl⟩
        have l1008a := S1.out.cl R (by omega) (qx) (by omega)
        have l1008b := S1.out.cl R (by omega) (c) (by omega)
        rw [← hx1008, ← hiN1008] at l1008a
        rw [← hy1008, ← hjN1008] at l1008b
        have hc1008 := S1.out.cmp HC.out (by omega) x1008 y1008
        have hv1008 : cf x1008 y1008 < 0 := by rw [hx1008, hy1008]; exact (HCF.out _ _).2 hv
        have hd1008 : decide (cf x1008 y1008 < 0) = true := decide_eq_true hv1008
        clear hx1008 hy1008 hiN1008 hjN1008
        go_wp2_with fail
        go_quiet_grown (first | (go_at_fn g; refine Calls.grown_of (hc1008 _ _)))
        have S2 : Aside (SW enc w0 blk off d (grow (wr.drewN nq) osq)) := S1.out.grown nq osq
        clear l1008a l1008b hc1008 S1
        generalize grow (wr.drewN nq) osq = w2 at S2 ⊢
        clear nq osq
        clear ea1008 ec1008
        go_wp2
        go_roundw
        case rel => exact ⟨i, c, rfl, rfl, hmi, by omega, by omega, B2, S2⟩
        case measure => simp [intOf]; omega
      · have B2 := Lib.hid (B.out.up HM.out hih.1 hih.2 (show due d[c]! ≤ due d[mid + m - 1 - c]! by rw [← hq]; omega))
        clear hq
        go_wp2_with fail
        obtain ⟨iN1009, hiN1009⟩ : ∃ q, q = qx := ⟨_, rfl⟩
        obtain ⟨jN1009, hjN1009⟩ : ∃ q, q = c := ⟨_, rfl⟩
        have ea1009 : ((qx : Int)).toNat = iN1009 := by omega
        have pa1009 : (0 : Int) ≤ (qx : Int) := by omega
        have ba1009 : (qx : Int) < (d.size : Int) := by omega
        have ra1009 : IntKind.i64.wrap ((qx : Int)) = (qx : Int) := by rw [IntKind.wrap_i64]; omega
        have ec1009 : ((c : Int)).toNat = jN1009 := by omega
        have pc1009 : (0 : Int) ≤ (c : Int) := by omega
        have bc1009 : (c : Int) < (d.size : Int) := by omega
        have rc1009 : IntKind.i64.wrap ((c : Int)) = (c : Int) := by rw [IntKind.wrap_i64]; omega
        obtain ⟨x1009, hx1009⟩ : ∃ x, x = d[qx]! := ⟨_, rfl⟩
        obtain ⟨y1009, hy1009⟩ : ∃ x, x = d[c]! := ⟨_, rfl⟩
        have l1009a := S1.out.cl R (by omega) (qx) (by omega)
        have l1009b := S1.out.cl R (by omega) (c) (by omega)
        rw [← hx1009, ← hiN1009] at l1009a
        rw [← hy1009, ← hjN1009] at l1009b
        have hc1009 := S1.out.cmp HC.out (by omega) x1009 y1009
        have hv1009 : ¬ cf x1009 y1009 < 0 := by rw [hx1009, hy1009]; exact fun h => by have h3 := (HCF.out _ _).1 h; have h4 := hv; omega
        have hd1009 : decide (cf x1009 y1009 < 0) = false := decide_eq_false hv1009
        clear hx1009 hy1009 hiN1009 hjN1009
        go_wp2_with fail
        go_quiet_grown (first | (go_at_fn g; refine Calls.grown_of (hc1009 _ _)))
        have S2 : Aside (SW enc w0 blk off d (grow (wr.drewN nq) osq)) := S1.out.grown nq osq
        clear l1009a l1009b hc1009 S1
        generalize grow (wr.drewN nq) osq = w2 at S2 ⊢
        clear nq osq
        clear ea1009 ec1009
        go_wp2
        go_roundw
        case rel => exact ⟨c + 1, j, by go_num, rfl, by omega, by omega, hjb, B2, S2⟩
        case measure => simp [intOf]; omega
    · have hije : j = i := by omega
      subst hije
      obtain ⟨s, hsj⟩ : ∃ q, q = j := ⟨_, rfl⟩
      subst hsj
      have hnlt : ¬ (s : Int) < (s : Int) := by omega
      obtain ⟨r1, r2, r3, r4, r5, r6⟩ := HRG.out s hmi hjb
      obtain ⟨e, he⟩ : ∃ q, q = mid + m - s := ⟨_, rfl⟩
      rw [← he] at r4 r5 r6
      have hez : (n : Int) - (s : Int) = (e : Int) := by omega
      have HSP := Lib.hid (fun d' V => HL.out s e d' B.out he V)
      have c1 : e + s ≤ mid + m := by omega
      have c2 : mid + m ≤ e + s := by omega
      clear he HL HRG HM B
      by_cases k1 : s < m ∧ m < e
      · first
          | (exfalso; omega)
          | (
              have z1010 : (s : Int) < (m : Int) := by omega
              have zd1010 : decide ((s : Int) < (m : Int)) = true := decide_eq_true (by omega)
              have z1011 : (m : Int) < (e : Int) := by omega
              have zd1011 : decide ((m : Int) < (e : Int)) = true := decide_eq_true (by omega)
              have hrot := rotate_s enc (.func (.func g) #[] cb) blk off cap s m e d0 d w0 wr R hs S1.out k1.1 k1.2 (by omega) hsz
              go_wp2_with (go_at_call 60; refine hold ?_)
              refine Lib.hid ?_
              refine hrot.mono ?_
              rintro e1 w1 ⟨rfl, d1, V1, S2⟩
              have HSP1 := Lib.hid (HSP.out d1 V1)
              have SA : Aside (SW enc w0 blk off d1 w1) := S2
              have hs1 := Lib.hid (show d1.size = d.size from V1.size)
              clear hrot V1 S2 S1
              by_cases k2 : a < s ∧ s < mid
              · first
                  | (exfalso; omega)
                  | (
                      have z1012 : (a : Int) < (s : Int) := by omega
                      have zd1012 : decide ((a : Int) < (s : Int)) = true := decide_eq_true (by omega)
                      have z1013 : (s : Int) < (mid : Int) := by omega
                      have zd1013 : decide ((s : Int) < (mid : Int)) = true := decide_eq_true (by omega)
                      have hM := HR.out a s mid d1 w1 (by omega) k2.1 k2.2 (by omega) hs1.out SA.out HSP1.out.s1 HSP1.out.s2 HSP1.out.c1
                      go_wp2_with (go_at_call 47; refine hold ?_)
                      refine Lib.hid ?_
                      refine hM.mono ?_
                      rintro e2 w2 ⟨rfl, d2, M2, S3⟩
                      have HM2 := Lib.hid M2
                      have SB : Aside (SW enc w0 blk off d2 w2) := S3
                      have hs2 := Lib.hid (show d2.size = d.size from M2.size.trans hs1.out)
                      clear hM M2 S3 SA
                      by_cases k3 : mid < e ∧ e < b
                      · first
                          | (exfalso; omega)
                          | (
                              have z1014 : (mid : Int) < (e : Int) := by omega
                              have zd1014 : decide ((mid : Int) < (e : Int)) = true := decide_eq_true (by omega)
                              have z1015 : (e : Int) < (b : Int) := by omega
                              have zd1015 : decide ((e : Int) < (b : Int)) = true := decide_eq_true (by omega)
                              obtain ⟨q1, q2, q3⟩ := HSP1.out.second HM2.out
                              have hM := HR.out mid e b d2 w2 (by omega) k3.1 k3.2 hb hs2.out SB.out q1 (q2 (by omega)) (q3 (by omega))
                              clear q1 q2 q3
                              go_wp2_with (go_at_call 47; refine hold ?_)
                              refine Lib.hid ?_
                              refine hM.mono ?_
                              rintro e3 w3 ⟨rfl, d3, M3, S4⟩
                              clear hM
                              go_wp2_with fail
                              go_end0
                              exact ⟨rfl, d3, HSP1.out.join (by omega) (by omega) HM2.out M3, S4⟩)
                      · by_cases k3b : mid < e
                        · first
                            | (exfalso; omega)
                            | (
                                have z1017 : (mid : Int) < (e : Int) := by omega
                                have zd1017 : decide ((mid : Int) < (e : Int)) = true := decide_eq_true (by omega)
                                have z1018 : ¬ (e : Int) < (b : Int) := by omega
                                have zd1018 : decide ((e : Int) < (b : Int)) = false := decide_eq_false (by omega)
                                have HM3 := Lib.hid (SM.refl (HSP1.out.last HM2.out (by omega) (by omega) (by omega)))
                                go_wp2_with fail
                                go_end0
                                exact ⟨rfl, d2, HSP1.out.join (by omega) (by omega) HM2.out HM3.out, SB.out⟩)
                        · first
                            | (exfalso; omega)
                            | (
                                have z1016 : ¬ (mid : Int) < (e : Int) := by omega
                                have zd1016 : decide ((mid : Int) < (e : Int)) = false := decide_eq_false (by omega)
                                have HM3 := Lib.hid (SM.refl (HSP1.out.last HM2.out (by omega) (by omega) (by omega)))
                                go_wp2_with fail
                                go_end0
                                exact ⟨rfl, d2, HSP1.out.join (by omega) (by omega) HM2.out HM3.out, SB.out⟩))
              · by_cases k2b : a < s
                · first
                    | (exfalso; omega)
                    | (
                        have z1025 : (a : Int) < (s : Int) := by omega
                        have zd1025 : decide ((a : Int) < (s : Int)) = true := decide_eq_true (by omega)
                        have z1026 : ¬ (s : Int) < (mid : Int) := by omega
                        have zd1026 : decide ((s : Int) < (mid : Int)) = false := decide_eq_false (by omega)
                        have HM2 := Lib.hid (SM.refl (HSP1.out.first (by omega) (by omega) (by omega)))
                        have SB : Aside (SW enc w0 blk off d1 w1) := SA
                        clear SA
                        by_cases k3 : mid < e ∧ e < b
                        · first
                            | (exfalso; omega)
                            | (
                                have z1027 : (mid : Int) < (e : Int) := by omega
                                have zd1027 : decide ((mid : Int) < (e : Int)) = true := decide_eq_true (by omega)
                                have z1028 : (e : Int) < (b : Int) := by omega
                                have zd1028 : decide ((e : Int) < (b : Int)) = true := decide_eq_true (by omega)
                                obtain ⟨q1, q2, q3⟩ := HSP1.out.second HM2.out
                                have hM := HR.out mid e b d1 w1 (by omega) k3.1 k3.2 hb hs1.out SB.out q1 (q2 (by omega)) (q3 (by omega))
                                clear q1 q2 q3
                                go_wp2_with (go_at_call 47; refine hold ?_)
                                refine Lib.hid ?_
                                refine hM.mono ?_
                                rintro e3 w3 ⟨rfl, d3, M3, S4⟩
                                clear hM
                                go_wp2_with fail
                                go_end0
                                exact ⟨rfl, d3, HSP1.out.join (by omega) (by omega) HM2.out M3, S4⟩)
                        · by_cases k3b : mid < e
                          · first
                              | (exfalso; omega)
                              | (
                                  have z1030 : (mid : Int) < (e : Int) := by omega
                                  have zd1030 : decide ((mid : Int) < (e : Int)) = true := decide_eq_true (by omega)
                                  have z1031 : ¬ (e : Int) < (b : Int) := by omega
                                  have zd1031 : decide ((e : Int) < (b : Int)) = false := decide_eq_false (by omega)
                                  have HM3 := Lib.hid (SM.refl (HSP1.out.last HM2.out (by omega) (by omega) (by omega)))
                                  go_wp2_with fail
                                  go_end0
                                  exact ⟨rfl, d1, HSP1.out.join (by omega) (by omega) HM2.out HM3.out, SB.out⟩)
                          · first
                              | (exfalso; omega)
                              | (
                                  have z1029 : ¬ (mid : Int) < (e : Int) := by omega
                                  have zd1029 : decide ((mid : Int) < (e : Int)) = false := decide_eq_false (by omega)
                                  have HM3 := Lib.hid (SM.refl (HSP1.out.last HM2.out (by omega) (by omega) (by omega)))
                                  go_wp2_with fail
                                  go_end0
                                  exact ⟨rfl, d1, HSP1.out.join (by omega) (by omega) HM2.out HM3.out, SB.out⟩))
                · first
                    | (exfalso; omega)
                    | (
                        have z1019 : ¬ (a : Int) < (s : Int) := by omega
                        have zd1019 : decide ((a : Int) < (s : Int)) = false := decide_eq_false (by omega)
                        have HM2 := Lib.hid (SM.refl (HSP1.out.first (by omega) (by omega) (by omega)))
                        have SB : Aside (SW enc w0 blk off d1 w1) := SA
                        clear SA
                        by_cases k3 : mid < e ∧ e < b
                        · first
                            | (exfalso; omega)
                            | (
                                have z1020 : (mid : Int) < (e : Int) := by omega
                                have zd1020 : decide ((mid : Int) < (e : Int)) = true := decide_eq_true (by omega)
                                have z1021 : (e : Int) < (b : Int) := by omega
                                have zd1021 : decide ((e : Int) < (b : Int)) = true := decide_eq_true (by omega)
                                obtain ⟨q1, q2, q3⟩ := HSP1.out.second HM2.out
                                have hM := HR.out mid e b d1 w1 (by omega) k3.1 k3.2 hb hs1.out SB.out q1 (q2 (by omega)) (q3 (by omega))
                                clear q1 q2 q3
                                go_wp2_with (go_at_call 47; refine hold ?_)
                                refine Lib.hid ?_
                                refine hM.mono ?_
                                rintro e3 w3 ⟨rfl, d3, M3, S4⟩
                                clear hM
                                go_wp2_with fail
                                go_end0
                                exact ⟨rfl, d3, HSP1.out.join (by omega) (by omega) HM2.out M3, S4⟩)
                        · by_cases k3b : mid < e
                          · first
                              | (exfalso; omega)
                              | (
                                  have z1023 : (mid : Int) < (e : Int) := by omega
                                  have zd1023 : decide ((mid : Int) < (e : Int)) = true := decide_eq_true (by omega)
                                  have z1024 : ¬ (e : Int) < (b : Int) := by omega
                                  have zd1024 : decide ((e : Int) < (b : Int)) = false := decide_eq_false (by omega)
                                  have HM3 := Lib.hid (SM.refl (HSP1.out.last HM2.out (by omega) (by omega) (by omega)))
                                  go_wp2_with fail
                                  go_end0
                                  exact ⟨rfl, d1, HSP1.out.join (by omega) (by omega) HM2.out HM3.out, SB.out⟩)
                          · first
                              | (exfalso; omega)
                              | (
                                  have z1022 : ¬ (mid : Int) < (e : Int) := by omega
                                  have zd1022 : decide ((mid : Int) < (e : Int)) = false := decide_eq_false (by omega)
                                  have HM3 := Lib.hid (SM.refl (HSP1.out.last HM2.out (by omega) (by omega) (by omega)))
                                  go_wp2_with fail
                                  go_end0
                                  exact ⟨rfl, d1, HSP1.out.join (by omega) (by omega) HM2.out HM3.out, SB.out⟩)))
      · by_cases k1b : s < m
        · first
            | (exfalso; omega)
            | (
                have z1053 : (s : Int) < (m : Int) := by omega
                have zd1053 : decide ((s : Int) < (m : Int)) = true := decide_eq_true (by omega)
                have z1054 : ¬ (m : Int) < (e : Int) := by omega
                have zd1054 : decide ((m : Int) < (e : Int)) = false := decide_eq_false (by omega)
                have HSP1 := Lib.hid (HSP.out d (Via.refl (rot_id (by omega) (by omega) (by omega)) d))
                have SA : Aside (SW enc w0 blk off d wr) := S1
                clear S1
                by_cases k2 : a < s ∧ s < mid
                · first
                    | (exfalso; omega)
                    | (
                        have z1055 : (a : Int) < (s : Int) := by omega
                        have zd1055 : decide ((a : Int) < (s : Int)) = true := decide_eq_true (by omega)
                        have z1056 : (s : Int) < (mid : Int) := by omega
                        have zd1056 : decide ((s : Int) < (mid : Int)) = true := decide_eq_true (by omega)
                        have hM := HR.out a s mid d wr (by omega) k2.1 k2.2 (by omega) (rfl : d.size = d.size) SA.out HSP1.out.s1 HSP1.out.s2 HSP1.out.c1
                        go_wp2_with (go_at_call 47; refine hold ?_)
                        refine Lib.hid ?_
                        refine hM.mono ?_
                        rintro e2 w2 ⟨rfl, d2, M2, S3⟩
                        have HM2 := Lib.hid M2
                        have SB : Aside (SW enc w0 blk off d2 w2) := S3
                        have hs2 := Lib.hid (show d2.size = d.size from M2.size.trans (rfl : d.size = d.size))
                        clear hM M2 S3 SA
                        by_cases k3 : mid < e ∧ e < b
                        · first
                            | (exfalso; omega)
                            | (
                                have z1057 : (mid : Int) < (e : Int) := by omega
                                have zd1057 : decide ((mid : Int) < (e : Int)) = true := decide_eq_true (by omega)
                                have z1058 : (e : Int) < (b : Int) := by omega
                                have zd1058 : decide ((e : Int) < (b : Int)) = true := decide_eq_true (by omega)
                                obtain ⟨q1, q2, q3⟩ := HSP1.out.second HM2.out
                                have hM := HR.out mid e b d2 w2 (by omega) k3.1 k3.2 hb hs2.out SB.out q1 (q2 (by omega)) (q3 (by omega))
                                clear q1 q2 q3
                                go_wp2_with (go_at_call 47; refine hold ?_)
                                refine Lib.hid ?_
                                refine hM.mono ?_
                                rintro e3 w3 ⟨rfl, d3, M3, S4⟩
                                clear hM
                                go_wp2_with fail
                                go_end0
                                exact ⟨rfl, d3, HSP1.out.join (by omega) (by omega) HM2.out M3, S4⟩)
                        · by_cases k3b : mid < e
                          · first
                              | (exfalso; omega)
                              | (
                                  have z1060 : (mid : Int) < (e : Int) := by omega
                                  have zd1060 : decide ((mid : Int) < (e : Int)) = true := decide_eq_true (by omega)
                                  have z1061 : ¬ (e : Int) < (b : Int) := by omega
                                  have zd1061 : decide ((e : Int) < (b : Int)) = false := decide_eq_false (by omega)
                                  have HM3 := Lib.hid (SM.refl (HSP1.out.last HM2.out (by omega) (by omega) (by omega)))
                                  go_wp2_with fail
                                  go_end0
                                  exact ⟨rfl, d2, HSP1.out.join (by omega) (by omega) HM2.out HM3.out, SB.out⟩)
                          · first
                              | (exfalso; omega)
                              | (
                                  have z1059 : ¬ (mid : Int) < (e : Int) := by omega
                                  have zd1059 : decide ((mid : Int) < (e : Int)) = false := decide_eq_false (by omega)
                                  have HM3 := Lib.hid (SM.refl (HSP1.out.last HM2.out (by omega) (by omega) (by omega)))
                                  go_wp2_with fail
                                  go_end0
                                  exact ⟨rfl, d2, HSP1.out.join (by omega) (by omega) HM2.out HM3.out, SB.out⟩))
                · by_cases k2b : a < s
                  · first
                      | (exfalso; omega)
                      | (
                          have z1068 : (a : Int) < (s : Int) := by omega
                          have zd1068 : decide ((a : Int) < (s : Int)) = true := decide_eq_true (by omega)
                          have z1069 : ¬ (s : Int) < (mid : Int) := by omega
                          have zd1069 : decide ((s : Int) < (mid : Int)) = false := decide_eq_false (by omega)
                          have HM2 := Lib.hid (SM.refl (HSP1.out.first (by omega) (by omega) (by omega)))
                          have SB : Aside (SW enc w0 blk off d wr) := SA
                          clear SA
                          by_cases k3 : mid < e ∧ e < b
                          · first
                              | (exfalso; omega)
                              | (
                                  have z1070 : (mid : Int) < (e : Int) := by omega
                                  have zd1070 : decide ((mid : Int) < (e : Int)) = true := decide_eq_true (by omega)
                                  have z1071 : (e : Int) < (b : Int) := by omega
                                  have zd1071 : decide ((e : Int) < (b : Int)) = true := decide_eq_true (by omega)
                                  obtain ⟨q1, q2, q3⟩ := HSP1.out.second HM2.out
                                  have hM := HR.out mid e b d wr (by omega) k3.1 k3.2 hb (rfl : d.size = d.size) SB.out q1 (q2 (by omega)) (q3 (by omega))
                                  clear q1 q2 q3
                                  go_wp2_with (go_at_call 47; refine hold ?_)
                                  refine Lib.hid ?_
                                  refine hM.mono ?_
                                  rintro e3 w3 ⟨rfl, d3, M3, S4⟩
                                  clear hM
                                  go_wp2_with fail
                                  go_end0
                                  exact ⟨rfl, d3, HSP1.out.join (by omega) (by omega) HM2.out M3, S4⟩)
                          · by_cases k3b : mid < e
                            · first
                                | (exfalso; omega)
                                | (
                                    have z1073 : (mid : Int) < (e : Int) := by omega
                                    have zd1073 : decide ((mid : Int) < (e : Int)) = true := decide_eq_true (by omega)
                                    have z1074 : ¬ (e : Int) < (b : Int) := by omega
                                    have zd1074 : decide ((e : Int) < (b : Int)) = false := decide_eq_false (by omega)
                                    have HM3 := Lib.hid (SM.refl (HSP1.out.last HM2.out (by omega) (by omega) (by omega)))
                                    go_wp2_with fail
                                    go_end0
                                    exact ⟨rfl, d, HSP1.out.join (by omega) (by omega) HM2.out HM3.out, SB.out⟩)
                            · first
                                | (exfalso; omega)
                                | (
                                    have z1072 : ¬ (mid : Int) < (e : Int) := by omega
                                    have zd1072 : decide ((mid : Int) < (e : Int)) = false := decide_eq_false (by omega)
                                    have HM3 := Lib.hid (SM.refl (HSP1.out.last HM2.out (by omega) (by omega) (by omega)))
                                    go_wp2_with fail
                                    go_end0
                                    exact ⟨rfl, d, HSP1.out.join (by omega) (by omega) HM2.out HM3.out, SB.out⟩))
                  · first
                      | (exfalso; omega)
                      | (
                          have z1062 : ¬ (a : Int) < (s : Int) := by omega
                          have zd1062 : decide ((a : Int) < (s : Int)) = false := decide_eq_false (by omega)
                          have HM2 := Lib.hid (SM.refl (HSP1.out.first (by omega) (by omega) (by omega)))
                          have SB : Aside (SW enc w0 blk off d wr) := SA
                          clear SA
                          by_cases k3 : mid < e ∧ e < b
                          · first
                              | (exfalso; omega)
                              | (
                                  have z1063 : (mid : Int) < (e : Int) := by omega
                                  have zd1063 : decide ((mid : Int) < (e : Int)) = true := decide_eq_true (by omega)
                                  have z1064 : (e : Int) < (b : Int) := by omega
                                  have zd1064 : decide ((e : Int) < (b : Int)) = true := decide_eq_true (by omega)
                                  obtain ⟨q1, q2, q3⟩ := HSP1.out.second HM2.out
                                  have hM := HR.out mid e b d wr (by omega) k3.1 k3.2 hb (rfl : d.size = d.size) SB.out q1 (q2 (by omega)) (q3 (by omega))
                                  clear q1 q2 q3
                                  go_wp2_with (go_at_call 47; refine hold ?_)
                                  refine Lib.hid ?_
                                  refine hM.mono ?_
                                  rintro e3 w3 ⟨rfl, d3, M3, S4⟩
                                  clear hM
                                  go_wp2_with fail
                                  go_end0
                                  exact ⟨rfl, d3, HSP1.out.join (by omega) (by omega) HM2.out M3, S4⟩)
                          · by_cases k3b : mid < e
                            · first
                                | (exfalso; omega)
                                | (
                                    have z1066 : (mid : Int) < (e : Int) := by omega
                                    have zd1066 : decide ((mid : Int) < (e : Int)) = true := decide_eq_true (by omega)
                                    have z1067 : ¬ (e : Int) < (b : Int) := by omega
                                    have zd1067 : decide ((e : Int) < (b : Int)) = false := decide_eq_false (by omega)
                                    have HM3 := Lib.hid (SM.refl (HSP1.out.last HM2.out (by omega) (by omega) (by omega)))
                                    go_wp2_with fail
                                    go_end0
                                    exact ⟨rfl, d, HSP1.out.join (by omega) (by omega) HM2.out HM3.out, SB.out⟩)
                            · first
                                | (exfalso; omega)
                                | (
                                    have z1065 : ¬ (mid : Int) < (e : Int) := by omega
                                    have zd1065 : decide ((mid : Int) < (e : Int)) = false := decide_eq_false (by omega)
                                    have HM3 := Lib.hid (SM.refl (HSP1.out.last HM2.out (by omega) (by omega) (by omega)))
                                    go_wp2_with fail
                                    go_end0
                                    exact ⟨rfl, d, HSP1.out.join (by omega) (by omega) HM2.out HM3.out, SB.out⟩)))
        · first
            | (exfalso; omega)
            | (
                have z1032 : ¬ (s : Int) < (m : Int) := by omega
                have zd1032 : decide ((s : Int) < (m : Int)) = false := decide_eq_false (by omega)
                have HSP1 := Lib.hid (HSP.out d (Via.refl (rot_id (by omega) (by omega) (by omega)) d))
                have SA : Aside (SW enc w0 blk off d wr) := S1
                clear S1
                by_cases k2 : a < s ∧ s < mid
                · first
                    | (exfalso; omega)
                    | (
                        have z1033 : (a : Int) < (s : Int) := by omega
                        have zd1033 : decide ((a : Int) < (s : Int)) = true := decide_eq_true (by omega)
                        have z1034 : (s : Int) < (mid : Int) := by omega
                        have zd1034 : decide ((s : Int) < (mid : Int)) = true := decide_eq_true (by omega)
                        have hM := HR.out a s mid d wr (by omega) k2.1 k2.2 (by omega) (rfl : d.size = d.size) SA.out HSP1.out.s1 HSP1.out.s2 HSP1.out.c1
                        go_wp2_with (go_at_call 47; refine hold ?_)
                        refine Lib.hid ?_
                        refine hM.mono ?_
                        rintro e2 w2 ⟨rfl, d2, M2, S3⟩
                        have HM2 := Lib.hid M2
                        have SB : Aside (SW enc w0 blk off d2 w2) := S3
                        have hs2 := Lib.hid (show d2.size = d.size from M2.size.trans (rfl : d.size = d.size))
                        clear hM M2 S3 SA
                        by_cases k3 : mid < e ∧ e < b
                        · first
                            | (exfalso; omega)
                            | (
                                have z1035 : (mid : Int) < (e : Int) := by omega
                                have zd1035 : decide ((mid : Int) < (e : Int)) = true := decide_eq_true (by omega)
                                have z1036 : (e : Int) < (b : Int) := by omega
                                have zd1036 : decide ((e : Int) < (b : Int)) = true := decide_eq_true (by omega)
                                obtain ⟨q1, q2, q3⟩ := HSP1.out.second HM2.out
                                have hM := HR.out mid e b d2 w2 (by omega) k3.1 k3.2 hb hs2.out SB.out q1 (q2 (by omega)) (q3 (by omega))
                                clear q1 q2 q3
                                go_wp2_with (go_at_call 47; refine hold ?_)
                                refine Lib.hid ?_
                                refine hM.mono ?_
                                rintro e3 w3 ⟨rfl, d3, M3, S4⟩
                                clear hM
                                go_wp2_with fail
                                go_end0
                                exact ⟨rfl, d3, HSP1.out.join (by omega) (by omega) HM2.out M3, S4⟩)
                        · by_cases k3b : mid < e
                          · first
                              | (exfalso; omega)
                              | (
                                  have z1038 : (mid : Int) < (e : Int) := by omega
                                  have zd1038 : decide ((mid : Int) < (e : Int)) = true := decide_eq_true (by omega)
                                  have z1039 : ¬ (e : Int) < (b : Int) := by omega
                                  have zd1039 : decide ((e : Int) < (b : Int)) = false := decide_eq_false (by omega)
                                  have HM3 := Lib.hid (SM.refl (HSP1.out.last HM2.out (by omega) (by omega) (by omega)))
                                  go_wp2_with fail
                                  go_end0
                                  exact ⟨rfl, d2, HSP1.out.join (by omega) (by omega) HM2.out HM3.out, SB.out⟩)
                          · first
                              | (exfalso; omega)
                              | (
                                  have z1037 : ¬ (mid : Int) < (e : Int) := by omega
                                  have zd1037 : decide ((mid : Int) < (e : Int)) = false := decide_eq_false (by omega)
                                  have HM3 := Lib.hid (SM.refl (HSP1.out.last HM2.out (by omega) (by omega) (by omega)))
                                  go_wp2_with fail
                                  go_end0
                                  exact ⟨rfl, d2, HSP1.out.join (by omega) (by omega) HM2.out HM3.out, SB.out⟩))
                · by_cases k2b : a < s
                  · first
                      | (exfalso; omega)
                      | (
                          have z1046 : (a : Int) < (s : Int) := by omega
                          have zd1046 : decide ((a : Int) < (s : Int)) = true := decide_eq_true (by omega)
                          have z1047 : ¬ (s : Int) < (mid : Int) := by omega
                          have zd1047 : decide ((s : Int) < (mid : Int)) = false := decide_eq_false (by omega)
                          have HM2 := Lib.hid (SM.refl (HSP1.out.first (by omega) (by omega) (by omega)))
                          have SB : Aside (SW enc w0 blk off d wr) := SA
                          clear SA
                          by_cases k3 : mid < e ∧ e < b
                          · first
                              | (exfalso; omega)
                              | (
                                  have z1048 : (mid : Int) < (e : Int) := by omega
                                  have zd1048 : decide ((mid : Int) < (e : Int)) = true := decide_eq_true (by omega)
                                  have z1049 : (e : Int) < (b : Int) := by omega
                                  have zd1049 : decide ((e : Int) < (b : Int)) = true := decide_eq_true (by omega)
                                  obtain ⟨q1, q2, q3⟩ := HSP1.out.second HM2.out
                                  have hM := HR.out mid e b d wr (by omega) k3.1 k3.2 hb (rfl : d.size = d.size) SB.out q1 (q2 (by omega)) (q3 (by omega))
                                  clear q1 q2 q3
                                  go_wp2_with (go_at_call 47; refine hold ?_)
                                  refine Lib.hid ?_
                                  refine hM.mono ?_
                                  rintro e3 w3 ⟨rfl, d3, M3, S4⟩
                                  clear hM
                                  go_wp2_with fail
                                  go_end0
                                  exact ⟨rfl, d3, HSP1.out.join (by omega) (by omega) HM2.out M3, S4⟩)
                          · by_cases k3b : mid < e
                            · first
                                | (exfalso; omega)
                                | (
                                    have z1051 : (mid : Int) < (e : Int) := by omega
                                    have zd1051 : decide ((mid : Int) < (e : Int)) = true := decide_eq_true (by omega)
                                    have z1052 : ¬ (e : Int) < (b : Int) := by omega
                                    have zd1052 : decide ((e : Int) < (b : Int)) = false := decide_eq_false (by omega)
                                    have HM3 := Lib.hid (SM.refl (HSP1.out.last HM2.out (by omega) (by omega) (by omega)))
                                    go_wp2_with fail
                                    go_end0
                                    exact ⟨rfl, d, HSP1.out.join (by omega) (by omega) HM2.out HM3.out, SB.out⟩)
                            · first
                                | (exfalso; omega)
                                | (
                                    have z1050 : ¬ (mid : Int) < (e : Int) := by omega
                                    have zd1050 : decide ((mid : Int) < (e : Int)) = false := decide_eq_false (by omega)
                                    have HM3 := Lib.hid (SM.refl (HSP1.out.last HM2.out (by omega) (by omega) (by omega)))
                                    go_wp2_with fail
                                    go_end0
                                    exact ⟨rfl, d, HSP1.out.join (by omega) (by omega) HM2.out HM3.out, SB.out⟩))
                  · first
                      | (exfalso; omega)
                      | (
                          have z1040 : ¬ (a : Int) < (s : Int) := by omega
                          have zd1040 : decide ((a : Int) < (s : Int)) = false := decide_eq_false (by omega)
                          have HM2 := Lib.hid (SM.refl (HSP1.out.first (by omega) (by omega) (by omega)))
                          have SB : Aside (SW enc w0 blk off d wr) := SA
                          clear SA
                          by_cases k3 : mid < e ∧ e < b
                          · first
                              | (exfalso; omega)
                              | (
                                  have z1041 : (mid : Int) < (e : Int) := by omega
                                  have zd1041 : decide ((mid : Int) < (e : Int)) = true := decide_eq_true (by omega)
                                  have z1042 : (e : Int) < (b : Int) := by omega
                                  have zd1042 : decide ((e : Int) < (b : Int)) = true := decide_eq_true (by omega)
                                  obtain ⟨q1, q2, q3⟩ := HSP1.out.second HM2.out
                                  have hM := HR.out mid e b d wr (by omega) k3.1 k3.2 hb (rfl : d.size = d.size) SB.out q1 (q2 (by omega)) (q3 (by omega))
                                  clear q1 q2 q3
                                  go_wp2_with (go_at_call 47; refine hold ?_)
                                  refine Lib.hid ?_
                                  refine hM.mono ?_
                                  rintro e3 w3 ⟨rfl, d3, M3, S4⟩
                                  clear hM
                                  go_wp2_with fail
                                  go_end0
                                  exact ⟨rfl, d3, HSP1.out.join (by omega) (by omega) HM2.out M3, S4⟩)
                          · by_cases k3b : mid < e
                            · first
                                | (exfalso; omega)
                                | (
                                    have z1044 : (mid : Int) < (e : Int) := by omega
                                    have zd1044 : decide ((mid : Int) < (e : Int)) = true := decide_eq_true (by omega)
                                    have z1045 : ¬ (e : Int) < (b : Int) := by omega
                                    have zd1045 : decide ((e : Int) < (b : Int)) = false := decide_eq_false (by omega)
                                    have HM3 := Lib.hid (SM.refl (HSP1.out.last HM2.out (by omega) (by omega) (by omega)))
                                    go_wp2_with fail
                                    go_end0
                                    exact ⟨rfl, d, HSP1.out.join (by omega) (by omega) HM2.out HM3.out, SB.out⟩)
                            · first
                                | (exfalso; omega)
                                | (
                                    have z1043 : ¬ (mid : Int) < (e : Int) := by omega
                                    have zd1043 : decide ((mid : Int) < (e : Int)) = false := decide_eq_false (by omega)
                                    have HM3 := Lib.hid (SM.refl (HSP1.out.last HM2.out (by omega) (by omega) (by omega)))
                                    go_wp2_with fail
                                    go_end0
                                    exact ⟨rfl, d, HSP1.out.join (by omega) (by omega) HM2.out HM3.out, SB.out⟩)))

set_option maxHeartbeats 32000000 in
set_option maxRecDepth 1000000 in
theorem symG2 (enc : α → Value) (cf : α → α → Int) (due : α → Int) (ix : α → Nat) (hcf : ∀ x y, cf x y < 0 ↔ due x < due y) (g : Nat) (cb : Array Value) (blk off cap a m b : Nat) (d0 d : Array α) (w0 w : World)
    (eg : ∀ args w, (callFunc g args).run Tryd.prog w = .ok (.enter g args) w) (hcmp : CmpLays1 Tryd.prog g cb enc cf blk off d0.size w0) (R : Row1 enc w0 blk off d0) (hs : d0.size = d.size) (S : SW enc w0 blk off d w) (hb : b ≤ d.size) (hsz : d.size < 4611686018427387904)
    (ham : a < m) (hmb : m < b) (hne : ¬ m = a + 1) (hne2 : ¬ b = m + 1) (h1 : Srt due ix d a m) (h2 : Srt due ix d m b) (hc : Crs ix d a m b)
    (hlo : m ≤ (a + b) / 2)
    (hR : ∀ (x y z : Nat) (dk : Array α) (wk : World), z - x < b - a → x < y → y < z → z ≤ d.size → dk.size = d.size → SW enc w0 blk off dk wk → Srt due ix dk x y → Srt due ix dk y z → Crs ix dk x y z →
      Calls Tryd.prog 47 #[.slice (some ⟨blk, off, none⟩) d.size cap, .int .i64 x, .int .i64 y, .int .i64 z, .func (.func g) #[] cb] wk fun e w' => e = .returned (.tuple #[]) ∧ ∃ d', SM due ix dk x z d' ∧ SW enc w0 blk off d' w') :
    Calls Tryd.prog 47 #[.slice (some ⟨blk, off, none⟩) d.size cap, .int .i64 a, .int .i64 m, .int .i64 b, .func (.func g) #[] cb] w fun e w' => e = .returned (.tuple #[]) ∧ ∃ d', SM due ix d a b d' ∧ SW enc w0 blk off d' w' := by
  have mixed : Tryd.prog.follows Departure.mixedOrders = true := by kernel_rfl
  have hcl0 := R.hO.cells
  simp only [Value.cells] at hcl0
  have hst := R.hO.store Tryd.prog
  have S0 : Aside (SW enc w0 blk off d w) := S
  clear S
  have HC : Aside _ := hcmp
  have HCF := Lib.hid hcf
  clear hcmp hcf
  have HR : Aside _ := hR
  clear hR
  have hw1 : ((m : Int) - (a : Int) == 1) = false := beq_eq_false_iff_ne.2 (by omega)
  have hw0 : ((b : Int) - (m : Int) == 1) = false := beq_eq_false_iff_ne.2 (by omega)
  obtain ⟨mid, hmid⟩ : ∃ q, q = (a + b) / 2 := ⟨_, rfl⟩
  have hmz : ((a : Int) + (b : Int)) / 2 = (mid : Int) := by omega
  obtain ⟨n, hn⟩ : ∃ q, q = mid + m := ⟨_, rfl⟩
  have hnz : (mid : Int) + (m : Int) = (n : Int) := by omega
  obtain ⟨p, hp⟩ : ∃ q, q = n - 1 := ⟨_, rfl⟩
  have hpz : (n : Int) - 1 = (p : Int) := by omega
  have b1 : a < mid := by omega
  have b2 : mid < b := by omega
  have b3 : n ≤ mid + m := by omega
  have b4 : mid + m ≤ n := by omega
  have b5 : n ≤ p + 1 := by omega
  have b6 : p + 1 ≤ n := by omega
  have b9 : m ≤ mid := by omega
  have b10 : m - a ≤ b - mid := by omega
  have b11 : ¬ (mid : Int) < (m : Int) := by omega
  have b12 : ¬ (m : Int) > (mid : Int) := by omega
  have hlh : lohi a m b mid a m := by unfold lohi; omega
  have HRG := Lib.hid (fun s (x : a ≤ s) (y : s ≤ m) => search_range ham hmb hmid hlh x y)
  have HM := Lib.hid (mono3 ham hmb hmid hlh h1 h2)
  have HL := Lib.hid (fun (s e : Nat) (d' : Array α) B he V => split_law (d1 := d') (s := s) (e := e) ham hmb hmid hlh h1 h2 hc B he V)
  clear h1 h2 hc hlh hlo hmid hn hp 
  go_enter Tryd.func47, Tryd.ntmps47
  go_wp2
  go_loopw [20, 21] (fun vi vj wr => ∃ (i j : Nat), vi = .int .i64 i ∧ vj = .int .i64 j ∧ a ≤ i ∧ i ≤ j ∧ j ≤ m ∧ Hid (BS (fun c => due d[c]! ≤ due d[mid + m - 1 - c]!) a m i j) ∧ Aside (SW enc w0 blk off d wr)) (fun vi vj _ => (intOf vj).toNat - (intOf vi).toNat)
  case atStart => exact ⟨a, m, rfl, rfl, Nat.le_refl _, by omega, Nat.le_refl _, Lib.hid (BS.start (by omega)), S0⟩
  case round =>
    clear S0
    obtain ⟨i, j, rfl, rfl, hmi, hij, hjb, B, S1⟩ := hrel
    by_cases hlt : i < j
    · have hltz : (i : Int) < (j : Int) := by omega
      obtain ⟨c, hh⟩ : ∃ c, c = (i + j) / 2 := ⟨_, rfl⟩
      have hih : i ≤ c ∧ c < j := by omega
      have hz : ((i : Int) + (j : Int)) / 2 = (c : Int) := by omega
      clear hh
      obtain ⟨qx, hq⟩ : ∃ q, q = mid + m - 1 - c := ⟨_, rfl⟩
      have hqz : (p : Int) - (c : Int) = (qx : Int) := by omega
      have hqb : qx < b := by omega
      have hw2 : IntKind.i64.wrap ((c : Int) + 1) = (c : Int) + 1 := by rw [IntKind.wrap_i64]; omega
      rcases Int.lt_or_le (due d[qx]!) (due d[c]!) with hv | hv
      · have B2 := Lib.hid (B.out.down HM.out hih.1 hih.2 (show ¬ due d[c]! ≤ due d[mid + m - 1 - c]! by rw [← hq]; omega))
        clear hq
        go_wp2_with fail
        obtain ⟨iN1075, hiN1075⟩ : ∃ q, q = qx := ⟨_, rfl⟩
        obtain ⟨jN1075, hjN1075⟩ : ∃ q, q = c := ⟨_, rfl⟩
        have ea1075 : ((qx : Int)).toNat = iN1075 := by omega
        have pa1075 : (0 : Int) ≤ (qx : Int) := by omega
        have ba1075 : (qx : Int) < (d.size : Int) := by omega
        have ra1075 : IntKind.i64.wrap ((qx : Int)) = (qx : Int) := by rw [IntKind.wrap_i64]; omega
        have ec1075 : ((c : Int)).toNat = jN1075 := by omega
        have pc1075 : (0 : Int) ≤ (c : Int) := by omega
        have bc1075 : (c : Int) < (d.size : Int) := by omega
        have rc1075 : IntKind.i64.wrap ((c : Int)) = (c : Int) := by rw [IntKind.wrap_i64]; omega
        obtain ⟨x1075, hx1075⟩ : ∃ x, x = d[qx]! := ⟨_, rfl⟩
        obtain ⟨y1075, hy1075⟩ : ∃ x, x = d[c]! := ⟨_, rfl⟩
        have l1075a := S1.out.cl R (by omega) (qx) (by omega)
        have l1075b := S1.out.cl R (by omega) (c) (by omega)
        rw [← hx1075, ← hiN1075] at l1075a
        rw [← hy1075, ← hjN1075] at l1075b
        have hc1075 := S1.out.cmp HC.out (by omega) x1075 y1075
        have hv1075 : cf x1075 y1075 < 0 := by rw [hx1075, hy1075]; exact (HCF.out _ _).2 hv
        have hd1075 : decide (cf x1075 y1075 < 0) = true := decide_eq_true hv1075
        clear hx1075 hy1075 hiN1075 hjN1075
        go_wp2_with fail
        go_quiet_grown (first | (go_at_fn g; refine Calls.grown_of (hc1075 _ _)))
        have S2 : Aside (SW enc w0 blk off d (grow (wr.drewN nq) osq)) := S1.out.grown nq osq
        clear l1075a l1075b hc1075 S1
        generalize grow (wr.drewN nq) osq = w2 at S2 ⊢
        clear nq osq
        clear ea1075 ec1075
        go_wp2
        go_roundw
        case rel => exact ⟨i, c, rfl, rfl, hmi, by omega, by omega, B2, S2⟩
        case measure => simp [intOf]; omega
      · have B2 := Lib.hid (B.out.up HM.out hih.1 hih.2 (show due d[c]! ≤ due d[mid + m - 1 - c]! by rw [← hq]; omega))
        clear hq
        go_wp2_with fail
        obtain ⟨iN1076, hiN1076⟩ : ∃ q, q = qx := ⟨_, rfl⟩
        obtain ⟨jN1076, hjN1076⟩ : ∃ q, q = c := ⟨_, rfl⟩
        have ea1076 : ((qx : Int)).toNat = iN1076 := by omega
        have pa1076 : (0 : Int) ≤ (qx : Int) := by omega
        have ba1076 : (qx : Int) < (d.size : Int) := by omega
        have ra1076 : IntKind.i64.wrap ((qx : Int)) = (qx : Int) := by rw [IntKind.wrap_i64]; omega
        have ec1076 : ((c : Int)).toNat = jN1076 := by omega
        have pc1076 : (0 : Int) ≤ (c : Int) := by omega
        have bc1076 : (c : Int) < (d.size : Int) := by omega
        have rc1076 : IntKind.i64.wrap ((c : Int)) = (c : Int) := by rw [IntKind.wrap_i64]; omega
        obtain ⟨x1076, hx1076⟩ : ∃ x, x = d[qx]! := ⟨_, rfl⟩
        obtain ⟨y1076, hy1076⟩ : ∃ x, x = d[c]! := ⟨_, rfl⟩
        have l1076a := S1.out.cl R (by omega) (qx) (by omega)
        have l1076b := S1.out.cl R (by omega) (c) (by omega)
        rw [← hx1076, ← hiN1076] at l1076a
        rw [← hy1076, ← hjN1076] at l1076b
        have hc1076 := S1.out.cmp HC.out (by omega) x1076 y1076
        have hv1076 : ¬ cf x1076 y1076 < 0 := by rw [hx1076, hy1076]; exact fun h => by have h3 := (HCF.out _ _).1 h; have h4 := hv; omega
        have hd1076 : decide (cf x1076 y1076 < 0) = false := decide_eq_false hv1076
        clear hx1076 hy1076 hiN1076 hjN1076
        go_wp2_with fail
        go_quiet_grown (first | (go_at_fn g; refine Calls.grown_of (hc1076 _ _)))
        have S2 : Aside (SW enc w0 blk off d (grow (wr.drewN nq) osq)) := S1.out.grown nq osq
        clear l1076a l1076b hc1076 S1
        generalize grow (wr.drewN nq) osq = w2 at S2 ⊢
        clear nq osq
        clear ea1076 ec1076
        go_wp2
        go_roundw
        case rel => exact ⟨c + 1, j, by go_num, rfl, by omega, by omega, hjb, B2, S2⟩
        case measure => simp [intOf]; omega
    · have hije : j = i := by omega
      subst hije
      obtain ⟨s, hsj⟩ : ∃ q, q = j := ⟨_, rfl⟩
      subst hsj
      have hnlt : ¬ (s : Int) < (s : Int) := by omega
      obtain ⟨r1, r2, r3, r4, r5, r6⟩ := HRG.out s hmi hjb
      obtain ⟨e, he⟩ : ∃ q, q = mid + m - s := ⟨_, rfl⟩
      rw [← he] at r4 r5 r6
      have hez : (n : Int) - (s : Int) = (e : Int) := by omega
      have HSP := Lib.hid (fun d' V => HL.out s e d' B.out he V)
      have c1 : e + s ≤ mid + m := by omega
      have c2 : mid + m ≤ e + s := by omega
      clear he HL HRG HM B
      by_cases k1 : s < m ∧ m < e
      · first
          | (exfalso; omega)
          | (
              have z1077 : (s : Int) < (m : Int) := by omega
              have zd1077 : decide ((s : Int) < (m : Int)) = true := decide_eq_true (by omega)
              have z1078 : (m : Int) < (e : Int) := by omega
              have zd1078 : decide ((m : Int) < (e : Int)) = true := decide_eq_true (by omega)
              have hrot := rotate_s enc (.func (.func g) #[] cb) blk off cap s m e d0 d w0 wr R hs S1.out k1.1 k1.2 (by omega) hsz
              go_wp2_with (go_at_call 60; refine hold ?_)
              refine Lib.hid ?_
              refine hrot.mono ?_
              rintro e1 w1 ⟨rfl, d1, V1, S2⟩
              have HSP1 := Lib.hid (HSP.out d1 V1)
              have SA : Aside (SW enc w0 blk off d1 w1) := S2
              have hs1 := Lib.hid (show d1.size = d.size from V1.size)
              clear hrot V1 S2 S1
              by_cases k2 : a < s ∧ s < mid
              · first
                  | (exfalso; omega)
                  | (
                      have z1079 : (a : Int) < (s : Int) := by omega
                      have zd1079 : decide ((a : Int) < (s : Int)) = true := decide_eq_true (by omega)
                      have z1080 : (s : Int) < (mid : Int) := by omega
                      have zd1080 : decide ((s : Int) < (mid : Int)) = true := decide_eq_true (by omega)
                      have hM := HR.out a s mid d1 w1 (by omega) k2.1 k2.2 (by omega) hs1.out SA.out HSP1.out.s1 HSP1.out.s2 HSP1.out.c1
                      go_wp2_with (go_at_call 47; refine hold ?_)
                      refine Lib.hid ?_
                      refine hM.mono ?_
                      rintro e2 w2 ⟨rfl, d2, M2, S3⟩
                      have HM2 := Lib.hid M2
                      have SB : Aside (SW enc w0 blk off d2 w2) := S3
                      have hs2 := Lib.hid (show d2.size = d.size from M2.size.trans hs1.out)
                      clear hM M2 S3 SA
                      by_cases k3 : mid < e ∧ e < b
                      · first
                          | (exfalso; omega)
                          | (
                              have z1081 : (mid : Int) < (e : Int) := by omega
                              have zd1081 : decide ((mid : Int) < (e : Int)) = true := decide_eq_true (by omega)
                              have z1082 : (e : Int) < (b : Int) := by omega
                              have zd1082 : decide ((e : Int) < (b : Int)) = true := decide_eq_true (by omega)
                              obtain ⟨q1, q2, q3⟩ := HSP1.out.second HM2.out
                              have hM := HR.out mid e b d2 w2 (by omega) k3.1 k3.2 hb hs2.out SB.out q1 (q2 (by omega)) (q3 (by omega))
                              clear q1 q2 q3
                              go_wp2_with (go_at_call 47; refine hold ?_)
                              refine Lib.hid ?_
                              refine hM.mono ?_
                              rintro e3 w3 ⟨rfl, d3, M3, S4⟩
                              clear hM
                              go_wp2_with fail
                              go_end0
                              exact ⟨rfl, d3, HSP1.out.join (by omega) (by omega) HM2.out M3, S4⟩)
                      · by_cases k3b : mid < e
                        · first
                            | (exfalso; omega)
                            | (
                                have z1084 : (mid : Int) < (e : Int) := by omega
                                have zd1084 : decide ((mid : Int) < (e : Int)) = true := decide_eq_true (by omega)
                                have z1085 : ¬ (e : Int) < (b : Int) := by omega
                                have zd1085 : decide ((e : Int) < (b : Int)) = false := decide_eq_false (by omega)
                                have HM3 := Lib.hid (SM.refl (HSP1.out.last HM2.out (by omega) (by omega) (by omega)))
                                go_wp2_with fail
                                go_end0
                                exact ⟨rfl, d2, HSP1.out.join (by omega) (by omega) HM2.out HM3.out, SB.out⟩)
                        · first
                            | (exfalso; omega)
                            | (
                                have z1083 : ¬ (mid : Int) < (e : Int) := by omega
                                have zd1083 : decide ((mid : Int) < (e : Int)) = false := decide_eq_false (by omega)
                                have HM3 := Lib.hid (SM.refl (HSP1.out.last HM2.out (by omega) (by omega) (by omega)))
                                go_wp2_with fail
                                go_end0
                                exact ⟨rfl, d2, HSP1.out.join (by omega) (by omega) HM2.out HM3.out, SB.out⟩))
              · by_cases k2b : a < s
                · first
                    | (exfalso; omega)
                    | (
                        have z1092 : (a : Int) < (s : Int) := by omega
                        have zd1092 : decide ((a : Int) < (s : Int)) = true := decide_eq_true (by omega)
                        have z1093 : ¬ (s : Int) < (mid : Int) := by omega
                        have zd1093 : decide ((s : Int) < (mid : Int)) = false := decide_eq_false (by omega)
                        have HM2 := Lib.hid (SM.refl (HSP1.out.first (by omega) (by omega) (by omega)))
                        have SB : Aside (SW enc w0 blk off d1 w1) := SA
                        clear SA
                        by_cases k3 : mid < e ∧ e < b
                        · first
                            | (exfalso; omega)
                            | (
                                have z1094 : (mid : Int) < (e : Int) := by omega
                                have zd1094 : decide ((mid : Int) < (e : Int)) = true := decide_eq_true (by omega)
                                have z1095 : (e : Int) < (b : Int) := by omega
                                have zd1095 : decide ((e : Int) < (b : Int)) = true := decide_eq_true (by omega)
                                obtain ⟨q1, q2, q3⟩ := HSP1.out.second HM2.out
                                have hM := HR.out mid e b d1 w1 (by omega) k3.1 k3.2 hb hs1.out SB.out q1 (q2 (by omega)) (q3 (by omega))
                                clear q1 q2 q3
                                go_wp2_with (go_at_call 47; refine hold ?_)
                                refine Lib.hid ?_
                                refine hM.mono ?_
                                rintro e3 w3 ⟨rfl, d3, M3, S4⟩
                                clear hM
                                go_wp2_with fail
                                go_end0
                                exact ⟨rfl, d3, HSP1.out.join (by omega) (by omega) HM2.out M3, S4⟩)
                        · by_cases k3b : mid < e
                          · first
                              | (exfalso; omega)
                              | (
                                  have z1097 : (mid : Int) < (e : Int) := by omega
                                  have zd1097 : decide ((mid : Int) < (e : Int)) = true := decide_eq_true (by omega)
                                  have z1098 : ¬ (e : Int) < (b : Int) := by omega
                                  have zd1098 : decide ((e : Int) < (b : Int)) = false := decide_eq_false (by omega)
                                  have HM3 := Lib.hid (SM.refl (HSP1.out.last HM2.out (by omega) (by omega) (by omega)))
                                  go_wp2_with fail
                                  go_end0
                                  exact ⟨rfl, d1, HSP1.out.join (by omega) (by omega) HM2.out HM3.out, SB.out⟩)
                          · first
                              | (exfalso; omega)
                              | (
                                  have z1096 : ¬ (mid : Int) < (e : Int) := by omega
                                  have zd1096 : decide ((mid : Int) < (e : Int)) = false := decide_eq_false (by omega)
                                  have HM3 := Lib.hid (SM.refl (HSP1.out.last HM2.out (by omega) (by omega) (by omega)))
                                  go_wp2_with fail
                                  go_end0
                                  exact ⟨rfl, d1, HSP1.out.join (by omega) (by omega) HM2.out HM3.out, SB.out⟩))
                · first
                    | (exfalso; omega)
                    | (
                        have z1086 : ¬ (a : Int) < (s : Int) := by omega
                        have zd1086 : decide ((a : Int) < (s : Int)) = false := decide_eq_false (by omega)
                        have HM2 := Lib.hid (SM.refl (HSP1.out.first (by omega) (by omega) (by omega)))
                        have SB : Aside (SW enc w0 blk off d1 w1) := SA
                        clear SA
                        by_cases k3 : mid < e ∧ e < b
                        · first
                            | (exfalso; omega)
                            | (
                                have z1087 : (mid : Int) < (e : Int) := by omega
                                have zd1087 : decide ((mid : Int) < (e : Int)) = true := decide_eq_true (by omega)
                                have z1088 : (e : Int) < (b : Int) := by omega
                                have zd1088 : decide ((e : Int) < (b : Int)) = true := decide_eq_true (by omega)
                                obtain ⟨q1, q2, q3⟩ := HSP1.out.second HM2.out
                                have hM := HR.out mid e b d1 w1 (by omega) k3.1 k3.2 hb hs1.out SB.out q1 (q2 (by omega)) (q3 (by omega))
                                clear q1 q2 q3
                                go_wp2_with (go_at_call 47; refine hold ?_)
                                refine Lib.hid ?_
                                refine hM.mono ?_
                                rintro e3 w3 ⟨rfl, d3, M3, S4⟩
                                clear hM
                                go_wp2_with fail
                                go_end0
                                exact ⟨rfl, d3, HSP1.out.join (by omega) (by omega) HM2.out M3, S4⟩)
                        · by_cases k3b : mid < e
                          · first
                              | (exfalso; omega)
                              | (
                                  have z1090 : (mid : Int) < (e : Int) := by omega
                                  have zd1090 : decide ((mid : Int) < (e : Int)) = true := decide_eq_true (by omega)
                                  have z1091 : ¬ (e : Int) < (b : Int) := by omega
                                  have zd1091 : decide ((e : Int) < (b : Int)) = false := decide_eq_false (by omega)
                                  have HM3 := Lib.hid (SM.refl (HSP1.out.last HM2.out (by omega) (by omega) (by omega)))
                                  go_wp2_with fail
                                  go_end0
                                  exact ⟨rfl, d1, HSP1.out.join (by omega) (by omega) HM2.out HM3.out, SB.out⟩)
                          · first
                              | (exfalso; omega)
                              | (
                                  have z1089 : ¬ (mid : Int) < (e : Int) := by omega
                                  have zd1089 : decide ((mid : Int) < (e : Int)) = false := decide_eq_false (by omega)
                                  have HM3 := Lib.hid (SM.refl (HSP1.out.last HM2.out (by omega) (by omega) (by omega)))
                                  go_wp2_with fail
                                  go_end0
                                  exact ⟨rfl, d1, HSP1.out.join (by omega) (by omega) HM2.out HM3.out, SB.out⟩)))
      · by_cases k1b : s < m
        · first
            | (exfalso; omega)
            | (
                have z1120 : (s : Int) < (m : Int) := by omega
                have zd1120 : decide ((s : Int) < (m : Int)) = true := decide_eq_true (by omega)
                have z1121 : ¬ (m : Int) < (e : Int) := by omega
                have zd1121 : decide ((m : Int) < (e : Int)) = false := decide_eq_false (by omega)
                have HSP1 := Lib.hid (HSP.out d (Via.refl (rot_id (by omega) (by omega) (by omega)) d))
                have SA : Aside (SW enc w0 blk off d wr) := S1
                clear S1
                by_cases k2 : a < s ∧ s < mid
                · first
                    | (exfalso; omega)
                    | (
                        have z1122 : (a : Int) < (s : Int) := by omega
                        have zd1122 : decide ((a : Int) < (s : Int)) = true := decide_eq_true (by omega)
                        have z1123 : (s : Int) < (mid : Int) := by omega
                        have zd1123 : decide ((s : Int) < (mid : Int)) = true := decide_eq_true (by omega)
                        have hM := HR.out a s mid d wr (by omega) k2.1 k2.2 (by omega) (rfl : d.size = d.size) SA.out HSP1.out.s1 HSP1.out.s2 HSP1.out.c1
                        go_wp2_with (go_at_call 47; refine hold ?_)
                        refine Lib.hid ?_
                        refine hM.mono ?_
                        rintro e2 w2 ⟨rfl, d2, M2, S3⟩
                        have HM2 := Lib.hid M2
                        have SB : Aside (SW enc w0 blk off d2 w2) := S3
                        have hs2 := Lib.hid (show d2.size = d.size from M2.size.trans (rfl : d.size = d.size))
                        clear hM M2 S3 SA
                        by_cases k3 : mid < e ∧ e < b
                        · first
                            | (exfalso; omega)
                            | (
                                have z1124 : (mid : Int) < (e : Int) := by omega
                                have zd1124 : decide ((mid : Int) < (e : Int)) = true := decide_eq_true (by omega)
                                have z1125 : (e : Int) < (b : Int) := by omega
                                have zd1125 : decide ((e : Int) < (b : Int)) = true := decide_eq_true (by omega)
                                obtain ⟨q1, q2, q3⟩ := HSP1.out.second HM2.out
                                have hM := HR.out mid e b d2 w2 (by omega) k3.1 k3.2 hb hs2.out SB.out q1 (q2 (by omega)) (q3 (by omega))
                                clear q1 q2 q3
                                go_wp2_with (go_at_call 47; refine hold ?_)
                                refine Lib.hid ?_
                                refine hM.mono ?_
                                rintro e3 w3 ⟨rfl, d3, M3, S4⟩
                                clear hM
                                go_wp2_with fail
                                go_end0
                                exact ⟨rfl, d3, HSP1.out.join (by omega) (by omega) HM2.out M3, S4⟩)
                        · by_cases k3b : mid < e
                          · first
                              | (exfalso; omega)
                              | (
                                  have z1127 : (mid : Int) < (e : Int) := by omega
                                  have zd1127 : decide ((mid : Int) < (e : Int)) = true := decide_eq_true (by omega)
                                  have z1128 : ¬ (e : Int) < (b : Int) := by omega
                                  have zd1128 : decide ((e : Int) < (b : Int)) = false := decide_eq_false (by omega)
                                  have HM3 := Lib.hid (SM.refl (HSP1.out.last HM2.out (by omega) (by omega) (by omega)))
                                  go_wp2_with fail
                                  go_end0
                                  exact ⟨rfl, d2, HSP1.out.join (by omega) (by omega) HM2.out HM3.out, SB.out⟩)
                          · first
                              | (exfalso; omega)
                              | (
                                  have z1126 : ¬ (mid : Int) < (e : Int) := by omega
                                  have zd1126 : decide ((mid : Int) < (e : Int)) = false := decide_eq_false (by omega)
                                  have HM3 := Lib.hid (SM.refl (HSP1.out.last HM2.out (by omega) (by omega) (by omega)))
                                  go_wp2_with fail
                                  go_end0
                                  exact ⟨rfl, d2, HSP1.out.join (by omega) (by omega) HM2.out HM3.out, SB.out⟩))
                · by_cases k2b : a < s
                  · first
                      | (exfalso; omega)
                      | (
                          have z1135 : (a : Int) < (s : Int) := by omega
                          have zd1135 : decide ((a : Int) < (s : Int)) = true := decide_eq_true (by omega)
                          have z1136 : ¬ (s : Int) < (mid : Int) := by omega
                          have zd1136 : decide ((s : Int) < (mid : Int)) = false := decide_eq_false (by omega)
                          have HM2 := Lib.hid (SM.refl (HSP1.out.first (by omega) (by omega) (by omega)))
                          have SB : Aside (SW enc w0 blk off d wr) := SA
                          clear SA
                          by_cases k3 : mid < e ∧ e < b
                          · first
                              | (exfalso; omega)
                              | (
                                  have z1137 : (mid : Int) < (e : Int) := by omega
                                  have zd1137 : decide ((mid : Int) < (e : Int)) = true := decide_eq_true (by omega)
                                  have z1138 : (e : Int) < (b : Int) := by omega
                                  have zd1138 : decide ((e : Int) < (b : Int)) = true := decide_eq_true (by omega)
                                  obtain ⟨q1, q2, q3⟩ := HSP1.out.second HM2.out
                                  have hM := HR.out mid e b d wr (by omega) k3.1 k3.2 hb (rfl : d.size = d.size) SB.out q1 (q2 (by omega)) (q3 (by omega))
                                  clear q1 q2 q3
                                  go_wp2_with (go_at_call 47; refine hold ?_)
                                  refine Lib.hid ?_
                                  refine hM.mono ?_
                                  rintro e3 w3 ⟨rfl, d3, M3, S4⟩
                                  clear hM
                                  go_wp2_with fail
                                  go_end0
                                  exact ⟨rfl, d3, HSP1.out.join (by omega) (by omega) HM2.out M3, S4⟩)
                          · by_cases k3b : mid < e
                            · first
                                | (exfalso; omega)
                                | (
                                    have z1140 : (mid : Int) < (e : Int) := by omega
                                    have zd1140 : decide ((mid : Int) < (e : Int)) = true := decide_eq_true (by omega)
                                    have z1141 : ¬ (e : Int) < (b : Int) := by omega
                                    have zd1141 : decide ((e : Int) < (b : Int)) = false := decide_eq_false (by omega)
                                    have HM3 := Lib.hid (SM.refl (HSP1.out.last HM2.out (by omega) (by omega) (by omega)))
                                    go_wp2_with fail
                                    go_end0
                                    exact ⟨rfl, d, HSP1.out.join (by omega) (by omega) HM2.out HM3.out, SB.out⟩)
                            · first
                                | (exfalso; omega)
                                | (
                                    have z1139 : ¬ (mid : Int) < (e : Int) := by omega
                                    have zd1139 : decide ((mid : Int) < (e : Int)) = false := decide_eq_false (by omega)
                                    have HM3 := Lib.hid (SM.refl (HSP1.out.last HM2.out (by omega) (by omega) (by omega)))
                                    go_wp2_with fail
                                    go_end0
                                    exact ⟨rfl, d, HSP1.out.join (by omega) (by omega) HM2.out HM3.out, SB.out⟩))
                  · first
                      | (exfalso; omega)
                      | (
                          have z1129 : ¬ (a : Int) < (s : Int) := by omega
                          have zd1129 : decide ((a : Int) < (s : Int)) = false := decide_eq_false (by omega)
                          have HM2 := Lib.hid (SM.refl (HSP1.out.first (by omega) (by omega) (by omega)))
                          have SB : Aside (SW enc w0 blk off d wr) := SA
                          clear SA
                          by_cases k3 : mid < e ∧ e < b
                          · first
                              | (exfalso; omega)
                              | (
                                  have z1130 : (mid : Int) < (e : Int) := by omega
                                  have zd1130 : decide ((mid : Int) < (e : Int)) = true := decide_eq_true (by omega)
                                  have z1131 : (e : Int) < (b : Int) := by omega
                                  have zd1131 : decide ((e : Int) < (b : Int)) = true := decide_eq_true (by omega)
                                  obtain ⟨q1, q2, q3⟩ := HSP1.out.second HM2.out
                                  have hM := HR.out mid e b d wr (by omega) k3.1 k3.2 hb (rfl : d.size = d.size) SB.out q1 (q2 (by omega)) (q3 (by omega))
                                  clear q1 q2 q3
                                  go_wp2_with (go_at_call 47; refine hold ?_)
                                  refine Lib.hid ?_
                                  refine hM.mono ?_
                                  rintro e3 w3 ⟨rfl, d3, M3, S4⟩
                                  clear hM
                                  go_wp2_with fail
                                  go_end0
                                  exact ⟨rfl, d3, HSP1.out.join (by omega) (by omega) HM2.out M3, S4⟩)
                          · by_cases k3b : mid < e
                            · first
                                | (exfalso; omega)
                                | (
                                    have z1133 : (mid : Int) < (e : Int) := by omega
                                    have zd1133 : decide ((mid : Int) < (e : Int)) = true := decide_eq_true (by omega)
                                    have z1134 : ¬ (e : Int) < (b : Int) := by omega
                                    have zd1134 : decide ((e : Int) < (b : Int)) = false := decide_eq_false (by omega)
                                    have HM3 := Lib.hid (SM.refl (HSP1.out.last HM2.out (by omega) (by omega) (by omega)))
                                    go_wp2_with fail
                                    go_end0
                                    exact ⟨rfl, d, HSP1.out.join (by omega) (by omega) HM2.out HM3.out, SB.out⟩)
                            · first
                                | (exfalso; omega)
                                | (
                                    have z1132 : ¬ (mid : Int) < (e : Int) := by omega
                                    have zd1132 : decide ((mid : Int) < (e : Int)) = false := decide_eq_false (by omega)
                                    have HM3 := Lib.hid (SM.refl (HSP1.out.last HM2.out (by omega) (by omega) (by omega)))
                                    go_wp2_with fail
                                    go_end0
                                    exact ⟨rfl, d, HSP1.out.join (by omega) (by omega) HM2.out HM3.out, SB.out⟩)))
        · first
            | (exfalso; omega)
            | (
                have z1099 : ¬ (s : Int) < (m : Int) := by omega
                have zd1099 : decide ((s : Int) < (m : Int)) = false := decide_eq_false (by omega)
                have HSP1 := Lib.hid (HSP.out d (Via.refl (rot_id (by omega) (by omega) (by omega)) d))
                have SA : Aside (SW enc w0 blk off d wr) := S1
                clear S1
                by_cases k2 : a < s ∧ s < mid
                · first
                    | (exfalso; omega)
                    | (
                        have z1100 : (a : Int) < (s : Int) := by omega
                        have zd1100 : decide ((a : Int) < (s : Int)) = true := decide_eq_true (by omega)
                        have z1101 : (s : Int) < (mid : Int) := by omega
                        have zd1101 : decide ((s : Int) < (mid : Int)) = true := decide_eq_true (by omega)
                        have hM := HR.out a s mid d wr (by omega) k2.1 k2.2 (by omega) (rfl : d.size = d.size) SA.out HSP1.out.s1 HSP1.out.s2 HSP1.out.c1
                        go_wp2_with (go_at_call 47; refine hold ?_)
                        refine Lib.hid ?_
                        refine hM.mono ?_
                        rintro e2 w2 ⟨rfl, d2, M2, S3⟩
                        have HM2 := Lib.hid M2
                        have SB : Aside (SW enc w0 blk off d2 w2) := S3
                        have hs2 := Lib.hid (show d2.size = d.size from M2.size.trans (rfl : d.size = d.size))
                        clear hM M2 S3 SA
                        by_cases k3 : mid < e ∧ e < b
                        · first
                            | (exfalso; omega)
                            | (
                                have z1102 : (mid : Int) < (e : Int) := by omega
                                have zd1102 : decide ((mid : Int) < (e : Int)) = true := decide_eq_true (by omega)
                                have z1103 : (e : Int) < (b : Int) := by omega
                                have zd1103 : decide ((e : Int) < (b : Int)) = true := decide_eq_true (by omega)
                                obtain ⟨q1, q2, q3⟩ := HSP1.out.second HM2.out
                                have hM := HR.out mid e b d2 w2 (by omega) k3.1 k3.2 hb hs2.out SB.out q1 (q2 (by omega)) (q3 (by omega))
                                clear q1 q2 q3
                                go_wp2_with (go_at_call 47; refine hold ?_)
                                refine Lib.hid ?_
                                refine hM.mono ?_
                                rintro e3 w3 ⟨rfl, d3, M3, S4⟩
                                clear hM
                                go_wp2_with fail
                                go_end0
                                exact ⟨rfl, d3, HSP1.out.join (by omega) (by omega) HM2.out M3, S4⟩)
                        · by_cases k3b : mid < e
                          · first
                              | (exfalso; omega)
                              | (
                                  have z1105 : (mid : Int) < (e : Int) := by omega
                                  have zd1105 : decide ((mid : Int) < (e : Int)) = true := decide_eq_true (by omega)
                                  have z1106 : ¬ (e : Int) < (b : Int) := by omega
                                  have zd1106 : decide ((e : Int) < (b : Int)) = false := decide_eq_false (by omega)
                                  have HM3 := Lib.hid (SM.refl (HSP1.out.last HM2.out (by omega) (by omega) (by omega)))
                                  go_wp2_with fail
                                  go_end0
                                  exact ⟨rfl, d2, HSP1.out.join (by omega) (by omega) HM2.out HM3.out, SB.out⟩)
                          · first
                              | (exfalso; omega)
                              | (
                                  have z1104 : ¬ (mid : Int) < (e : Int) := by omega
                                  have zd1104 : decide ((mid : Int) < (e : Int)) = false := decide_eq_false (by omega)
                                  have HM3 := Lib.hid (SM.refl (HSP1.out.last HM2.out (by omega) (by omega) (by omega)))
                                  go_wp2_with fail
                                  go_end0
                                  exact ⟨rfl, d2, HSP1.out.join (by omega) (by omega) HM2.out HM3.out, SB.out⟩))
                · by_cases k2b : a < s
                  · first
                      | (exfalso; omega)
                      | (
                          have z1113 : (a : Int) < (s : Int) := by omega
                          have zd1113 : decide ((a : Int) < (s : Int)) = true := decide_eq_true (by omega)
                          have z1114 : ¬ (s : Int) < (mid : Int) := by omega
                          have zd1114 : decide ((s : Int) < (mid : Int)) = false := decide_eq_false (by omega)
                          have HM2 := Lib.hid (SM.refl (HSP1.out.first (by omega) (by omega) (by omega)))
                          have SB : Aside (SW enc w0 blk off d wr) := SA
                          clear SA
                          by_cases k3 : mid < e ∧ e < b
                          · first
                              | (exfalso; omega)
                              | (
                                  have z1115 : (mid : Int) < (e : Int) := by omega
                                  have zd1115 : decide ((mid : Int) < (e : Int)) = true := decide_eq_true (by omega)
                                  have z1116 : (e : Int) < (b : Int) := by omega
                                  have zd1116 : decide ((e : Int) < (b : Int)) = true := decide_eq_true (by omega)
                                  obtain ⟨q1, q2, q3⟩ := HSP1.out.second HM2.out
                                  have hM := HR.out mid e b d wr (by omega) k3.1 k3.2 hb (rfl : d.size = d.size) SB.out q1 (q2 (by omega)) (q3 (by omega))
                                  clear q1 q2 q3
                                  go_wp2_with (go_at_call 47; refine hold ?_)
                                  refine Lib.hid ?_
                                  refine hM.mono ?_
                                  rintro e3 w3 ⟨rfl, d3, M3, S4⟩
                                  clear hM
                                  go_wp2_with fail
                                  go_end0
                                  exact ⟨rfl, d3, HSP1.out.join (by omega) (by omega) HM2.out M3, S4⟩)
                          · by_cases k3b : mid < e
                            · first
                                | (exfalso; omega)
                                | (
                                    have z1118 : (mid : Int) < (e : Int) := by omega
                                    have zd1118 : decide ((mid : Int) < (e : Int)) = true := decide_eq_true (by omega)
                                    have z1119 : ¬ (e : Int) < (b : Int) := by omega
                                    have zd1119 : decide ((e : Int) < (b : Int)) = false := decide_eq_false (by omega)
                                    have HM3 := Lib.hid (SM.refl (HSP1.out.last HM2.out (by omega) (by omega) (by omega)))
                                    go_wp2_with fail
                                    go_end0
                                    exact ⟨rfl, d, HSP1.out.join (by omega) (by omega) HM2.out HM3.out, SB.out⟩)
                            · first
                                | (exfalso; omega)
                                | (
                                    have z1117 : ¬ (mid : Int) < (e : Int) := by omega
                                    have zd1117 : decide ((mid : Int) < (e : Int)) = false := decide_eq_false (by omega)
                                    have HM3 := Lib.hid (SM.refl (HSP1.out.last HM2.out (by omega) (by omega) (by omega)))
                                    go_wp2_with fail
                                    go_end0
                                    exact ⟨rfl, d, HSP1.out.join (by omega) (by omega) HM2.out HM3.out, SB.out⟩))
                  · first
                      | (exfalso; omega)
                      | (
                          have z1107 : ¬ (a : Int) < (s : Int) := by omega
                          have zd1107 : decide ((a : Int) < (s : Int)) = false := decide_eq_false (by omega)
                          have HM2 := Lib.hid (SM.refl (HSP1.out.first (by omega) (by omega) (by omega)))
                          have SB : Aside (SW enc w0 blk off d wr) := SA
                          clear SA
                          by_cases k3 : mid < e ∧ e < b
                          · first
                              | (exfalso; omega)
                              | (
                                  have z1108 : (mid : Int) < (e : Int) := by omega
                                  have zd1108 : decide ((mid : Int) < (e : Int)) = true := decide_eq_true (by omega)
                                  have z1109 : (e : Int) < (b : Int) := by omega
                                  have zd1109 : decide ((e : Int) < (b : Int)) = true := decide_eq_true (by omega)
                                  obtain ⟨q1, q2, q3⟩ := HSP1.out.second HM2.out
                                  have hM := HR.out mid e b d wr (by omega) k3.1 k3.2 hb (rfl : d.size = d.size) SB.out q1 (q2 (by omega)) (q3 (by omega))
                                  clear q1 q2 q3
                                  go_wp2_with (go_at_call 47; refine hold ?_)
                                  refine Lib.hid ?_
                                  refine hM.mono ?_
                                  rintro e3 w3 ⟨rfl, d3, M3, S4⟩
                                  clear hM
                                  go_wp2_with fail
                                  go_end0
                                  exact ⟨rfl, d3, HSP1.out.join (by omega) (by omega) HM2.out M3, S4⟩)
                          · by_cases k3b : mid < e
                            · first
                                | (exfalso; omega)
                                | (
                                    have z1111 : (mid : Int) < (e : Int) := by omega
                                    have zd1111 : decide ((mid : Int) < (e : Int)) = true := decide_eq_true (by omega)
                                    have z1112 : ¬ (e : Int) < (b : Int) := by omega
                                    have zd1112 : decide ((e : Int) < (b : Int)) = false := decide_eq_false (by omega)
                                    have HM3 := Lib.hid (SM.refl (HSP1.out.last HM2.out (by omega) (by omega) (by omega)))
                                    go_wp2_with fail
                                    go_end0
                                    exact ⟨rfl, d, HSP1.out.join (by omega) (by omega) HM2.out HM3.out, SB.out⟩)
                            · first
                                | (exfalso; omega)
                                | (
                                    have z1110 : ¬ (mid : Int) < (e : Int) := by omega
                                    have zd1110 : decide ((mid : Int) < (e : Int)) = false := decide_eq_false (by omega)
                                    have HM3 := Lib.hid (SM.refl (HSP1.out.last HM2.out (by omega) (by omega) (by omega)))
                                    go_wp2_with fail
                                    go_end0
                                    exact ⟨rfl, d, HSP1.out.join (by omega) (by omega) HM2.out HM3.out, SB.out⟩)))

#print axioms symG1
#print axioms symG2
end Go.Proofs.YtnhflmihjegaiaaDoor.Sym
