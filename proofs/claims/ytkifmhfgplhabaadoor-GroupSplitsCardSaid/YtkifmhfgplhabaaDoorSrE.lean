/-
  CONTRACTS BY HAND (the stable sort, 5): two sorted runs of askers merged in place.
-/
import Derived.Test.YtkifmhfgplhabaaDoorSrD
import Derived.Shelf.SlSortCmp.QuietGrown
import Derived.Deep.DeepCutAuto
import Derived.Deep.CutBlock
namespace Go.Proofs.YtkifmhfgplhabaaDoor.HS
open Go.Proofs Go.Shelf Go.RowKit Go.Lib Go.Sort
set_option linter.unusedVariables false
set_option linter.unusedSimpArgs false
set_option linter.unusedSectionVars false
variable {α : Type} [Inhabited α]
attribute [local go_sem high] sizeK
theorem part_of {lt lt' : α → α → Bool} (hO : SWO lt') {a m b mid s0 r0 s : Nat} {d : Array α} (ham : a < m) (hmb : m < b) (hmid : mid = (a + b) / 2) (h0 : (mid < m ∧ s0 = mid + m - b ∧ r0 = mid) ∨ (m ≤ mid ∧ s0 = a ∧ r0 = m)) (hM : Mg lt lt' a m b d) (h1 : s0 ≤ s) (h2 : s ≤ r0)
    (HL : ∀ t, s0 ≤ t → t < s → lt' d[mid + m - 1 - t]! d[t]! = false) (HH : ∀ t, s ≤ t → t < r0 → lt' d[mid + m - 1 - t]! d[t]! = true) : Part lt' a s m (mid + m - s) b d ∧ s + (mid + m - s - m) = mid := by
  refine ⟨⟨by omega, by omega, by omega, by omega, fun i j hi1 hi2 hj1 hj2 => ?_, fun i j hi1 hi2 hj1 hj2 => ?_⟩, by omega⟩
  · have hs : s0 < s := by omega
    have h3 := HL (s - 1) (by omega) (by omega)
    rw [show mid + m - 1 - (s - 1) = mid + m - s by omega] at h3
    exact le_trans_ hO (le_trans_ hO (SortedIn.le hO hM.l hi1 (by omega) (by omega)) h3) (SortedIn.le hO hM.r (by omega) hj1 hj2)
  · have hs : s < r0 := by omega
    have h3 := HH s (Nat.le_refl _) hs
    exact lt_of_le_lt hO (SortedIn.le hO hM.r hj1 (by omega) (by omega)) (lt_of_lt_le hO h3 (SortedIn.le hO hM.l (by omega) hi1 hi2))
/-- both halves sorted: the whole is -/
theorem merge_end {lt' : α → α → Bool} {a mid b : Nat} {d1 d2 d3 : Array α} (hb : b ≤ d1.size) (hmb : mid ≤ b) (hc : Cut lt' a mid b d1) (s2 : SortedIn lt' a mid d2) (p2 : PermIn a mid d1 d2) (s3 : SortedIn lt' mid b d3) (p3 : PermIn mid b d2 d3) : SortedIn lt' a b d3 :=
  Cut.sorted (Cut.perm_r (Cut.perm_l hc (by omega) p2) (by rw [p2.1]; exact hb) p3) (SortedIn.same s2 (fun i h1 h2 => p3.2.1 i (.inl h2))) s3
set_option maxHeartbeats 40000000 in
set_option maxRecDepth 1000000 in
theorem merge_hi {enc : α → List Value} {cf : α → α → Int} {lt' : α → α → Bool} (hO : SWO lt') (g : Nat) (cb : Array Value) (blk off cap : Nat) (d0 : Array α) (w0 : World)
    (eg : ∀ args w, (callFunc g args).run Tryd.prog w = .ok (.enter g args) w) (hC : CmpLays Tryd.prog g cb enc K3 cf blk off d0.size w0) (R : RowK enc K3 w0 blk off d0) (N : Nat) (ih : ∀ (a m b : Nat) (d : Array α) (w : World) (hs : d0.size = d.size) (S : SWK enc K3 w0 blk off d w) (hN : b - a ≤ N) (ham : a < m) (hmb : m < b) (hb : b ≤ d.size) (hsz : d.size < 4611686018427387904) (hM : Mg (ltOf cf) lt' a m b d),     Calls Tryd.prog 43 #[.slice (some ⟨blk, off, none⟩) d.size cap, .int .i64 a, .int .i64 m, .int .i64 b, .func (.func g) #[] cb] w fun e w' => e = .returned (.tuple #[]) ∧ ∃ d', SortedIn lt' a b d' ∧ PermIn a b d d' ∧ SWK enc K3 w0 blk off d' w') (a m b : Nat) (d : Array α) (w : World) (hs : d0.size = d.size) (S : SWK enc K3 w0 blk off d w) (hN : b - a ≤ N + 1) (ham : a < m) (hmb : m < b) (hb : b ≤ d.size) (h1 : ¬ m = a + 1) (h2 : ¬ b = m + 1) (hcs : (a + b) / 2 < m) (hsz : d.size < 4611686018427387904) (hM : Mg (ltOf cf) lt' a m b d) :
    Calls Tryd.prog 43 #[.slice (some ⟨blk, off, none⟩) d.size cap, .int .i64 a, .int .i64 m, .int .i64 b, .func (.func g) #[] cb] w fun e w' => e = .returned (.tuple #[]) ∧ ∃ d', SortedIn lt' a b d' ∧ PermIn a b d d' ∧ SWK enc K3 w0 blk off d' w' := by
  have mixed : Tryd.prog.follows .mixedOrders = true := by kernel_rfl
  have aE := Tryd.isAgg67
  have zE := sizeK
  have HC : Aside _ := hC
  clear hC
  have S0 : Aside (SWK enc K3 w0 blk off d w) := S
  have HM : Aside _ := hM
  have IH : Aside _ := ih
  clear S hM ih
  have wm : IntKind.i64.wrap ((m : Int) - (a : Int)) = (m : Int) - (a : Int) := by rw [IntKind.wrap_i64]; omega
  have wn : (((m : Int) - (a : Int)) == 1) = false := beq_eq_false_iff_ne.2 (by omega)
  have wb : IntKind.i64.wrap ((b : Int) - (m : Int)) = (b : Int) - (m : Int) := by rw [IntKind.wrap_i64]; omega
  have wc : (((b : Int) - (m : Int)) == 1) = false := beq_eq_false_iff_ne.2 (by omega)
  have wab := half_w (show a + b < 9223372036854775808 by omega)
  obtain ⟨mid, hmid⟩ : ∃ mid : Nat, mid = (a + b) / 2 := ⟨_, rfl⟩
  have HMID : Aside (((a : Int) + (b : Int)) / 2 = (mid : Int)) := by show _ = _; omega
  have HMD : Aside (mid = (a + b) / 2) := hmid
  have ha1 : a < mid := by omega
  have hb1 : mid < b := by omega
  have hb2 : b ≤ mid + m ∨ m ≤ mid := by omega
  have hb3 : mid + m - b ≤ mid := by omega
  clear hmid
  go_enter Tryd.func43, Tryd.ntmps43
  obtain ⟨s0, r0, h0⟩ : ∃ s0 r0 : Nat, (mid < m ∧ s0 = mid + m - b ∧ r0 = mid) ∨ (m ≤ mid ∧ s0 = a ∧ r0 = m) := by
    by_cases h : mid < m
    · exact ⟨_, _, .inl ⟨h, rfl, rfl⟩⟩
    · exact ⟨_, _, .inr ⟨by omega, rfl, rfl⟩⟩
  have H0 : Aside _ := h0
  obtain ⟨nn, hnn⟩ : ∃ nn, nn = mid + m := ⟨_, rfl⟩
  obtain ⟨n1, hn1⟩ : ∃ n1, n1 = nn - 1 := ⟨_, rfl⟩
  have hbs : s0 ≤ r0 ∧ r0 ≤ m ∧ r0 ≤ mid ∧ a ≤ s0 ∧ nn ≤ b + s0 := by have := HMD.out; rcases h0 with h | h <;> omega
  obtain ⟨hsr, hrm, hrmid, has0, hbs0⟩ := hbs
  have wmm : IntKind.i64.wrap ((mid : Int) + (m : Int)) = (nn : Int) := by rw [IntKind.wrap_i64]; omega
  have wn1 : IntKind.i64.wrap ((nn : Int) - 1) = (n1 : Int) := by rw [IntKind.wrap_i64]; omega
  have HN1 : Aside (n1 = nn - 1) := hn1
  have HNN : Aside (nn = mid + m) := hnn
  have hn3 : n1 + 1 = nn := by omega
  have hn4 : m + r0 ≤ nn := by omega
  have WNB : Aside (mid < m → IntKind.i64.wrap ((nn : Int) - (b : Int)) = (s0 : Int)) := fun h => by have := HMD.out; rw [IntKind.wrap_i64]; rcases h0 with h | h <;> omega
  have hnm : nn < 9223372036854775808 := by omega
  clear hn1 hnn
  go_upto_region 25 with fail
  rw [HMID.out]
  rcases h0 with ⟨hq, hq1, hq2⟩ | ⟨hq, hq1, hq2⟩
  · have hqz : (mid : Int) < (m : Int) := by omega
    have w1 := WNB.out hq
    have E20 : Aside (s0 = s0) := rfl
    have E21 : Aside (mid = r0) := hq2.symm
    clear hq hq1 hq2
    go_wp2
    go_loopg [20, 21] (r0 - s0) (fun kx s20 s21 wr => ∃ (s r : Nat), s20 = .int .i64 s ∧ s21 = .int .i64 r ∧ s0 ≤ s ∧ s ≤ r ∧ r ≤ r0 ∧ r - s ≤ kx ∧ Aside (∀ t, s0 ≤ t → t < s → lt' d[n1 - t]! d[t]! = false) ∧ Aside (∀ t, r ≤ t → t < r0 → lt' d[n1 - t]! d[t]! = true) ∧ Aside (SWK enc K3 w0 blk off d wr))
    case atStart => exact ⟨s0, r0, by first | rfl | rw [E20.out], by first | rfl | rw [E21.out], by omega, hsr, by omega, by omega, (fun h h1 h2 => by omega), (fun h h1 h2 => by omega), S0⟩
    case round =>
      clear S0
      obtain ⟨s, r, rfl, rfl, hs1, hs2, hs3, hkx, HL, HH, S1⟩ := hrel
      by_cases hlt : s < r
      · have hlz : (s : Int) < (r : Int) := by omega
        have whf := half_w (show s + r < 9223372036854775808 by omega)
        obtain ⟨h, hh⟩ : ∃ h : Nat, (h : Int) = ((s : Int) + (r : Int)) / 2 := ⟨(s + r) / 2, by omega⟩
        have hih : s ≤ h := by omega
        have hhj : h < r := by omega
        have hh1 : IntKind.i64.wrap ((h : Int) + 1) = (h : Int) + 1 := by rw [IntKind.wrap_i64]; omega
        have HHH : Aside ((h : Int) = ((s : Int) + (r : Int)) / 2) := hh
        clear hh
        obtain ⟨q, hq⟩ : ∃ q, q = n1 - h := ⟨_, rfl⟩
        have wq : IntKind.i64.wrap ((n1 : Int) - (h : Int)) = (q : Int) := by rw [IntKind.wrap_i64]; omega
        have hqm : m ≤ q := by omega
        have hqb : q < b := by omega
        have HQ : Aside (q = n1 - h) := hq
        clear hq
        have hx0 := HM.out.x h q (by omega) (by omega) hqm hqb
        go_wp2_with fail
        rw [← HHH.out]
        have ea51 : ((q : Nat) : Int).toNat = q := by omega
        have pa51 : (0 : Int) ≤ ((q : Nat) : Int) := by omega
        have ba51 : ((q : Nat) : Int) < (d.size : Int) := by omega
        have ra51 : IntKind.i64.wrap ((q : Nat) : Int) = ((q : Nat) : Int) := by rw [IntKind.wrap_i64]; omega
        have ec51 : ((h : Nat) : Int).toNat = h := by omega
        have pc51 : (0 : Int) ≤ ((h : Nat) : Int) := by omega
        have bc51 : ((h : Nat) : Int) < (d.size : Int) := by omega
        have rc51 : IntKind.i64.wrap ((h : Nat) : Int) = ((h : Nat) : Int) := by rw [IntKind.wrap_i64]; omega
        obtain ⟨x51, hx51⟩ : ∃ x, x = d[q]! := ⟨_, rfl⟩
        obtain ⟨y51, hy51⟩ : ∃ x, x = d[h]! := ⟨_, rfl⟩
        have l51a := S1.out.ld R (by omega) Tryd.prog (q) (by omega)
        have l51b := S1.out.ld R (by omega) Tryd.prog (h) (by omega)
        rw [← hx51] at l51a
        rw [← hy51] at l51b
        have hc51 := S1.out.cmp HC.out (by omega) x51 y51
        cases hlv : ltOf cf d[q]! d[h]! with
        | true =>
          have hv51 : cf x51 y51 < 0 := by rw [hx51, hy51]; exact of_decide_eq_true hlv
          have hd51 : decide (cf x51 y51 < 0) = true := decide_eq_true hv51
          have HH2 : Aside (∀ t, h ≤ t → t < r0 → lt' d[n1 - t]! d[t]! = true) := fun t h1 h2 => by
            rw [hx0, HQ.out] at hlv
            exact half_hi hO HM.out (by omega) h1 (by omega) (by omega) (by omega) hlv
          clear hx51 hy51 hlv hx0
          go_quiet_grown (first | (go_at_fn g; refine Calls.grown_of (hc51 _ _)))
          have S2 : Aside (SWK enc K3 w0 blk off d (grow (wr.drewN nq) osq)) := S1.out.grown nq osq
          clear l51a l51b hc51 S1
          generalize grow (wr.drewN nq) osq = w2 at S2 ⊢
          clear nq osq
          go_wp2
          go_roundg (h - s)
          case measure => omega
          case rel => exact ⟨s, h, rfl, rfl, hs1, hih, by omega, Nat.le_refl _, HL, HH2, S2⟩
        | false =>
          have hv51 : ¬ cf x51 y51 < 0 := by rw [hx51, hy51]; exact of_decide_eq_false hlv
          have hd51 : decide (cf x51 y51 < 0) = false := decide_eq_false hv51
          have HL2 : Aside (∀ t, s0 ≤ t → t < h + 1 → lt' d[n1 - t]! d[t]! = false) := fun t h1 h2 => by
            rw [hx0, HQ.out] at hlv
            exact half_lo hO HM.out (by omega) (by omega : t ≤ h) (by omega) (by omega) (by omega) hlv
          clear hx51 hy51 hlv hx0
          go_quiet_grown (first | (go_at_fn g; refine Calls.grown_of (hc51 _ _)))
          have S2 : Aside (SWK enc K3 w0 blk off d (grow (wr.drewN nq) osq)) := S1.out.grown nq osq
          clear l51a l51b hc51 S1
          generalize grow (wr.drewN nq) osq = w2 at S2 ⊢
          clear nq osq
          go_wp2
          go_roundg (r - (h + 1))
          case measure => omega
          case rel => exact ⟨h + 1, r, by go_num, rfl, by omega, by omega, hs3, Nat.le_refl _, HL2, HH, S2⟩
      · obtain rfl : s = r := by omega
        obtain ⟨e, he⟩ : ∃ e, e = nn - s := ⟨_, rfl⟩
        have hpe : Part lt' a s m e b d ∧ s + (e - m) = mid := by
          have hn1 := HN1.out
          have hnn := HNN.out
          have := part_of hO ham hmb HMD.out H0.out HM.out hs1 hs3 (fun t h1 h2 => by have := HL.out t h1 h2; rw [hn1, hnn] at this; exact this) (fun t h1 h2 => by have := HH.out t h1 h2; rw [hn1, hnn] at this; exact this)
          rw [he, hnn]
          exact this
        have HPT : Aside _ := hpe.1
        have HES : Aside _ := hpe.2
        have hes := hpe.2
        have hme := hpe.1.me
        have heb := hpe.1.eb
        have hsm := hpe.1.sm
        have has := hpe.1.as
        have we : IntKind.i64.wrap ((nn : Int) - (s : Int)) = (e : Int) := by rw [IntKind.wrap_i64]; omega
        clear hpe HL HH he wm wn wb wc wab wmm wn1 hn3 hn4 hsr hrm hrmid has0 hbs0 hnm hs1 hs2 hs3 hkx hqz
        clear H0 WNB HN1 HNN HMD HMID E20 E21 hlt
        by_cases c1 : s < m
        · have z1 : (s : Int) < (m : Int) := by omega
          by_cases c2 : m < e
          · have z2 : (m : Int) < (e : Int) := by omega
            have z3 : (s : Int) < (mid : Int) := by omega
            have z4 : (mid : Int) < (e : Int) := by omega
            by_cases c3 : a < s
            · have z5 : (a : Int) < (s : Int) := by omega
              by_cases c4 : e < b
              · have z6 : (e : Int) < (b : Int) := by omega
                go_wp2_with fail
                have HA := rotate_c enc g cb blk off cap s m e d0 d w0 wr R hs S1.out (by omega) (by omega) (by omega) hsz
                refine HA.mono ?_
                rintro e0 w1 ⟨rfl, d1, RT, P1, S3⟩
                have hd1 : d1.size = d.size := RT.1
                have S2 : Aside _ := S3
                clear S3 HA S1
                have PA : Aside (PermIn a b d d1) := permIn_mono _ _ _ _ _ _ (by omega) (by omega) hb P1
                have HCT : Aside (Cut lt' a mid b d1) := by have := HPT.out.cut hO HM.out RT; rw [HES.out] at this; exact this
                have HML : Aside (Mg (ltOf cf) lt' a s mid d1) := by have := HPT.out.left HM.out RT; rw [HES.out] at this; exact this
                have HMR : Aside (Mg (ltOf cf) lt' mid e b d1) := by have := HPT.out.right HM.out RT; rw [HES.out] at this; exact this
                clear RT
                go_wp2_with fail
                have HB := IH.out a s mid d1 w1 (by omega) S2.out (by omega) (by omega) (by omega) (by omega) (by omega) HML.out
                rw [hd1] at HB
                refine HB.mono ?_
                rintro e0 w2 ⟨rfl, d2, so2, p2, S4⟩
                have S5 : Aside _ := S4
                clear S4 HB S2
                have SO2 : Aside _ := so2
                have P2 : Aside _ := p2
                have hd2 : d2.size = d.size := p2.1.trans hd1
                have HMR2 : Aside (Mg (ltOf cf) lt' mid e b d2) := HMR.out.same (by omega) (by omega) (fun i h1 _ => P2.out.2.1 i (.inr h1))
                clear so2 p2
                go_wp2_with fail
                have HB := IH.out mid e b d2 w2 (by omega) S5.out (by omega) (by omega) (by omega) (by omega) (by omega) HMR2.out
                rw [hd2] at HB
                refine HB.mono ?_
                rintro e0 w3 ⟨rfl, d3, so3, p3, S7⟩
                have SO3 : Aside _ := so3
                have P3 : Aside _ := p3
                have S8 : Aside _ := S7
                clear S7 HB so3 p3
                go_wp2
                go_end0
                exact ⟨rfl, d3, merge_end (by omega) (by omega) HCT.out SO2.out P2.out SO3.out P3.out, permIn_trans _ _ _ _ _ PA.out (permIn_trans _ _ _ _ _ (permIn_mono _ _ _ _ _ _ (Nat.le_refl _) (by omega) (by omega) P2.out) (permIn_mono _ _ _ _ _ _ (by omega) (Nat.le_refl _) (by omega) P3.out)), S8.out⟩
              · have z6 : ¬ (e : Int) < (b : Int) := by omega
                have heq : Aside (e = b) := by show _ = _; omega
                go_wp2_with fail
                have HA := rotate_c enc g cb blk off cap s m e d0 d w0 wr R hs S1.out (by omega) (by omega) (by omega) hsz
                refine HA.mono ?_
                rintro e0 w1 ⟨rfl, d1, RT, P1, S3⟩
                have hd1 : d1.size = d.size := RT.1
                have S2 : Aside _ := S3
                clear S3 HA S1
                have PA : Aside (PermIn a b d d1) := permIn_mono _ _ _ _ _ _ (by omega) (by omega) hb P1
                have HCT : Aside (Cut lt' a mid b d1) := by have := HPT.out.cut hO HM.out RT; rw [HES.out] at this; exact this
                have HML : Aside (Mg (ltOf cf) lt' a s mid d1) := by have := HPT.out.left HM.out RT; rw [HES.out] at this; exact this
                have HMR : Aside (Mg (ltOf cf) lt' mid e b d1) := by have := HPT.out.right HM.out RT; rw [HES.out] at this; exact this
                clear RT
                go_wp2_with fail
                have HB := IH.out a s mid d1 w1 (by omega) S2.out (by omega) (by omega) (by omega) (by omega) (by omega) HML.out
                rw [hd1] at HB
                refine HB.mono ?_
                rintro e0 w2 ⟨rfl, d2, so2, p2, S4⟩
                have S5 : Aside _ := S4
                clear S4 HB S2
                have SO2 : Aside _ := so2
                have P2 : Aside _ := p2
                have hd2 : d2.size = d.size := p2.1.trans hd1
                have HMR2 : Aside (Mg (ltOf cf) lt' mid e b d2) := HMR.out.same (by omega) (by omega) (fun i h1 _ => P2.out.2.1 i (.inr h1))
                clear so2 p2
                have SO3 : Aside (SortedIn lt' mid b d2) := by have := HMR2.out.l; rw [heq.out] at this; exact this
                have P3 : Aside (PermIn mid b d2 d2) := permIn_refl _ _ _
                have S8 : Aside _ := S5.out
                go_wp2
                go_end0
                exact ⟨rfl, d2, merge_end (by omega) (by omega) HCT.out SO2.out P2.out SO3.out (permIn_refl _ _ _), permIn_trans _ _ _ _ _ PA.out (permIn_trans _ _ _ _ _ (permIn_mono _ _ _ _ _ _ (Nat.le_refl _) (by omega) (by omega) P2.out) (permIn_mono _ _ _ _ _ _ (by omega) (Nat.le_refl _) (by omega) (permIn_refl _ _ _))), S8.out⟩
            · have z5 : ¬ (a : Int) < (s : Int) := by omega
              have hseq : Aside (s = a) := by show _ = _; omega
              by_cases c4 : e < b
              · have z6 : (e : Int) < (b : Int) := by omega
                go_wp2_with fail
                have HA := rotate_c enc g cb blk off cap s m e d0 d w0 wr R hs S1.out (by omega) (by omega) (by omega) hsz
                refine HA.mono ?_
                rintro e0 w1 ⟨rfl, d1, RT, P1, S3⟩
                have hd1 : d1.size = d.size := RT.1
                have S2 : Aside _ := S3
                clear S3 HA S1
                have PA : Aside (PermIn a b d d1) := permIn_mono _ _ _ _ _ _ (by omega) (by omega) hb P1
                have HCT : Aside (Cut lt' a mid b d1) := by have := HPT.out.cut hO HM.out RT; rw [HES.out] at this; exact this
                have HML : Aside (Mg (ltOf cf) lt' a s mid d1) := by have := HPT.out.left HM.out RT; rw [HES.out] at this; exact this
                have HMR : Aside (Mg (ltOf cf) lt' mid e b d1) := by have := HPT.out.right HM.out RT; rw [HES.out] at this; exact this
                clear RT
                have so2 : SortedIn lt' a mid d1 := by have := HML.out.r; rw [hseq.out] at this; exact this
                have p2 : PermIn a mid d1 d1 := permIn_refl _ _ _
                have SO2 : Aside _ := so2
                have P2 : Aside _ := p2
                have hd2 : d1.size = d.size := p2.1.trans hd1
                have HMR2 : Aside (Mg (ltOf cf) lt' mid e b d1) := HMR.out.same (by omega) (by omega) (fun i h1 _ => P2.out.2.1 i (.inr h1))
                clear so2 p2
                go_wp2_with fail
                have HB := IH.out mid e b d1 w1 (by omega) S2.out (by omega) (by omega) (by omega) (by omega) (by omega) HMR2.out
                rw [hd2] at HB
                refine HB.mono ?_
                rintro e0 w3 ⟨rfl, d3, so3, p3, S7⟩
                have SO3 : Aside _ := so3
                have P3 : Aside _ := p3
                have S8 : Aside _ := S7
                clear S7 HB so3 p3
                go_wp2
                go_end0
                exact ⟨rfl, d3, merge_end (by omega) (by omega) HCT.out SO2.out (permIn_refl _ _ _) SO3.out P3.out, permIn_trans _ _ _ _ _ PA.out (permIn_trans _ _ _ _ _ (permIn_mono _ _ _ _ _ _ (Nat.le_refl _) (by omega) (by omega) (permIn_refl _ _ _)) (permIn_mono _ _ _ _ _ _ (by omega) (Nat.le_refl _) (by omega) P3.out)), S8.out⟩
              · have z6 : ¬ (e : Int) < (b : Int) := by omega
                have heq : Aside (e = b) := by show _ = _; omega
                go_wp2_with fail
                have HA := rotate_c enc g cb blk off cap s m e d0 d w0 wr R hs S1.out (by omega) (by omega) (by omega) hsz
                refine HA.mono ?_
                rintro e0 w1 ⟨rfl, d1, RT, P1, S3⟩
                have hd1 : d1.size = d.size := RT.1
                have S2 : Aside _ := S3
                clear S3 HA S1
                have PA : Aside (PermIn a b d d1) := permIn_mono _ _ _ _ _ _ (by omega) (by omega) hb P1
                have HCT : Aside (Cut lt' a mid b d1) := by have := HPT.out.cut hO HM.out RT; rw [HES.out] at this; exact this
                have HML : Aside (Mg (ltOf cf) lt' a s mid d1) := by have := HPT.out.left HM.out RT; rw [HES.out] at this; exact this
                have HMR : Aside (Mg (ltOf cf) lt' mid e b d1) := by have := HPT.out.right HM.out RT; rw [HES.out] at this; exact this
                clear RT
                have so2 : SortedIn lt' a mid d1 := by have := HML.out.r; rw [hseq.out] at this; exact this
                have p2 : PermIn a mid d1 d1 := permIn_refl _ _ _
                have SO2 : Aside _ := so2
                have P2 : Aside _ := p2
                have hd2 : d1.size = d.size := p2.1.trans hd1
                have HMR2 : Aside (Mg (ltOf cf) lt' mid e b d1) := HMR.out.same (by omega) (by omega) (fun i h1 _ => P2.out.2.1 i (.inr h1))
                clear so2 p2
                have SO3 : Aside (SortedIn lt' mid b d1) := by have := HMR2.out.l; rw [heq.out] at this; exact this
                have P3 : Aside (PermIn mid b d1 d1) := permIn_refl _ _ _
                have S8 : Aside _ := S2.out
                go_wp2
                go_end0
                exact ⟨rfl, d1, merge_end (by omega) (by omega) HCT.out SO2.out (permIn_refl _ _ _) SO3.out (permIn_refl _ _ _), permIn_trans _ _ _ _ _ PA.out (permIn_trans _ _ _ _ _ (permIn_mono _ _ _ _ _ _ (Nat.le_refl _) (by omega) (by omega) (permIn_refl _ _ _)) (permIn_mono _ _ _ _ _ _ (by omega) (Nat.le_refl _) (by omega) (permIn_refl _ _ _))), S8.out⟩
          · have z2 : ¬ (m : Int) < (e : Int) := by omega
            have hem : Aside (e = m) := by show _ = _; omega
            have hsmid : Aside (s = mid) := by show _ = _; omega
            have z3 : ¬ (s : Int) < (mid : Int) := by omega
            have z5 : (a : Int) < (s : Int) := by omega
            have z4 : (mid : Int) < (e : Int) := by omega
            have z6 : (e : Int) < (b : Int) := by omega
            have RT : Rot d d s m e := by rw [hem.out]; exact Rot.triv_r _ _ _
            have hd1 : d.size = d.size := rfl
            have PA : Aside (PermIn a b d d) := permIn_refl _ _ _
            have HCT : Aside (Cut lt' a mid b d) := by have := HPT.out.cut hO HM.out RT; rw [HES.out] at this; exact this
            have HML : Aside (Mg (ltOf cf) lt' a s mid d) := by have := HPT.out.left HM.out RT; rw [HES.out] at this; exact this
            have HMR : Aside (Mg (ltOf cf) lt' mid e b d) := by have := HPT.out.right HM.out RT; rw [HES.out] at this; exact this
            clear RT
            have so2 : SortedIn lt' a mid d := by have := HML.out.l; rw [hsmid.out] at this; exact this
            have p2 : PermIn a mid d d := permIn_refl _ _ _
            have SO2 : Aside _ := so2
            have P2 : Aside _ := p2
            have hd2 : d.size = d.size := rfl
            have HMR2 : Aside (Mg (ltOf cf) lt' mid e b d) := HMR.out.same (by omega) (by omega) (fun i h1 _ => P2.out.2.1 i (.inr h1))
            clear so2 p2
            go_wp2_with fail
            have HB := IH.out mid e b d wr (by omega) S1.out (by omega) (by omega) (by omega) (by omega) (by omega) HMR2.out
            skip
            refine HB.mono ?_
            rintro e0 w3 ⟨rfl, d3, so3, p3, S7⟩
            have SO3 : Aside _ := so3
            have P3 : Aside _ := p3
            have S8 : Aside _ := S7
            clear S7 HB so3 p3
            go_wp2
            go_end0
            exact ⟨rfl, d3, merge_end (by omega) (by omega) HCT.out SO2.out (permIn_refl _ _ _) SO3.out P3.out, permIn_trans _ _ _ _ _ (permIn_refl _ _ _) (permIn_trans _ _ _ _ _ (permIn_mono _ _ _ _ _ _ (Nat.le_refl _) (by omega) (by omega) (permIn_refl _ _ _)) (permIn_mono _ _ _ _ _ _ (by omega) (Nat.le_refl _) (by omega) P3.out)), S8.out⟩
        · have z1 : ¬ (s : Int) < (m : Int) := by omega
          have hsme : Aside (s = m) := by show _ = _; omega
          have hemid : Aside (e = mid) := by show _ = _; omega
          have z4 : ¬ (mid : Int) < (e : Int) := by omega
          have z5 : (a : Int) < (s : Int) := by omega
          by_cases c2 : s < mid
          · have z3 : (s : Int) < (mid : Int) := by omega
            have RT : Rot d d s m e := by rw [hsme.out]; exact Rot.triv_l _ hme
            have hd1 : d.size = d.size := rfl
            have PA : Aside (PermIn a b d d) := permIn_refl _ _ _
            have HCT : Aside (Cut lt' a mid b d) := by have := HPT.out.cut hO HM.out RT; rw [HES.out] at this; exact this
            have HML : Aside (Mg (ltOf cf) lt' a s mid d) := by have := HPT.out.left HM.out RT; rw [HES.out] at this; exact this
            have HMR : Aside (Mg (ltOf cf) lt' mid e b d) := by have := HPT.out.right HM.out RT; rw [HES.out] at this; exact this
            clear RT
            go_wp2_with fail
            have HB := IH.out a s mid d wr (by omega) S1.out (by omega) (by omega) (by omega) (by omega) (by omega) HML.out
            skip
            refine HB.mono ?_
            rintro e0 w2 ⟨rfl, d2, so2, p2, S4⟩
            have S5 : Aside _ := S4
            clear S4 HB S1
            have SO2 : Aside _ := so2
            have P2 : Aside _ := p2
            have hd2 : d2.size = d.size := p2.1
            have HMR2 : Aside (Mg (ltOf cf) lt' mid e b d2) := HMR.out.same (by omega) (by omega) (fun i h1 _ => P2.out.2.1 i (.inr h1))
            clear so2 p2
            have SO3 : Aside (SortedIn lt' mid b d2) := by have := HMR2.out.r; rw [hemid.out] at this; exact this
            have P3 : Aside (PermIn mid b d2 d2) := permIn_refl _ _ _
            have S8 : Aside _ := S5.out
            go_wp2
            go_end0
            exact ⟨rfl, d2, merge_end (by omega) (by omega) HCT.out SO2.out P2.out SO3.out (permIn_refl _ _ _), permIn_trans _ _ _ _ _ (permIn_refl _ _ _) (permIn_trans _ _ _ _ _ (permIn_mono _ _ _ _ _ _ (Nat.le_refl _) (by omega) (by omega) P2.out) (permIn_mono _ _ _ _ _ _ (by omega) (Nat.le_refl _) (by omega) (permIn_refl _ _ _))), S8.out⟩
          · have z3 : ¬ (s : Int) < (mid : Int) := by omega
            have hsmid : Aside (s = mid) := by show _ = _; omega
            have RT : Rot d d s m e := by rw [hsme.out]; exact Rot.triv_l _ hme
            have hd1 : d.size = d.size := rfl
            have PA : Aside (PermIn a b d d) := permIn_refl _ _ _
            have HCT : Aside (Cut lt' a mid b d) := by have := HPT.out.cut hO HM.out RT; rw [HES.out] at this; exact this
            have HML : Aside (Mg (ltOf cf) lt' a s mid d) := by have := HPT.out.left HM.out RT; rw [HES.out] at this; exact this
            have HMR : Aside (Mg (ltOf cf) lt' mid e b d) := by have := HPT.out.right HM.out RT; rw [HES.out] at this; exact this
            clear RT
            have so2 : SortedIn lt' a mid d := by have := HML.out.l; rw [hsmid.out] at this; exact this
            have p2 : PermIn a mid d d := permIn_refl _ _ _
            have SO2 : Aside _ := so2
            have P2 : Aside _ := p2
            have hd2 : d.size = d.size := rfl
            have HMR2 : Aside (Mg (ltOf cf) lt' mid e b d) := HMR.out.same (by omega) (by omega) (fun i h1 _ => P2.out.2.1 i (.inr h1))
            clear so2 p2
            have SO3 : Aside (SortedIn lt' mid b d) := by have := HMR2.out.r; rw [hemid.out] at this; exact this
            have P3 : Aside (PermIn mid b d d) := permIn_refl _ _ _
            have S8 : Aside _ := S1.out
            go_wp2
            go_end0
            exact ⟨rfl, d, merge_end (by omega) (by omega) HCT.out SO2.out (permIn_refl _ _ _) SO3.out (permIn_refl _ _ _), permIn_trans _ _ _ _ _ (permIn_refl _ _ _) (permIn_trans _ _ _ _ _ (permIn_mono _ _ _ _ _ _ (Nat.le_refl _) (by omega) (by omega) (permIn_refl _ _ _)) (permIn_mono _ _ _ _ _ _ (by omega) (Nat.le_refl _) (by omega) (permIn_refl _ _ _))), S8.out⟩
  · have := HMD.out; omega
end Go.Proofs.YtkifmhfgplhabaaDoor.HS
