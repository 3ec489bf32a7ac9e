/-
  CONTRACTS BY HAND (the stable sort, 4): two sorted runs of askers merged in place.
-/
import Derived.Test.YtkifmhfgplhabaaDoorSrC
import Derived.Shelf.SlSortCmp.QuietGrown
namespace Go.Proofs.YtkifmhfgplhabaaDoor.HS
open Go.Proofs Go.Shelf Go.RowKit Go.Lib Go.Sort
set_option linter.unusedVariables false
set_option linter.unusedSimpArgs false
set_option linter.unusedSectionVars false
variable {α : Type} [Inhabited α]
attribute [local go_sem high] sizeK
/-- the middle, as the code reckons it -/
theorem half_w {x y : Nat} (h : x + y < 9223372036854775808) : IntKind.i64.wrap ((x : Int) + (y : Int)) = ((x + y : Nat) : Int) := by rw [IntKind.wrap_i64]; omega
set_option maxHeartbeats 8000000 in
set_option maxRecDepth 1000000 in
theorem merge_l {enc : α → List Value} {cf : α → α → Int} {lt' : α → α → Bool} (hO : SWO lt') (g : Nat) (cb : Array Value) (blk off cap : Nat) (d0 : Array α) (w0 : World)
    (eg : ∀ args w, (callFunc g args).run Tryd.prog w = .ok (.enter g args) w) (hC : CmpLays Tryd.prog g cb enc K3 cf blk off d0.size w0) (R : RowK enc K3 w0 blk off d0) (a b : Nat) (d : Array α) (w : World) (hs : d0.size = d.size) (S : SWK enc K3 w0 blk off d w) (hab : a + 1 < b) (hb : b ≤ d.size) (hsz : d.size < 4611686018427387904) (hM : Mg (ltOf cf) lt' a (a + 1) b d) :
    Calls Tryd.prog 43 #[.slice (some ⟨blk, off, none⟩) d.size cap, .int .i64 a, .int .i64 ((a + 1 : Nat) : Int), .int .i64 b, .func (.func g) #[] cb] w fun e w' => e = .returned (.tuple #[]) ∧ ∃ d', SortedIn lt' a b d' ∧ PermIn a b d d' ∧ SWK enc K3 w0 blk off d' w' := by
  have mixed : Tryd.prog.follows .mixedOrders = true := by kernel_rfl
  have aE := Tryd.isAgg67
  have zE := sizeK
  have S0 : Aside (SWK enc K3 w0 blk off d w) := S
  have HC : Aside _ := hC
  have HM : Aside _ := hM
  clear S hC hM
  have wm : IntKind.i64.wrap (((a + 1 : Nat) : Int) - (a : Int)) = 1 := by rw [IntKind.wrap_i64]; omega
  obtain ⟨m, hm⟩ : ∃ m, m = a + 1 := ⟨_, rfl⟩
  rw [← hm] at wm ⊢
  have HM1 : Aside (m = a + 1) := hm
  have hma : a < m := by omega
  have hmb : m < b := by omega
  clear hm hab
  go_enter Tryd.func43, Tryd.ntmps43
  go_wp2
  go_loopg [10, 11] (b - m) (fun kx s10 s11 wr => ∃ (i j : Nat), s10 = .int .i64 i ∧ s11 = .int .i64 j ∧ m ≤ i ∧ i ≤ j ∧ j ≤ b ∧ j - i ≤ kx ∧ Aside (∀ h, m ≤ h → h < i → lt' d[h]! d[a]! = true) ∧ Aside (∀ h, j ≤ h → h < b → lt' d[h]! d[a]! = false) ∧ Aside (SWK enc K3 w0 blk off d wr))
  case atStart => exact ⟨m, b, rfl, rfl, by omega, by omega, by omega, by omega, (fun h h1 h2 => by omega), (fun h h1 h2 => by omega), S0⟩
  case round =>
    clear S0
    obtain ⟨i, j, rfl, rfl, hmi, hij, hjb, hkx, HL, HH, S1⟩ := hrel
    by_cases hlt : i < j
    · have hlz : (i : Int) < (j : Int) := by omega
      have whf := half_w (show i + j < 9223372036854775808 by omega)
      obtain ⟨h, hh⟩ : ∃ h : Nat, (h : Int) = ((i : Int) + (j : Int)) / 2 := ⟨(i + j) / 2, by omega⟩
      have hih : i ≤ h := by omega
      have hhj : h < j := by omega
      have hh1 : IntKind.i64.wrap ((h : Int) + 1) = (h : Int) + 1 := by rw [IntKind.wrap_i64]; omega
      have HHH : Aside ((h : Int) = ((i : Int) + (j : Int)) / 2) := hh
      clear hh
      have hx0 := HM.out.x a h (Nat.le_refl _) (by omega) (by have := HM1.out; omega) (by omega)
      go_wp2_with fail
      rw [← HHH.out]
      have ea51 : ((h : Nat) : Int).toNat = h := by omega
      have pa51 : (0 : Int) ≤ ((h : Nat) : Int) := by omega
      have ba51 : ((h : Nat) : Int) < (d.size : Int) := by omega
      have ra51 : IntKind.i64.wrap ((h : Nat) : Int) = ((h : Nat) : Int) := by rw [IntKind.wrap_i64]; omega
      have ec51 : ((a : Nat) : Int).toNat = a := by omega
      have pc51 : (0 : Int) ≤ ((a : Nat) : Int) := by omega
      have bc51 : ((a : Nat) : Int) < (d.size : Int) := by omega
      have rc51 : IntKind.i64.wrap ((a : Nat) : Int) = ((a : Nat) : Int) := by rw [IntKind.wrap_i64]; omega
      obtain ⟨x51, hx51⟩ : ∃ x, x = d[h]! := ⟨_, rfl⟩
      obtain ⟨y51, hy51⟩ : ∃ x, x = d[a]! := ⟨_, rfl⟩
      have l51a := S1.out.ld R (by omega) Tryd.prog (h) (by omega)
      have l51b := S1.out.ld R (by omega) Tryd.prog (a) (by omega)
      rw [← hx51] at l51a
      rw [← hy51] at l51b
      have hc51 := S1.out.cmp HC.out (by omega) x51 y51
      cases hlv : ltOf cf d[h]! d[a]! with
      | true =>
        have hv51 : cf x51 y51 < 0 := by rw [hx51, hy51]; exact of_decide_eq_true hlv
        have hd51 : decide (cf x51 y51 < 0) = true := decide_eq_true hv51
        have HL2 : Aside (∀ t, m ≤ t → t < h + 1 → lt' d[t]! d[a]! = true) := fun t h1 h2 => by
          rw [hx0] at hlv
          exact lt_of_le_lt hO (SortedIn.le hO HM.out.r (by have := HM1.out; omega) (by omega : t ≤ h) (by omega)) hlv
        clear hx51 hy51 hlv hx0
        go_quiet_grown (first | (go_at_fn g; refine Calls.grown_of (hc51 _ _)))
        have S2 : Aside (SWK enc K3 w0 blk off d (grow (wr.drewN nq) osq)) := S1.out.grown nq osq
        clear l51a l51b hc51 S1
        generalize grow (wr.drewN nq) osq = w2 at S2 ⊢
        clear nq osq
        go_wp2
        go_roundg (j - (h + 1))
        case measure => omega
        case rel => exact ⟨h + 1, j, by go_num, rfl, by omega, by omega, hjb, Nat.le_refl _, HL2, HH, S2⟩
      | false =>
        have hv51 : ¬ cf x51 y51 < 0 := by rw [hx51, hy51]; exact of_decide_eq_false hlv
        have hd51 : decide (cf x51 y51 < 0) = false := decide_eq_false hv51
        have HH2 : Aside (∀ t, h ≤ t → t < b → lt' d[t]! d[a]! = false) := fun t h1 h2 => by
          rw [hx0] at hlv
          exact le_trans_ hO hlv (SortedIn.le hO HM.out.r (by have := HM1.out; omega) h1 h2)
        clear hx51 hy51 hlv hx0
        go_quiet_grown (first | (go_at_fn g; refine Calls.grown_of (hc51 _ _)))
        have S2 : Aside (SWK enc K3 w0 blk off d (grow (wr.drewN nq) osq)) := S1.out.grown nq osq
        clear l51a l51b hc51 S1
        generalize grow (wr.drewN nq) osq = w2 at S2 ⊢
        clear nq osq
        go_wp2
        go_roundg (h - i)
        case measure => omega
        case rel => exact ⟨i, h, rfl, rfl, hmi, hih, by omega, Nat.le_refl _, HL, HH2, S2⟩
    · obtain rfl : i = j := by omega
      have wi1 : IntKind.i64.wrap ((i : Int) - 1) = (i : Int) - 1 := by rw [IntKind.wrap_i64]; omega
      go_wp2
      go_loopg [13] (i - 1 - a) (fun kx s13 wr => ∃ (k : Nat) (dk : Array α), s13 = .int .i64 k ∧ a ≤ k ∧ k + 1 ≤ i ∧ i - 1 - k ≤ kx ∧ dk.size = d.size ∧ Aside (Rot d dk a (a + 1) (k + 1)) ∧ Aside (PermIn a b d dk) ∧ Aside (SWK enc K3 w0 blk off dk wr))
      case atStart => exact ⟨a, d, rfl, by omega, by omega, by omega, rfl, Rot.triv_r _ _ _, permIn_refl _ _ _, S1⟩
      case round =>
        clear S1
        obtain ⟨k, dk, rfl, hak, hki, hkx2, hds, HRT, HP, S1⟩ := hrel
        by_cases hlt2 : k + 1 < i
        · have hlz2 : (k : Int) < (i : Int) - 1 := by omega
          have wk1 : IntKind.i64.wrap ((k : Int) + 1) = ((k + 1 : Nat) : Int) := by rw [IntKind.wrap_i64]; omega
          have wk2 : ((k + 1 : Nat) : Int) = (k : Int) + 1 := by omega
          have ea70 : ((k : Nat) : Int).toNat = k := by omega
          have pa70 : (0 : Int) ≤ ((k : Nat) : Int) := by omega
          have ba70 : ((k : Nat) : Int) < (d.size : Int) := by omega
          have ra70 : IntKind.i64.wrap ((k : Nat) : Int) = ((k : Nat) : Int) := by rw [IntKind.wrap_i64]; omega
          have ec70 : ((k + 1 : Nat) : Int).toNat = k + 1 := by omega
          have pc70 : (0 : Int) ≤ ((k + 1 : Nat) : Int) := by omega
          have bc70 : ((k + 1 : Nat) : Int) < (d.size : Int) := by omega
          have rc70 : IntKind.i64.wrap ((k + 1 : Nat) : Int) = ((k + 1 : Nat) : Int) := by rw [IntKind.wrap_i64]; omega
          have S2 : Aside (SWK enc K3 w0 blk off (swp dk (k) (k + 1)) ((wr.drew.setCells blk (off + (k) * K3) (enc dk[k + 1]!)).setCells blk (off + (k + 1) * K3) (enc dk[k]!))) := S1.out.swapped R (k) (k + 1) (by omega) (by omega)
          have l70a := S1.out.ld1 R (by omega) Tryd.prog (k) (by omega)
          have l70b := S1.out.ld1 R (by omega) Tryd.prog (k + 1) (by omega)
          have s70a := S1.out.st1 R (by omega) Tryd.prog (k) (by omega) dk[k + 1]!
          have s70b := S1.out.st2 R (by omega) Tryd.prog (k) (k + 1) (by omega) (by omega) dk[k + 1]! dk[k]!
          have n70a : (enc dk[k]!).length = K3 := R.hk _
          have n70b : (enc dk[k + 1]!).length = K3 := R.hk _
          have HRT2 : Aside (Rot d (swp dk k (k + 1)) a (a + 1) (k + 2)) := Rot.up hak (by omega) HRT.out
          have HP2 : Aside (PermIn a b d (swp dk k (k + 1))) := permIn_trans _ _ _ _ _ HP.out (swp_permIn _ _ _ _ _ (by omega) (by omega) (by omega) (by omega) (by omega))
          have hds2 : (swp dk k (k + 1)).size = d.size := (swp_size _ _ _).trans hds
          generalize swp dk k (k + 1) = dk2 at S2 HRT2 HP2 hds2
          generalize enc dk[k]! = cI70 at S2 l70a s70b n70a
          generalize enc dk[k + 1]! = cJ70 at S2 l70b s70a s70b n70b
          clear S1
          go_wp2_with fail
          go_big_region_o
          clear l70a l70b s70a s70b
          generalize (wr.drew.setCells blk (off + (k) * K3) cJ70).setCells blk (off + (k + 1) * K3) cI70 = w2 at S2 ⊢
          go_wp2
          go_roundg (i - 1 - (k + 1))
          case measure => omega
          case rel => exact ⟨k + 1, dk2, by go_num, by omega, by omega, Nat.le_refl _, hds2, HRT2, HP2, S2⟩
        · obtain rfl : i = k + 1 := by omega
          have hlz2 : ¬ (k : Int) < ((k + 1 : Nat) : Int) - 1 := by omega
          go_wp2
          (try simp only [Exit.inBlock, Exit.then])
          refine bodyPost_ret (results_none rfl _ _ _) rfl ?_
          have hm := HM1.out
          exact ⟨rfl, dk, one_l hO (by omega) hjb HM.out (fun h h1 h2 => HL.out h (by omega) h2) HH.out HRT.out, HP.out, S1.out⟩
set_option maxHeartbeats 8000000 in
set_option maxRecDepth 1000000 in
theorem merge_r {enc : α → List Value} {cf : α → α → Int} {lt' : α → α → Bool} (hO : SWO lt') (g : Nat) (cb : Array Value) (blk off cap : Nat) (d0 : Array α) (w0 : World)
    (eg : ∀ args w, (callFunc g args).run Tryd.prog w = .ok (.enter g args) w) (hC : CmpLays Tryd.prog g cb enc K3 cf blk off d0.size w0) (R : RowK enc K3 w0 blk off d0) (a m : Nat) (d : Array α) (w : World) (hs : d0.size = d.size) (S : SWK enc K3 w0 blk off d w) (ham : a + 1 < m) (hb : m + 1 ≤ d.size) (hsz : d.size < 4611686018427387904) (hM : Mg (ltOf cf) lt' a m (m + 1) d) :
    Calls Tryd.prog 43 #[.slice (some ⟨blk, off, none⟩) d.size cap, .int .i64 a, .int .i64 m, .int .i64 ((m + 1 : Nat) : Int), .func (.func g) #[] cb] w fun e w' => e = .returned (.tuple #[]) ∧ ∃ d', SortedIn lt' a (m + 1) d' ∧ PermIn a (m + 1) d d' ∧ SWK enc K3 w0 blk off d' w' := by
  have mixed : Tryd.prog.follows .mixedOrders = true := by kernel_rfl
  have aE := Tryd.isAgg67
  have zE := sizeK
  have S0 : Aside (SWK enc K3 w0 blk off d w) := S
  have HC : Aside _ := hC
  have HM : Aside _ := hM
  clear S hC hM
  have wm : IntKind.i64.wrap ((m : Int) - (a : Int)) = (m : Int) - (a : Int) := by rw [IntKind.wrap_i64]; omega
  have wn : (((m : Int) - (a : Int)) == 1) = false := beq_eq_false_iff_ne.2 (by omega)
  have wb : IntKind.i64.wrap (((m + 1 : Nat) : Int) - (m : Int)) = 1 := by rw [IntKind.wrap_i64]; omega
  obtain ⟨b, hm⟩ : ∃ b, b = m + 1 := ⟨_, rfl⟩
  rw [← hm] at wb ⊢
  have HM1 : Aside (b = m + 1) := hm
  have hma : a < m := by omega
  have hmb : m < b := by omega
  have hbs : b ≤ d.size := by omega
  clear hm
  go_enter Tryd.func43, Tryd.ntmps43
  go_wp2
  go_loopg [14, 15] (m - a) (fun kx s10 s11 wr => ∃ (i j : Nat), s10 = .int .i64 i ∧ s11 = .int .i64 j ∧ a ≤ i ∧ i ≤ j ∧ j ≤ m ∧ j - i ≤ kx ∧ Aside (∀ h, a ≤ h → h < i → lt' d[m]! d[h]! = false) ∧ Aside (∀ h, j ≤ h → h < m → lt' d[m]! d[h]! = true) ∧ Aside (SWK enc K3 w0 blk off d wr))
  case atStart => exact ⟨a, m, rfl, rfl, by omega, by omega, by omega, by omega, (fun h h1 h2 => by omega), (fun h h1 h2 => by omega), S0⟩
  case round =>
    clear S0
    obtain ⟨i, j, rfl, rfl, hmi, hij, hjb, hkx, HL, HH, S1⟩ := hrel
    by_cases hlt : i < j
    · have hlz : (i : Int) < (j : Int) := by omega
      have whf := half_w (show i + j < 9223372036854775808 by omega)
      obtain ⟨h, hh⟩ : ∃ h : Nat, (h : Int) = ((i : Int) + (j : Int)) / 2 := ⟨(i + j) / 2, by omega⟩
      have hih : i ≤ h := by omega
      have hhj : h < j := by omega
      have hh1 : IntKind.i64.wrap ((h : Int) + 1) = (h : Int) + 1 := by rw [IntKind.wrap_i64]; omega
      have HHH : Aside ((h : Int) = ((i : Int) + (j : Int)) / 2) := hh
      clear hh
      have hx0 := HM.out.x h m (by omega) (by omega) (Nat.le_refl _) (by omega)
      go_wp2_with fail
      rw [← HHH.out]
      have ea51 : ((m : Nat) : Int).toNat = m := by omega
      have pa51 : (0 : Int) ≤ ((m : Nat) : Int) := by omega
      have ba51 : ((m : Nat) : Int) < (d.size : Int) := by omega
      have ra51 : IntKind.i64.wrap ((m : Nat) : Int) = ((m : Nat) : Int) := by rw [IntKind.wrap_i64]; omega
      have ec51 : ((h : Nat) : Int).toNat = h := by omega
      have pc51 : (0 : Int) ≤ ((h : Nat) : Int) := by omega
      have bc51 : ((h : Nat) : Int) < (d.size : Int) := by omega
      have rc51 : IntKind.i64.wrap ((h : Nat) : Int) = ((h : Nat) : Int) := by rw [IntKind.wrap_i64]; omega
      obtain ⟨x51, hx51⟩ : ∃ x, x = d[m]! := ⟨_, rfl⟩
      obtain ⟨y51, hy51⟩ : ∃ x, x = d[h]! := ⟨_, rfl⟩
      have l51a := S1.out.ld R (by omega) Tryd.prog (m) (by omega)
      have l51b := S1.out.ld R (by omega) Tryd.prog (h) (by omega)
      rw [← hx51] at l51a
      rw [← hy51] at l51b
      have hc51 := S1.out.cmp HC.out (by omega) x51 y51
      cases hlv : ltOf cf d[m]! d[h]! with
      | true =>
        have hv51 : cf x51 y51 < 0 := by rw [hx51, hy51]; exact of_decide_eq_true hlv
        have hd51 : decide (cf x51 y51 < 0) = true := decide_eq_true hv51
        have HH2 : Aside (∀ t, h ≤ t → t < m → lt' d[m]! d[t]! = true) := fun t h1 h2 => by
          rw [hx0] at hlv
          exact lt_of_lt_le hO hlv (SortedIn.le hO HM.out.l (by omega) h1 h2)
        clear hx51 hy51 hlv hx0
        go_quiet_grown (first | (go_at_fn g; refine Calls.grown_of (hc51 _ _)))
        have S2 : Aside (SWK enc K3 w0 blk off d (grow (wr.drewN nq) osq)) := S1.out.grown nq osq
        clear l51a l51b hc51 S1
        generalize grow (wr.drewN nq) osq = w2 at S2 ⊢
        clear nq osq
        go_wp2
        go_roundg (h - i)
        case measure => omega
        case rel => exact ⟨i, h, rfl, rfl, hmi, hih, by omega, Nat.le_refl _, HL, HH2, S2⟩
      | false =>
        have hv51 : ¬ cf x51 y51 < 0 := by rw [hx51, hy51]; exact of_decide_eq_false hlv
        have hd51 : decide (cf x51 y51 < 0) = false := decide_eq_false hv51
        have HL2 : Aside (∀ t, a ≤ t → t < h + 1 → lt' d[m]! d[t]! = false) := fun t h1 h2 => by
          rw [hx0] at hlv
          exact le_trans_ hO (SortedIn.le hO HM.out.l h1 (by omega : t ≤ h) (by omega)) hlv
        clear hx51 hy51 hlv hx0
        go_quiet_grown (first | (go_at_fn g; refine Calls.grown_of (hc51 _ _)))
        have S2 : Aside (SWK enc K3 w0 blk off d (grow (wr.drewN nq) osq)) := S1.out.grown nq osq
        clear l51a l51b hc51 S1
        generalize grow (wr.drewN nq) osq = w2 at S2 ⊢
        clear nq osq
        go_wp2
        go_roundg (j - (h + 1))
        case measure => omega
        case rel => exact ⟨h + 1, j, by go_num, rfl, by omega, by omega, hjb, Nat.le_refl _, HL2, HH, S2⟩
    · obtain rfl : i = j := by omega
      go_wp2
      go_loopg [17] (m - i) (fun kx s13 wr => ∃ (k : Nat) (dk : Array α), s13 = .int .i64 k ∧ i ≤ k ∧ k ≤ m ∧ k - i ≤ kx ∧ dk.size = d.size ∧ Aside (Rot d dk k m (m + 1)) ∧ Aside (PermIn a b d dk) ∧ Aside (SWK enc K3 w0 blk off dk wr))
      case atStart => exact ⟨m, d, rfl, by omega, by omega, by omega, rfl, Rot.triv_l _ (by omega), permIn_refl _ _ _, S1⟩
      case round =>
        clear S1
        obtain ⟨k1, dk, rfl, hak, hki, hkx2, hds, HRT, HP, S1⟩ := hrel
        by_cases hlt2 : i < k1
        · obtain ⟨k, rfl⟩ : ∃ k, k1 = k + 1 := ⟨k1 - 1, by omega⟩
          have hlz2 : (i : Int) < ((k + 1 : Nat) : Int) := by omega
          have hlz3 : (i : Int) < (k : Int) + 1 := by omega
          have wk1 : IntKind.i64.wrap (k : Int) = (k : Int) := by rw [IntKind.wrap_i64]; omega
          have wk2 : IntKind.i64.wrap (((k + 1 : Nat) : Int) - 1) = (k : Int) := by rw [IntKind.wrap_i64]; omega
          have wk3 : IntKind.i64.wrap ((k : Int) + 1 - 1) = (k : Int) := by rw [IntKind.wrap_i64]; omega
          have ea70 : ((k + 1 : Nat) : Int).toNat = k + 1 := by omega
          have pa70 : (0 : Int) ≤ ((k + 1 : Nat) : Int) := by omega
          have ba70 : ((k + 1 : Nat) : Int) < (d.size : Int) := by omega
          have ra70 : IntKind.i64.wrap ((k + 1 : Nat) : Int) = ((k + 1 : Nat) : Int) := by rw [IntKind.wrap_i64]; omega
          have ec70 : ((k : Nat) : Int).toNat = k := by omega
          have pc70 : (0 : Int) ≤ ((k : Nat) : Int) := by omega
          have bc70 : ((k : Nat) : Int) < (d.size : Int) := by omega
          have rc70 : IntKind.i64.wrap ((k : Nat) : Int) = ((k : Nat) : Int) := by rw [IntKind.wrap_i64]; omega
          have S2 : Aside (SWK enc K3 w0 blk off (swp dk (k + 1) (k)) ((wr.drew.setCells blk (off + (k + 1) * K3) (enc dk[k]!)).setCells blk (off + (k) * K3) (enc dk[k + 1]!))) := S1.out.swapped R (k + 1) (k) (by omega) (by omega)
          have l70a := S1.out.ld1 R (by omega) Tryd.prog (k + 1) (by omega)
          have l70b := S1.out.ld1 R (by omega) Tryd.prog (k) (by omega)
          have s70a := S1.out.st1 R (by omega) Tryd.prog (k + 1) (by omega) dk[k]!
          have s70b := S1.out.st2 R (by omega) Tryd.prog (k + 1) (k) (by omega) (by omega) dk[k]! dk[k + 1]!
          have n70a : (enc dk[k + 1]!).length = K3 := R.hk _
          have n70b : (enc dk[k]!).length = K3 := R.hk _
          have HRT2 : Aside (Rot d (swp dk (k + 1) k) k m (m + 1)) := Rot.down (by omega) (by omega) HRT.out
          have HP2 : Aside (PermIn a b d (swp dk (k + 1) k)) := permIn_trans _ _ _ _ _ HP.out (swp_permIn _ _ _ _ _ (by omega) (by omega) (by omega) (by omega) (by omega))
          have hds2 : (swp dk (k + 1) k).size = d.size := (swp_size _ _ _).trans hds
          generalize swp dk (k + 1) k = dk2 at S2 HRT2 HP2 hds2
          generalize enc dk[k + 1]! = cI70 at S2 l70a s70b n70a
          generalize enc dk[k]! = cJ70 at S2 l70b s70a s70b n70b
          clear S1
          go_wp2_with fail
          go_big_region_o
          clear l70a l70b s70a s70b
          generalize (wr.drew.setCells blk (off + (k + 1) * K3) cJ70).setCells blk (off + (k) * K3) cI70 = w2 at S2 ⊢
          go_wp2
          go_roundg (k - i)
          case measure => omega
          case rel => exact ⟨k, dk2, by go_num, by omega, by omega, Nat.le_refl _, hds2, HRT2, HP2, S2⟩
        · obtain rfl : k1 = i := by omega
          have hlz2 : ¬ (k1 : Int) < (k1 : Int) := by omega
          go_wp2
          (try simp only [Exit.inBlock, Exit.then])
          refine bodyPost_ret (results_none rfl _ _ _) rfl ?_
          exact ⟨rfl, dk, by rw [HM1.out]; exact one_r hO (by omega) hjb HM.out HL.out HH.out HRT.out, HP.out, S1.out⟩
end Go.Proofs.YtkifmhfgplhabaaDoor.HS
