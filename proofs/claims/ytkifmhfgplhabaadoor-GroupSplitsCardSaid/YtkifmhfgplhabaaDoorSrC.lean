/-
  CONTRACTS BY HAND (the stable sort, 3): rotations of a row of askers in memory.
-/
import Derived.Test.YtkifmhfgplhabaaDoorSrB
namespace Go.Proofs.YtkifmhfgplhabaaDoor.HS
open Go.Proofs Go.Shelf Go.RowKit Go.Lib Go.Sort
set_option linter.unusedVariables false
set_option linter.unusedSimpArgs false
set_option linter.unusedSectionVars false
variable {α : Type} [Inhabited α]
theorem SwR.perm {d d1 : Array α} {lo hi a b n : Nat} (h : PermIn a (b + n) d d1) (h1 : lo ≤ a) (h2 : b + n ≤ hi) (h3 : hi ≤ d.size) : PermIn lo hi d d1 := permIn_mono _ _ _ _ _ _ h1 h2 h3 h
set_option maxHeartbeats 4000000 in
set_option maxRecDepth 1000000 in
theorem rotate_c (enc : α → List Value) (g : Nat) (cb : Array Value) (blk off cap a m b : Nat) (d0 d : Array α) (w0 w : World)
    (R : RowK enc K3 w0 blk off d0) (hs : d0.size = d.size) (S : SWK enc K3 w0 blk off d w) (ham : a < m) (hmb : m < b) (hb : b ≤ d.size) (hsz : d.size < 4611686018427387904) :
    Calls Tryd.prog 45 #[.slice (some ⟨blk, off, none⟩) d.size cap, .int .i64 a, .int .i64 m, .int .i64 b, .func (.func g) #[] cb] w fun e w' => e = .returned (.tuple #[]) ∧ ∃ d', Rot d d' a m b ∧ PermIn a b d d' ∧ SWK enc K3 w0 blk off d' w' := by
  have S0 : Aside (SWK enc K3 w0 blk off d w) := S
  clear S
  have wi : IntKind.i64.wrap ((m : Int) - (a : Int)) = ((m - a : Nat) : Int) := by rw [IntKind.wrap_i64]; omega
  have wj : IntKind.i64.wrap ((b : Int) - (m : Int)) = ((b - m : Nat) : Int) := by rw [IntKind.wrap_i64]; omega
  go_enter Tryd.func45, Tryd.ntmps45
  go_wp2
  go_loopg [10, 11] (b - a) (fun kx s10 s11 wr => ∃ (i j : Nat) (dk : Array α), s10 = .int .i64 i ∧ s11 = .int .i64 j ∧ 0 < i ∧ 0 < j ∧ i + a ≤ m ∧ m + j ≤ b ∧ i + j ≤ kx ∧ dk.size = d.size ∧ Aside (∀ d', Rot dk d' (m - i) m (m + j) → Rot d d' a m b) ∧ Aside (PermIn a b d dk) ∧ Aside (SWK enc K3 w0 blk off dk wr))
  case atStart => exact ⟨m - a, b - m, d, by first | rfl | go_num, by first | rfl | go_num, by omega, by omega, by omega, by omega, by omega, rfl, (fun d' h => by rw [show m - (m - a) = a by omega, show m + (b - m) = b by omega] at h; exact h), permIn_refl _ _ _, S0⟩
  case round =>
    clear S0
    obtain ⟨i, j, dk, rfl, rfl, hi0, hj0, hia, hjb, hkx, hds, HR, HP, S1⟩ := hrel
    have wmi : IntKind.i64.wrap ((m : Int) - (i : Int)) = ((m - i : Nat) : Int) := by rw [IntKind.wrap_i64]; omega
    by_cases hij : i = j
    · subst hij
      go_wp2_with fail
      have HC := swapRange_c enc g cb blk off cap (m - i) m i d0 dk w0 wr R (by omega) S1.out (by omega) (by omega) (by omega)
      rw [hds] at HC
      refine HC.mono ?_
      rintro e w' ⟨rfl, d1, hw, hp, hS⟩
      go_wp2
      go_end0
      exact ⟨rfl, d1, HR.out d1 (Rot.eq (by omega) hw), permIn_trans _ _ _ _ _ HP.out (SwR.perm hp (by omega) (by omega) (by omega)), hS⟩
    · have hne : ((i : Int) == (j : Int)) = false := beq_eq_false_iff_ne.2 (fun h => hij (by omega))
      have hne' : ((i : Int) != (j : Int)) = true := by rw [bne, hne]; rfl
      by_cases hgt : j < i
      · have hgz : (j : Int) < (i : Int) := by omega
        have wij : IntKind.i64.wrap ((i : Int) - (j : Int)) = ((i - j : Nat) : Int) := by rw [IntKind.wrap_i64]; omega
        go_wp2_with fail
        have HC := swapRange_c enc g cb blk off cap (m - i) m j d0 dk w0 wr R (by omega) S1.out (by omega) (by omega) (by omega)
        rw [hds] at HC
        refine HC.mono ?_
        rintro e w' ⟨rfl, d1, hw, hp, hS⟩
        have HR1 : Aside (∀ d', Rot d1 d' (m - (i - j)) m (m + j) → Rot d d' a m b) := fun d' h => HR.out d' (Rot.gt (by omega) hj0 hgt hw h)
        have HP1 : Aside (PermIn a b d d1) := permIn_trans _ _ _ _ _ HP.out (SwR.perm hp (by omega) (by omega) (by omega))
        have hd1 : d1.size = d.size := hw.1.trans hds
        have HS1 : Aside (SWK enc K3 w0 blk off d1 w') := hS
        clear HR HP S1 hw hp hS HC
        go_wp2
        go_roundg (i - j + j)
        case measure => omega
        case rel => exact ⟨i - j, j, d1, rfl, rfl, by omega, hj0, by omega, hjb, Nat.le_refl _, hd1, HR1, HP1, HS1⟩
      · have hgz : ¬ (j : Int) < (i : Int) := by omega
        have wji : IntKind.i64.wrap ((j : Int) - (i : Int)) = ((j - i : Nat) : Int) := by rw [IntKind.wrap_i64]; omega
        have wmj : IntKind.i64.wrap ((m : Int) + (j : Int)) = ((m + j : Nat) : Int) := by rw [IntKind.wrap_i64]; omega
        have wmji : IntKind.i64.wrap (((m + j : Nat) : Int) - (i : Int)) = ((m + j - i : Nat) : Int) := by rw [IntKind.wrap_i64]; omega
        go_wp2_with fail
        have hq : ((m + j - i : Nat) : Int) = (m : Int) + (j : Int) - (i : Int) := by omega
        have HC := swapRange_c enc g cb blk off cap (m - i) (m + j - i) i d0 dk w0 wr R (by omega) S1.out (by omega) (by omega) (by omega)
        rw [hds, hq] at HC
        refine HC.mono ?_
        rintro e w' ⟨rfl, d1, hw, hp, hS⟩
        have HR1 : Aside (∀ d', Rot d1 d' (m - i) m (m + (j - i)) → Rot d d' a m b) := fun d' h => HR.out d' (Rot.lt (by omega) hi0 (by omega) hw h)
        have HP1 : Aside (PermIn a b d d1) := permIn_trans _ _ _ _ _ HP.out (SwR.perm hp (by omega) (by omega) (by omega))
        have hd1 : d1.size = d.size := hw.1.trans hds
        have HS1 : Aside (SWK enc K3 w0 blk off d1 w') := hS
        clear HR HP S1 hw hp hS HC
        go_wp2
        go_roundg (i + (j - i))
        case measure => omega
        case rel => exact ⟨i, j - i, d1, rfl, rfl, hi0, by omega, hia, by omega, Nat.le_refl _, hd1, HR1, HP1, HS1⟩
end Go.Proofs.YtkifmhfgplhabaaDoor.HS
