/-
  CONTRACTS BY HAND (the stable sort, 2): exchanges of runs and rotations of a row of askers in memory.
-/
import Derived.Test.YtkifmhfgplhabaaDoorSrA
import Derived.Test.YtkifmhfgplhabaaDoorProg
import Derived.Shelf.SlSortCmp.KitK
import Derived.Sort.WalkB2
import Derived.Sort.WalkB12
import Derived.Deep.LoopGhost
namespace Go.Proofs.YtkifmhfgplhabaaDoor.HS
open Go.Proofs Go.Shelf Go.RowKit Go.Lib Go.Sort
set_option linter.unusedVariables false
set_option linter.unusedSimpArgs false
set_option linter.unusedSectionVars false
variable {α : Type} [Inhabited α]
/-- how many cells an asker has (a word that no simplifier lays open) -/
def K3 : Nat := 3
theorem sizeK : ∀ w, (Go.sizeOf 67).run Tryd.prog w = .ok K3 w := Tryd.sizeOf67
attribute [local go_sem high] sizeK
set_option maxHeartbeats 4000000 in
set_option maxRecDepth 1000000 in
theorem swapRange_c (enc : α → List Value) (g : Nat) (cb : Array Value) (blk off cap a b n : Nat) (d0 d : Array α) (w0 w : World)
    (R : RowK enc K3 w0 blk off d0) (hs : d0.size = d.size) (S : SWK enc K3 w0 blk off d w) (hab : a + n ≤ b) (hb : b + n ≤ d.size) (hsz : d.size < 4611686018427387904) :
    Calls Tryd.prog 50 #[.slice (some ⟨blk, off, none⟩) d.size cap, .int .i64 a, .int .i64 b, .int .i64 n, .func (.func g) #[] cb] w fun e w' => e = .returned (.tuple #[]) ∧ ∃ d', SwR d d' a b n ∧ PermIn a (b + n) d d' ∧ SWK enc K3 w0 blk off d' w' := by
  have S0 : Aside (SWK enc K3 w0 blk off d w) := S
  clear S
  go_enter Tryd.func50, Tryd.ntmps50
  go_wp2
  go_loopg [10] n (fun kx s10 wr => ∃ (i : Nat) (dk : Array α), s10 = .int .i64 i ∧ i ≤ n ∧ n - i ≤ kx ∧ Aside (SwR d dk a b i) ∧ Aside (PermIn a (b + n) d dk) ∧ Aside (SWK enc K3 w0 blk off dk wr))
  case atStart => exact ⟨0, d, rfl, by omega, by omega, SwR.zero _ _ _, permIn_refl _ _ _, S0⟩
  case round =>
    clear S0
    obtain ⟨i, dk, rfl, hi, hkx, HW, HP, S1⟩ := hrel
    have hds : dk.size = d.size := HW.out.1
    by_cases hlt : i < n
    · have hlz : (i : Int) < (n : Int) := by omega
      go_wp2_with fail
      obtain ⟨p, hp⟩ : ∃ p : Nat, p = a + i := ⟨_, rfl⟩
      obtain ⟨q, hq⟩ : ∃ q : Nat, q = b + i := ⟨_, rfl⟩
      have HPQ : Aside (p = a + i ∧ q = b + i) := ⟨hp, hq⟩
      have wp_ : IntKind.i64.wrap ((a : Int) + (i : Int)) = (p : Int) := by rw [IntKind.wrap_i64]; omega
      have wq_ : IntKind.i64.wrap ((b : Int) + (i : Int)) = (q : Int) := by rw [IntKind.wrap_i64]; omega
      have ea44 : ((p : Int)).toNat = p := by omega
      have pa44 : (0 : Int) ≤ (p : Int) := by omega
      have ba44 : (p : Int) < (d.size : Int) := by omega
      have ra44 : IntKind.i64.wrap ((p : Int)) = (p : Int) := by rw [IntKind.wrap_i64]; omega
      have ec44 : ((q : Int)).toNat = q := by omega
      have pc44 : (0 : Int) ≤ (q : Int) := by omega
      have bc44 : (q : Int) < (d.size : Int) := by omega
      have rc44 : IntKind.i64.wrap ((q : Int)) = (q : Int) := by rw [IntKind.wrap_i64]; omega
      have S2 : Aside (SWK enc K3 w0 blk off (swp dk p q) ((wr.drew.setCells blk (off + p * K3) (enc dk[q]!)).setCells blk (off + q * K3) (enc dk[p]!))) := S1.out.swapped R p q (by omega) (by omega)
      have l44a := S1.out.ld1 R (by omega) Tryd.prog p (by omega)
      have l44b := S1.out.ld1 R (by omega) Tryd.prog q (by omega)
      have s44a := S1.out.st1 R (by omega) Tryd.prog p (by omega) dk[q]!
      have s44b := S1.out.st2 R (by omega) Tryd.prog p q (by omega) (by omega) dk[q]! dk[p]!
      have n44a : (enc dk[p]!).length = K3 := R.hk _
      have n44b : (enc dk[q]!).length = K3 := R.hk _
      have HW2 : Aside (SwR d (swp dk p q) a b (i + 1)) := by rw [hp, hq]; exact HW.out.step (by omega) (by omega)
      have HP2 : Aside (PermIn a (b + n) d (swp dk p q)) := permIn_trans _ _ _ _ _ HP.out (swp_permIn _ _ _ _ _ (by omega) (by omega) (by omega) (by omega) (by omega))
      generalize swp dk p q = dk2 at S2 HW2 HP2
      generalize enc dk[p]! = cI44 at S2 l44a s44b n44a
      generalize enc dk[q]! = cJ44 at S2 l44b s44a s44b n44b
      clear S1 HW HP hp hq
      have aE := Tryd.isAgg67
      have zE := sizeK
      have mixed : Tryd.prog.follows .mixedOrders = true := by kernel_rfl
      go_big_region_o
      clear l44a l44b s44a s44b
      generalize (wr.drew.setCells blk (off + p * K3) cJ44).setCells blk (off + q * K3) cI44 = w2 at S2 ⊢
      go_wp2
      go_roundg (n - (i + 1))
      case measure => omega
      case rel => exact ⟨i + 1, dk2, by simp, by omega, Nat.le_refl _, HW2, HP2, S2⟩
    · obtain rfl : i = n := by omega
      go_wp2
      go_end0
      exact ⟨rfl, dk, HW.out, HP.out, S1.out⟩
end Go.Proofs.YtkifmhfgplhabaaDoor.HS
