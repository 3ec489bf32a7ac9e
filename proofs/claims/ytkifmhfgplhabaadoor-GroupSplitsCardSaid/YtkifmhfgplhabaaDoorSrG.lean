/-
  CONTRACTS BY HAND (the stable sort, 7): the insertion sort of a run.
-/
import Derived.Test.YtkifmhfgplhabaaDoorSrF
import Derived.Shelf.SlSortCmp.QuietGrown
namespace Go.Proofs.YtkifmhfgplhabaaDoor.HS
open Go.Proofs Go.Shelf Go.RowKit Go.Lib Go.Sort
set_option linter.unusedVariables false
set_option linter.unusedSimpArgs false
set_option linter.unusedSectionVars false
variable {α : Type} [Inhabited α]
attribute [local go_sem high] sizeK
set_option maxHeartbeats 8000000 in
set_option maxRecDepth 1000000 in
theorem ins_c {enc : α → List Value} {cf : α → α → Int} (g : Nat) (cb : Array Value) (blk off cap : Nat) (d0 : Array α) (w0 : World)
    (eg : ∀ args w, (callFunc g args).run Tryd.prog w = .ok (.enter g args) w) (hC : CmpLays Tryd.prog g cb enc K3 cf blk off d0.size w0) (R : RowK enc K3 w0 blk off d0) (a b : Nat) (d : Array α) (w : World) (hs : d0.size = d.size) (S : SWK enc K3 w0 blk off d w) (hab : a ≤ b) (hb : b ≤ d.size) (hsz : d.size < 4611686018427387904) :
    Calls Tryd.prog 42 #[.slice (some ⟨blk, off, none⟩) d.size cap, .int .i64 a, .int .i64 b, .func (.func g) #[] cb] w fun e w' => e = .returned (.tuple #[]) ∧ SWK enc K3 w0 blk off (insertionSort (ltOf cf) d a b) w' := by
  have mixed : Tryd.prog.follows .mixedOrders = true := by kernel_rfl
  have aE := Tryd.isAgg67
  have zE := sizeK
  have S0 : Aside (SWK enc K3 w0 blk off d w) := S
  have HC : Aside _ := hC
  clear S hC
  have wa : IntKind.i64.wrap ((a : Int) + 1) = ((a + 1 : Nat) : Int) := by rw [IntKind.wrap_i64]; omega
  go_enter Tryd.func42, Tryd.ntmps42
  go_wp2
  go_loopg [8] (b - a) (fun kx s8 wr => ∃ (i : Nat) (dk : Array α), s8 = .int .i64 i ∧ a < i ∧ i ≤ b + 1 ∧ b + 1 - i ≤ kx + 1 ∧ dk.size = d.size ∧ Aside (insOuter (ltOf cf) a b i dk = insOuter (ltOf cf) a b (a + 1) d) ∧ Aside (SWK enc K3 w0 blk off dk wr))
  case atStart => exact ⟨a + 1, d, by go_num, by omega, by omega, by omega, rfl, rfl, S0⟩
  case round =>
    clear S0
    obtain ⟨i, dk, rfl, hai, hib, hkx, hds, HO, S1⟩ := hrel
    by_cases hlt : i < b
    · have hlz : (i : Int) < (b : Int) := by omega
      have hi1 : IntKind.i64.wrap ((i : Int) + 1) = (i : Int) + 1 := by rw [IntKind.wrap_i64]; omega
      go_wp2
      go_loopg [9] i (fun kx s9 wr2 => ∃ (j : Nat) (dj : Array α), s9 = .int .i64 j ∧ a ≤ j ∧ j ≤ i ∧ j ≤ kx ∧ dj.size = d.size ∧ Aside (insInner (ltOf cf) a j dj = insInner (ltOf cf) a i dk) ∧ Aside (SWK enc K3 w0 blk off dj wr2))
      case atStart => exact ⟨i, dk, rfl, by omega, Nat.le_refl _, Nat.le_refl _, hds, rfl, S1⟩
      case round =>
        clear S1
        obtain ⟨j, dj, rfl, haj, hji, hkx2, hdj, HI, S1⟩ := hrel
        have out : (j ≤ a ∨ ltOf cf dj[j]! dj[j - 1]! = false) → Aside (insOuter (ltOf cf) a b (i + 1) dj = insOuter (ltOf cf) a b (a + 1) d) := fun hs => by
          show _ = _
          rw [← HO.out, insOuter_go _ _ _ _ _ hlt, ← HI.out, insInner_stop _ _ _ _ hs]
        have OUT : Aside _ := out
        clear out
        by_cases hja : a < j
        · have hjaz : (a : Int) < (j : Int) := by omega
          obtain ⟨p, rfl⟩ : ∃ p, j = p + 1 := ⟨j - 1, by omega⟩
          have hjaz2 : (a : Int) < (p : Int) + 1 := by omega
          have wp1 : IntKind.i64.wrap (((p + 1 : Nat) : Int) - 1) = (p : Int) := by rw [IntKind.wrap_i64]; omega
          have f1_ : (0 : Int) ≤ (p : Int) + 1 := by omega
          have f2_ : ((p : Int) + 1).toNat = p + 1 := by omega
          have f3_ : (p : Int) + 1 < (d.size : Int) := by omega
          have f4_ : IntKind.i64.wrap ((p : Int) + 1) = (p : Int) + 1 := by rw [IntKind.wrap_i64]; omega
          have wp2_ : IntKind.i64.wrap ((p : Int) + 1 - 1) = (p : Int) := by rw [IntKind.wrap_i64]; omega
          have ea51 : ((p + 1 : Nat) : Int).toNat = p + 1 := by omega
          have pa51 : (0 : Int) ≤ ((p + 1 : Nat) : Int) := by omega
          have ba51 : ((p + 1 : Nat) : Int) < (d.size : Int) := by omega
          have ra51 : IntKind.i64.wrap ((p + 1 : Nat) : Int) = ((p + 1 : Nat) : Int) := by rw [IntKind.wrap_i64]; omega
          have ec51 : ((p : Nat) : Int).toNat = p := by omega
          have pc51 : (0 : Int) ≤ ((p : Nat) : Int) := by omega
          have bc51 : ((p : Nat) : Int) < (d.size : Int) := by omega
          have rc51 : IntKind.i64.wrap ((p : Nat) : Int) = ((p : Nat) : Int) := by rw [IntKind.wrap_i64]; omega
          obtain ⟨x51, hx51⟩ : ∃ x, x = dj[p + 1]! := ⟨_, rfl⟩
          obtain ⟨y51, hy51⟩ : ∃ x, x = dj[p]! := ⟨_, rfl⟩
          have l51a := S1.out.ld R (by omega) Tryd.prog (p + 1) (by omega)
          have l51b := S1.out.ld R (by omega) Tryd.prog (p) (by omega)
          rw [← hx51] at l51a
          rw [← hy51] at l51b
          have hc51 := S1.out.cmp HC.out (by omega) x51 y51
          cases hlv : ltOf cf dj[p + 1]! dj[p]! with
          | false =>
            have hv51 : ¬ cf x51 y51 < 0 := by rw [hx51, hy51]; exact of_decide_eq_false hlv
            have hd51 : decide (cf x51 y51 < 0) = false := decide_eq_false hv51
            have HO2 : Aside (insOuter (ltOf cf) a b (i + 1) dj = insOuter (ltOf cf) a b (a + 1) d) := OUT.out (.inr hlv)
            clear hx51 hy51 hlv OUT
            go_wp2_with fail
            go_quiet_grown (first | (go_at_fn g; refine Calls.grown_of (hc51 _ _)))
            have S2 : Aside (SWK enc K3 w0 blk off dj (grow (wr.drewN nq) osq)) := S1.out.grown nq osq
            clear l51a l51b hc51 S1
            generalize grow (wr.drewN nq) osq = w2 at S2 ⊢
            clear nq osq
            go_wp2
            go_roundg (b - (i + 1))
            case measure => omega
            case rel => exact ⟨i + 1, dj, by go_num, by omega, by omega, by omega, hdj, HO2, S2⟩
          | true =>
            have hv51 : cf x51 y51 < 0 := by rw [hx51, hy51]; exact of_decide_eq_true hlv
            have hd51 : decide (cf x51 y51 < 0) = true := decide_eq_true hv51
            have HI2 : Aside (insInner (ltOf cf) a p (swp dj (p + 1) p) = insInner (ltOf cf) a i dk) := by
              show _ = _
              rw [← HI.out, insInner_go (ltOf cf) a (p + 1) dj hja hlv, Nat.add_sub_cancel]
            clear hx51 hy51 hlv OUT HI
            go_wp2_with fail
            go_quiet_grown (first | (go_at_fn g; refine Calls.grown_of (hc51 _ _)))
            have S5 : Aside (SWK enc K3 w0 blk off dj (grow (wr.drewN nq) osq)) := S1.out.grown nq osq
            clear l51a l51b hc51 S1
            generalize grow (wr.drewN nq) osq = wv at S5 ⊢
            clear nq osq
            have S1 := S5
            clear S5
            have ea70 : ((p + 1 : Nat) : Int).toNat = p + 1 := by omega
            have pa70 : (0 : Int) ≤ ((p + 1 : Nat) : Int) := by omega
            have ba70 : ((p + 1 : Nat) : Int) < (d.size : Int) := by omega
            have ra70 : IntKind.i64.wrap ((p + 1 : Nat) : Int) = ((p + 1 : Nat) : Int) := by rw [IntKind.wrap_i64]; omega
            have ec70 : ((p : Nat) : Int).toNat = p := by omega
            have pc70 : (0 : Int) ≤ ((p : Nat) : Int) := by omega
            have bc70 : ((p : Nat) : Int) < (d.size : Int) := by omega
            have rc70 : IntKind.i64.wrap ((p : Nat) : Int) = ((p : Nat) : Int) := by rw [IntKind.wrap_i64]; omega
            have S2 : Aside (SWK enc K3 w0 blk off (swp dj (p + 1) (p)) ((wv.drew.setCells blk (off + (p + 1) * K3) (enc dj[p]!)).setCells blk (off + (p) * K3) (enc dj[p + 1]!))) := S1.out.swapped R (p + 1) (p) (by omega) (by omega)
            have l70a := S1.out.ld1 R (by omega) Tryd.prog (p + 1) (by omega)
            have l70b := S1.out.ld1 R (by omega) Tryd.prog (p) (by omega)
            have s70a := S1.out.st1 R (by omega) Tryd.prog (p + 1) (by omega) dj[p]!
            have s70b := S1.out.st2 R (by omega) Tryd.prog (p + 1) (p) (by omega) (by omega) dj[p]! dj[p + 1]!
            have n70a : (enc dj[p + 1]!).length = K3 := R.hk _
            have n70b : (enc dj[p]!).length = K3 := R.hk _
            have hds2 : (swp dj (p + 1) p).size = d.size := (swp_size _ _ _).trans hdj
            generalize swp dj (p + 1) p = dk2 at S2 HI2 hds2
            generalize enc dj[p + 1]! = cI70 at S2 l70a s70b n70a
            generalize enc dj[p]! = cJ70 at S2 l70b s70a s70b n70b
            clear S1
            go_wp2_with fail
            go_big_region_o
            clear l70a l70b s70a s70b
            generalize (wv.drew.setCells blk (off + (p + 1) * K3) cJ70).setCells blk (off + (p) * K3) cI70 = w2 at S2 ⊢
            go_wp2
            go_roundg p
            case measure => omega
            case rel => exact ⟨p, dk2, by go_num, by omega, by omega, Nat.le_refl _, hds2, HI2, S2⟩
        · have hjaz : ¬ (a : Int) < (j : Int) := by omega
          have HO2 : Aside (insOuter (ltOf cf) a b (i + 1) dj = insOuter (ltOf cf) a b (a + 1) d) := OUT.out (.inl (by omega))
          have S2 : Aside (SWK enc K3 w0 blk off dj wr.drew) := S1.out.drew
          clear OUT HI S1
          go_wp2_with fail
          go_big_region_o
          go_wp2
          go_roundg (b - (i + 1))
          case measure => omega
          case rel => exact ⟨i + 1, dj, by go_num, by omega, by omega, by omega, hdj, HO2, S2⟩
    · have hlz : ¬ (i : Int) < (b : Int) := by omega
      go_wp2
      go_end0
      exact ⟨rfl, by unfold insertionSort; rw [← HO.out, insOuter_stop _ _ _ _ _ hlt]; exact S1.out⟩
end Go.Proofs.YtkifmhfgplhabaaDoor.HS
