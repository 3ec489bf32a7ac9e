/-
  CONTRACTS BY HAND (the stable sort, 9): the stable sort, at whatever length.
-/
import Derived.Test.YtkifmhfgplhabaaDoorSrG
import Derived.Test.YtkifmhfgplhabaaDoorSrH
import Derived.Shelf.SlSortCmp.QuietGrown
namespace Go.Proofs.YtkifmhfgplhabaaDoor.HS
open Go.Proofs Go.Shelf Go.RowKit Go.Lib Go.Sort
set_option linter.unusedVariables false
set_option linter.unusedSimpArgs false
set_option linter.unusedSectionVars false
variable {α : Type} [Inhabited α]
attribute [local go_sem high] sizeK
variable {idx : α → Nat}
set_option maxHeartbeats 8000000 in
set_option maxRecDepth 1000000 in
theorem stable_c {enc : α → List Value} {cf : α → α → Int} {lt' : α → α → Bool} (hO : SWO lt') (hA : Agr (ltOf cf) lt' idx) (g : Nat) (cb : Array Value) (blk off cap : Nat) (d : Array α) (w : World)
    (eg : ∀ args w, (callFunc g args).run Tryd.prog w = .ok (.enter g args) w) (hC : CmpLays Tryd.prog g cb enc K3 cf blk off d.size w) (R : RowK enc K3 w blk off d) (hsz : d.size < 1000000) (hI : ∀ p q, p < q → q < d.size → idx d[p]! < idx d[q]!) :
    Calls Tryd.prog 39 #[.slice (some ⟨blk, off, none⟩) d.size cap, .int .i64 d.size, .func (.func g) #[] cb] w fun e w' => e = .returned (.tuple #[]) ∧ ∃ d', PermIn 0 d.size d d' ∧ SortedIn lt' 0 d.size d' ∧ SWK enc K3 w blk off d' w' := by
  have S0 : Aside (SWK enc K3 w blk off d w) := SWK.start R.hH
  have HC : Aside _ := hC
  have HA : Aside _ := hA
  have HI0 : Aside (Prs lt' idx 20 d.size 0 d → True) := fun _ => trivial
  have HX : Aside (Ins lt' idx 20 d.size 0 d) := Ins.zero hI
  clear hC hA hI HI0
  obtain ⟨n, hn⟩ : ∃ n, n = d.size := ⟨_, rfl⟩
  rw [← hn] at HX hsz ⊢
  have HN : Aside (n = d.size) := hn
  clear hn
  go_enter Tryd.func39, Tryd.ntmps39
  go_wp2
  go_loopg [7, 8] n (fun kx s7 s8 wr => ∃ (k A B : Nat) (dk : Array α), s7 = .int .i64 A ∧ s8 = .int .i64 B ∧ Aside (A = k * 20) ∧ Aside (B = A + 20) ∧ A ≤ n ∧ n - A ≤ kx ∧ Aside (dk.size = n) ∧ Aside (Ins lt' idx 20 n k dk) ∧ Aside (PermIn 0 n d dk) ∧ Aside (SWK enc K3 w blk off dk wr))
  case atStart => exact ⟨0, 0, 20, d, rfl, rfl, rfl, rfl, by omega, by omega, HN.out.symm, HX, permIn_refl _ _ _, S0⟩
  case round =>
    clear S0 HX
    obtain ⟨k, A, B, dk, rfl, rfl, HAk, HB, hAn, hkx, HS, HX, HP, S1⟩ := hrel
    by_cases hlt : B ≤ n
    · have hlz : (B : Int) ≤ (n : Int) := by omega
      have wB : IntKind.i64.wrap ((B : Int) + 20) = ((B + 20 : Nat) : Int) := by rw [IntKind.wrap_i64]; omega
      have hAB : A < B := by have := HB.out; omega
      have HCA := ins_c g cb blk off cap d w eg HC.out R A B dk wr (by rw [HS.out, HN.out]) S1.out (by omega) (by rw [HS.out]; exact hlt) (by rw [HS.out]; omega)
      rw [HS.out] at HCA
      go_wp2_with fail
      refine HCA.mono ?_
      rintro e0 w1 ⟨rfl, hs⟩
      have hins := ins_ok hO HA.out (by omega : A ≤ B) (by rw [HS.out]; exact hlt) (fun p q h1 h2 h3 => HX.out.u p q (by have := HAk.out; omega) h2 (by omega))
      have S2 : Aside _ := hs
      generalize insertionSort (ltOf cf) dk A B = d2 at hins S2
      have HS2 : Aside (d2.size = n) := hins.1.1.trans HS.out
      have HX2 : Aside (Ins lt' idx 20 n (k + 1) d2) := by
        have h1 := HAk.out
        have h2 := HB.out
        exact HX.out.step (b := B) (by omega) (by omega) hlt HS.out.symm (.inl (by omega)) (by rw [← h1]; exact hins.1) (by rw [← h1]; exact hins.2)
      have HP2 : Aside (PermIn 0 n d d2) := permIn_trans _ _ _ _ _ HP.out (permIn_mono _ _ _ _ _ _ (by omega) hlt (by rw [HS.out]; omega) hins.1)
      have HBk : Aside (B = (k + 1) * 20) := by have h1 := HAk.out; have h2 := HB.out; show _ = _; omega
      clear hins hs HCA S1 HX HP HS HAk HB
      go_wp2
      go_roundg (n - B)
      case measure => omega
      case rel => exact ⟨k + 1, B, B + 20, d2, rfl, by go_num, HBk, rfl, hlt, Nat.le_refl _, HS2, HX2, HP2, S2⟩
    · have hlz : ¬ (B : Int) ≤ (n : Int) := by omega
      have HCA := ins_c g cb blk off cap d w eg HC.out R A n dk wr (by rw [HS.out, HN.out]) S1.out hAn (by rw [HS.out]; omega) (by rw [HS.out]; omega)
      rw [HS.out] at HCA
      go_wp2_with fail
      refine HCA.mono ?_
      rintro e0 w1 ⟨rfl, hs⟩
      have hins := ins_ok hO HA.out hAn (by rw [HS.out]; omega) (fun p q h1 h2 h3 => HX.out.u p q (by have := HAk.out; omega) h2 (by omega))
      have S2 : Aside _ := hs
      generalize insertionSort (ltOf cf) dk A n = d2 at hins S2
      have HS2 : Aside (d2.size = n) := hins.1.1.trans HS.out
      have HX2 : Aside (Bks lt' idx 20 n d2) := by
        have h1 := HAk.out
        have h2 := HB.out
        exact (HX.out.step (b := n) (by omega) (by omega) (Nat.le_refl _) HS.out.symm (.inr rfl) (by rw [← h1]; exact hins.1) (by rw [← h1]; exact hins.2)).done (by omega)
      have HP2 : Aside (PermIn 0 n d d2) := permIn_trans _ _ _ _ _ HP.out (permIn_mono _ _ _ _ _ _ (by omega) (Nat.le_refl _) (by rw [HS.out]; omega) hins.1)
      clear hins hs HCA S1 HX HP HS HAk HB hlz hlt hAn hkx
      go_wp2_with fail
      go_loopg [6] (n + n) (fun kx s6 wr2 => ∃ (bs : Nat) (dk : Array α), s6 = .int .i64 bs ∧ 0 < bs ∧ bs < 2000020 ∧ n + n - bs ≤ kx ∧ Aside (dk.size = n) ∧ Aside (Bks lt' idx bs n dk) ∧ Aside (PermIn 0 n d dk) ∧ Aside (SWK enc K3 w blk off dk wr2))
      case atStart => exact ⟨20, d2, rfl, by omega, by omega, by omega, HS2, HX2, HP2, S2⟩
      case round =>
        clear S2 HX2 HP2 HS2
        obtain ⟨bs, dk2, rfl, hb0, hb1, hkx, HS, HX, HP, S1⟩ := hrel
        by_cases hlt : bs < n
        · have hlz : (bs : Int) < (n : Int) := by omega
          have w2b : IntKind.i64.wrap (2 * (bs : Int)) = ((2 * bs : Nat) : Int) := by rw [IntKind.wrap_i64]; omega
          have wb2 : IntKind.i64.wrap ((bs : Int) * 2) = ((2 * bs : Nat) : Int) := by rw [IntKind.wrap_i64]; omega
          obtain ⟨b2, hb2⟩ : ∃ b2, b2 = 2 * bs := ⟨_, rfl⟩
          rw [← hb2] at w2b wb2
          have HB2 : Aside (b2 = 2 * bs) := hb2
          have HY : Aside (Prs lt' idx bs n 0 dk2) := Prs.zero HX.out
          have hbb : bs < b2 := by omega
          have hb21 : b2 < 2000020 := by omega
          clear hb2 HX
          go_wp2
          go_loopg [7, 8] n (fun kx s7 s8 wr3 => ∃ (k A B : Nat) (dk : Array α), s7 = .int .i64 A ∧ s8 = .int .i64 B ∧ Aside (A = k * (2 * bs)) ∧ Aside (B = A + 2 * bs) ∧ A ≤ n ∧ n - A ≤ kx ∧ Aside (dk.size = n) ∧ Aside (Prs lt' idx bs n k dk) ∧ Aside (PermIn 0 n d dk) ∧ Aside (SWK enc K3 w blk off dk wr3))
          case atStart => exact ⟨0, 0, b2, dk2, rfl, rfl, (by show 0 = 0 * (2 * bs); omega), (by show b2 = 0 + 2 * bs; have := HB2.out; omega), by omega, by omega, HS, HY, HP, S1⟩
          case round =>
            clear S1 HS HY HP
            obtain ⟨k, A, B, dk, rfl, rfl, HAk, HB, hAn, hkx3, HS, HX, HP, S1⟩ := hrel
            obtain ⟨m, hm⟩ : ∃ m, m = A + bs := ⟨_, rfl⟩
            have wm : IntKind.i64.wrap ((A : Int) + (bs : Int)) = (m : Int) := by rw [IntKind.wrap_i64]; omega
            have hAm : A < m := by omega
            have HM : Aside (m = A + bs) := hm
            have hmB : m < B := by have := HB.out; omega
            have hBA : B = A + b2 := by have h1 := HB.out; have h2 := HB2.out; omega
            have HBA : Aside (B = A + b2) := hBA
            clear hm hBA
            by_cases hlt2 : B ≤ n
            · have hlz2 : (B : Int) ≤ (n : Int) := by omega
              have wB2 : IntKind.i64.wrap ((B : Int) + (b2 : Int)) = ((B + b2 : Nat) : Int) := by rw [IntKind.wrap_i64]; omega
              have HCA := merge_c hO g cb blk off cap d w eg HC.out R (B - A) A m B dk wr (by rw [HS.out, HN.out]) S1.out (Nat.le_refl _) hAm hmB (by rw [HS.out]; exact hlt2) (by rw [HS.out]; omega) (by
                have h1 := HAk.out
                have h2 := HB.out
                have h3 := HM.out
                have h4 := HX.out.mg HA.out (b := B) (by rw [Nat.succ_mul]; omega) hlt2 (by omega)
                rw [← h1, ← h3] at h4
                exact h4)
              rw [HS.out] at HCA
              go_wp2_with fail
              refine HCA.mono ?_
              rintro e0 w1 ⟨rfl, d3, so, hp, hs⟩
              have S2 : Aside _ := hs
              have HS2 : Aside (d3.size = n) := hp.1.trans HS.out
              have HX2 : Aside (Prs lt' idx bs n (k + 1) d3) := by
                have h1 := HAk.out
                have h2 := HB.out
                have h5 : (k + 1) * (2 * bs) = k * (2 * bs) + 2 * bs := Nat.succ_mul _ _
                exact HX.out.step (b := B) (by omega) (by omega) hlt2 HS.out.symm (.inl (by omega)) (by rw [← h1]; exact hp) (by rw [← h1]; exact so)
              have HP2 : Aside (PermIn 0 n d d3) := permIn_trans _ _ _ _ _ HP.out (permIn_mono _ _ _ _ _ _ (by omega) hlt2 (by rw [HS.out]; omega) hp)
              have HBk : Aside (B = (k + 1) * (2 * bs)) := by have h1 := HAk.out; have h2 := HB.out; show _ = _; rw [Nat.succ_mul]; omega
              have HBB : Aside (B + b2 = B + 2 * bs) := by have h2 := HB2.out; show _ = _; omega
              clear so hp hs HCA S1 HX HP HS HAk HB HM HBA
              go_wp2
              go_roundg (n - B)
              case measure => omega
              case rel => exact ⟨k + 1, B, B + b2, d3, rfl, by go_num, HBk, HBB, hlt2, Nat.le_refl _, HS2, HX2, HP2, S2⟩
            · have hlz2 : ¬ (B : Int) ≤ (n : Int) := by omega
              by_cases hmn : m < n
              · have hmz : (m : Int) < (n : Int) := by omega
                have HCA := merge_c hO g cb blk off cap d w eg HC.out R (n - A) A m n dk wr (by rw [HS.out, HN.out]) S1.out (Nat.le_refl _) hAm hmn (by rw [HS.out]; omega) (by rw [HS.out]; omega) (by
                  have h1 := HAk.out
                  have h2 := HB.out
                  have h3 := HM.out
                  have h4 := HX.out.mg HA.out (b := n) (by rw [Nat.succ_mul]; omega) (Nat.le_refl _) (by omega)
                  rw [← h1, ← h3] at h4
                  exact h4)
                rw [HS.out] at HCA
                go_wp2_with fail
                refine HCA.mono ?_
                rintro e0 w1 ⟨rfl, d3, so, hp, hs⟩
                have S2 : Aside _ := hs
                have HS2 : Aside (d3.size = n) := hp.1.trans HS.out
                have HX2 : Aside (Bks lt' idx b2 n d3) := by
                  have h1 := HAk.out
                  have h2 := HB.out
                  have h5 : (k + 1) * (2 * bs) = k * (2 * bs) + 2 * bs := Nat.succ_mul _ _
                  show Bks _ _ _ _ _
                  rw [HB2.out]
                  exact (HX.out.step (b := n) (by omega) (by omega) (Nat.le_refl _) HS.out.symm (.inr rfl) (by rw [← h1]; exact hp) (by rw [← h1]; exact so)).done (by omega)
                have HP2 : Aside (PermIn 0 n d d3) := permIn_trans _ _ _ _ _ HP.out (permIn_mono _ _ _ _ _ _ (by omega) (Nat.le_refl _) (by rw [HS.out]; omega) hp)
                clear so hp hs HCA S1 HX HP HS HAk HB HM HBA
                go_wp2
                go_roundg (n + n - b2)
                case measure => omega
                case rel => exact ⟨b2, d3, by go_num, by omega, by omega, Nat.le_refl _, HS2, HX2, HP2, S2⟩
              · have hmz : ¬ (m : Int) < (n : Int) := by omega
                have HX2 : Aside (Bks lt' idx b2 n dk) := by
                  have h1 := HAk.out
                  have h3 := HM.out
                  show Bks _ _ _ _ _
                  rw [HB2.out]
                  exact HX.out.done (by omega)
                clear HX HAk HB HM HBA
                go_wp2
                go_roundg (n + n - b2)
                case measure => omega
                case rel => exact ⟨b2, dk, by go_num, by omega, by omega, Nat.le_refl _, HS, HX2, HP, S1⟩
        · have hlz : ¬ (bs : Int) < (n : Int) := by omega
          go_wp2
          go_end0
          exact ⟨rfl, dk2, HP.out, HX.out.whole (by omega), S1.out⟩
end Go.Proofs.YtkifmhfgplhabaaDoor.HS
