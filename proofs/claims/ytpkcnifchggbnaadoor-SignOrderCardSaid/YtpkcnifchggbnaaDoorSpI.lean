/-
  CONTRACTS BY HAND (sign, 27): SignOrder, walked.
-/
import Derived.Test.YtpkcnifchggbnaaDoorSpH
namespace Go.Proofs.YtpkcnifchggbnaaDoor.HI
open Go.RowKit Go.Proofs.YtpkcnifchggbnaaDoor.HD Go.Proofs.YtpkcnifchggbnaaDoor.HK Go.Proofs.YtpkcnifchggbnaaDoor.HU Go.Proofs.YtpkcnifchggbnaaDoorW.PrintWords Go.Proofs.YtpkcnifchggbnaaDoorW.PrintLast Go.Proofs.YtpkcnifchggbnaaDoorW.PrintMore
set_option linter.unusedVariables false
set_option linter.unusedSimpArgs false
theorem order_a (a b : List Cho) (ha : mayL a = true) (hb : mayL b = true) : (aheadB a b && aheadB b a) = false := by
  unfold aheadB
  rw [ha, hb]
  simp only [Bool.and_self, Bool.true_and]
  by_cases h : cmpR a b < 0
  · simp [cmpR_asym a b h]
  · simp [h]
theorem order_b (a b : List Cho) (ha : mayL a = true) (hb : mayL b = true) : (aheadB a b || aheadB b a) = !sameB a b := by
  unfold aheadB
  rw [ha, hb]
  simp only [Bool.and_self, Bool.true_and]
  cases hs : sameB a b with
  | true =>
    have := (sameB_iff a b).1 hs
    subst this
    have : ¬ cmpR a a < 0 := fun h => cmpR_asym a a h h
    simp [this]
  | false =>
    rcases cmpR_tri a b with h | rfl | h
    · simp [h]
    · rw [(sameB_iff a a).2 rfl] at hs; cases hs
    · simp [h]
theorem order_c (a b c : List Cho) (ha : mayL a = true) (hc : mayL c = true) (h : aheadB a b = true) (k : aheadB b c = true) : aheadB a c = true := by
  unfold aheadB at *
  simp only [Bool.and_eq_true, decide_eq_true_eq] at *
  exact ⟨⟨ha, hc⟩, cmpR_trans a b c h.2 k.2⟩
theorem order_d (a : List Cho) (ha : mayL a = true) (hn : a ≠ []) : aheadB (a.take (a.length - 1)) a = true := by
  unfold aheadB
  rw [may_take ha, ha]
  simpa using cmpR_take a hn
theorem take_C {w : World} {A : Option Addr} {l : List Cho} (h : Kd.C k40 w A l.length l) (m : Nat) : Kd.C k40 w A (l.take m).length (l.take m) := by
  by_cases hm : m ≤ l.length
  · exact Kd.C_take h hm
  · rw [List.take_of_length_le (by omega)]
    exact h
set_option maxHeartbeats 4000000 in
set_option maxRecDepth 100000 in
theorem order_w (A0 : Option Addr) (c0 : Nat) (a : List Cho) (A1 : Option Addr) (c1 : Nat) (b : List Cho) (A2 : Option Addr) (c2 : Nat) (c : List Cho) (w : World) (h0 : Kd.C k40 w A0 a.length a) (hc0 : a.length ≤ c0) (h1 : Kd.C k40 w A1 b.length b) (hc1 : b.length ≤ c1) (h2 : Kd.C k40 w A2 c.length c) (hc2 : c.length ≤ c2) (ht : Tab w) :
    Calls Tryd.prog 3 #[.slice A0 a.length c0, .slice A1 b.length c1, .slice A2 c.length c2] w fun e w' => e = .returned (.bool true) ∧ Below w.heap.size w w' := by
  have R0 : ∀ w', Below w.heap.size w w' → Kd.C k40 w' A0 a.length a := fun w' hb => Kd.C_below h0 hb
  have R1 : ∀ w', Below w.heap.size w w' → Kd.C k40 w' A1 b.length b := fun w' hb => Kd.C_below h1 hb
  have R2 : ∀ w', Below w.heap.size w w' → Kd.C k40 w' A2 c.length c := fun w' hb => Kd.C_below h2 hb
  have HR := Aside0.mk (And.intro R0 (And.intro R1 R2))
  have HAW := Aside0.mk (awake_c w ht)
  clear R0 R1 R2 h0 h1 h2 ht
  go_enter Tryd.func3, Tryd.ntmps3
  go_wp2_with fail
  refine HAW.out.mono ?_
  rintro e w1 ⟨rfl, hb⟩
  have HB1 := Aside0.mk hb
  clear hb HAW
  by_cases hz0 : a.length ≤ 200
  · by_cases hz1 : b.length ≤ 200
    · by_cases hz2 : c.length ≤ 200
      · have HC := Aside0.mk (may_c A0 c0 a w1 (HR.out.1 w1 HB1.out) hc0)
        go_wp2_with fail
        refine HC.out.mono ?_
        rintro e w2 ⟨rfl, hb⟩
        have HB2 := Aside0.mk (below_then HB1.out HB1.out.size hb)
        clear hb HC
        cases hm0 : mayL a with
        | false =>
          go_wp2_with fail
          go_ret
          exact ⟨rfl, HB2.out⟩
        | true =>
          have HC := Aside0.mk (may_c A1 c1 b w2 (HR.out.2.1 w2 HB2.out) hc1)
          go_wp2_with fail
          refine HC.out.mono ?_
          rintro e w3 ⟨rfl, hb⟩
          have HB3 := Aside0.mk (below_then HB2.out HB2.out.size hb)
          clear hb HC
          cases hm1 : mayL b with
          | false =>
            go_wp2_with fail
            go_ret
            exact ⟨rfl, HB3.out⟩
          | true =>
            have HC := Aside0.mk (may_c A2 c2 c w3 (HR.out.2.2 w3 HB3.out) hc2)
            go_wp2_with fail
            refine HC.out.mono ?_
            rintro e w4 ⟨rfl, hb⟩
            have HB4 := Aside0.mk (below_then HB3.out HB3.out.size hb)
            clear hb HC
            cases hm2 : mayL c with
            | false =>
              go_wp2_with fail
              go_ret
              exact ⟨rfl, HB4.out⟩
            | true =>
              have hA := order_a a b hm0 hm1
              have hS := order_b a b hm0 hm1
              have hT := order_c a b c hm0 hm2
              cases hp : aheadB a b with
              | false =>
                cases hq : aheadB b a with
                | false =>
                  rw [hp, hq] at hS
                  have hs : sameB a b = true := by simpa using hS
                  have HC := Aside0.mk (show Calls _ _ _ _ _ from by have h := ahead_calls A0 c0 a A1 c1 b w4 (HR.out.1 w4 HB4.out) hc0 (HR.out.2.1 w4 HB4.out) hc1; rw [hp] at h; exact h)
                  go_wp2_with fail
                  refine HC.out.mono ?_
                  rintro e w5 ⟨rfl, hb⟩
                  have HB5 := Aside0.mk (below_then HB4.out HB4.out.size hb)
                  clear hb HC
                  have HC := Aside0.mk (show Calls _ _ _ _ _ from by have h := ahead_calls A1 c1 b A0 c0 a w5 (HR.out.2.1 w5 HB5.out) hc1 (HR.out.1 w5 HB5.out) hc0; rw [hq] at h; exact h)
                  go_wp2_with fail
                  refine HC.out.mono ?_
                  rintro e w6 ⟨rfl, hb⟩
                  have HB6 := Aside0.mk (below_then HB5.out HB5.out.size hb)
                  clear hb HC
                  have HC := Aside0.mk (show Calls _ _ _ _ _ from by have h := same_c A0 c0 a A1 c1 b w6 (HR.out.1 w6 HB6.out) hc0 (HR.out.2.1 w6 HB6.out) hc1; rw [hs] at h; exact h)
                  go_wp2_with fail
                  refine HC.out.mono ?_
                  rintro e w7 ⟨rfl, hb⟩
                  have HB7 := Aside0.mk (below_then HB6.out HB6.out.size hb)
                  clear hb HC
                  by_cases hn : a.length = 0
                  · go_wp2_with fail
                    go_ret
                    exact ⟨rfl, HB7.out⟩
                  · have hne : a ≠ [] := fun h => hn (by rw [h]; rfl)
                    have hw1 : IntKind.i64.wrap ((a.length : Int) - 1) = (a.length : Int) - 1 := i64w (by omega) (by omega)
                    have hl0 : (0 : Int) ≤ (a.length : Int) - 1 := by omega
                    have hl1 : ((a.length : Int) - 1).toNat = a.length - 1 := by omega
                    have htl : (a.take (a.length - 1)).length = a.length - 1 := by rw [List.length_take]; omega
                    have HC := Aside0.mk (show Calls Tryd.prog 10 #[.slice A0 (a.length - 1) c0, .slice A0 a.length c0] w7 _ from by have h := ahead_calls A0 c0 (a.take (a.length - 1)) A0 c0 a w7 (take_C (HR.out.1 w7 HB7.out) _) (by omega) (HR.out.1 w7 HB7.out) hc0; rw [order_d a hm0 hne, htl] at h; exact h)
                    have hcc : a.length - 1 ≤ c0 := by omega
                    go_wp2_with fail
                    refine HC.out.mono ?_
                    rintro e w8 ⟨rfl, hb⟩
                    have HB8 := Aside0.mk (below_then HB7.out HB7.out.size hb)
                    clear hb HC
                    have HC := Aside0.mk (show Calls Tryd.prog 12 #[.slice A0 (a.length - 1) c0, .slice A0 a.length c0] w8 _ from by have h := within_calls A0 c0 (a.take (a.length - 1)) A0 c0 a w8 (take_C (HR.out.1 w8 HB8.out) _) (by omega) (HR.out.1 w8 HB8.out) hc0; rw [within_take hm0, htl] at h; exact h)
                    go_wp2_with fail
                    refine HC.out.mono ?_
                    rintro e w9 ⟨rfl, hb⟩
                    have HB9 := Aside0.mk (below_then HB8.out HB8.out.size hb)
                    go_wp2_with fail
                    go_ret
                    exact ⟨rfl, HB9.out⟩
                | true =>
                  rw [hp, hq] at hS
                  have hs : sameB a b = false := by simpa using hS
                  have HC := Aside0.mk (show Calls _ _ _ _ _ from by have h := ahead_calls A0 c0 a A1 c1 b w4 (HR.out.1 w4 HB4.out) hc0 (HR.out.2.1 w4 HB4.out) hc1; rw [hp] at h; exact h)
                  go_wp2_with fail
                  refine HC.out.mono ?_
                  rintro e w5 ⟨rfl, hb⟩
                  have HB5 := Aside0.mk (below_then HB4.out HB4.out.size hb)
                  clear hb HC
                  have HC := Aside0.mk (show Calls _ _ _ _ _ from by have h := ahead_calls A1 c1 b A0 c0 a w5 (HR.out.2.1 w5 HB5.out) hc1 (HR.out.1 w5 HB5.out) hc0; rw [hq] at h; exact h)
                  go_wp2_with fail
                  refine HC.out.mono ?_
                  rintro e w6 ⟨rfl, hb⟩
                  have HB6 := Aside0.mk (below_then HB5.out HB5.out.size hb)
                  clear hb HC
                  have HC := Aside0.mk (show Calls _ _ _ _ _ from by have h := same_c A0 c0 a A1 c1 b w6 (HR.out.1 w6 HB6.out) hc0 (HR.out.2.1 w6 HB6.out) hc1; rw [hs] at h; exact h)
                  go_wp2_with fail
                  refine HC.out.mono ?_
                  rintro e w7 ⟨rfl, hb⟩
                  have HB7 := Aside0.mk (below_then HB6.out HB6.out.size hb)
                  clear hb HC
                  by_cases hn : a.length = 0
                  · go_wp2_with fail
                    go_ret
                    exact ⟨rfl, HB7.out⟩
                  · have hne : a ≠ [] := fun h => hn (by rw [h]; rfl)
                    have hw1 : IntKind.i64.wrap ((a.length : Int) - 1) = (a.length : Int) - 1 := i64w (by omega) (by omega)
                    have hl0 : (0 : Int) ≤ (a.length : Int) - 1 := by omega
                    have hl1 : ((a.length : Int) - 1).toNat = a.length - 1 := by omega
                    have htl : (a.take (a.length - 1)).length = a.length - 1 := by rw [List.length_take]; omega
                    have HC := Aside0.mk (show Calls Tryd.prog 10 #[.slice A0 (a.length - 1) c0, .slice A0 a.length c0] w7 _ from by have h := ahead_calls A0 c0 (a.take (a.length - 1)) A0 c0 a w7 (take_C (HR.out.1 w7 HB7.out) _) (by omega) (HR.out.1 w7 HB7.out) hc0; rw [order_d a hm0 hne, htl] at h; exact h)
                    have hcc : a.length - 1 ≤ c0 := by omega
                    go_wp2_with fail
                    refine HC.out.mono ?_
                    rintro e w8 ⟨rfl, hb⟩
                    have HB8 := Aside0.mk (below_then HB7.out HB7.out.size hb)
                    clear hb HC
                    have HC := Aside0.mk (show Calls Tryd.prog 12 #[.slice A0 (a.length - 1) c0, .slice A0 a.length c0] w8 _ from by have h := within_calls A0 c0 (a.take (a.length - 1)) A0 c0 a w8 (take_C (HR.out.1 w8 HB8.out) _) (by omega) (HR.out.1 w8 HB8.out) hc0; rw [within_take hm0, htl] at h; exact h)
                    go_wp2_with fail
                    refine HC.out.mono ?_
                    rintro e w9 ⟨rfl, hb⟩
                    have HB9 := Aside0.mk (below_then HB8.out HB8.out.size hb)
                    go_wp2_with fail
                    go_ret
                    exact ⟨rfl, HB9.out⟩
              | true =>
                cases hq : aheadB b a with
                | true => rw [hp, hq] at hA; cases hA
                | false =>
                  rw [hp, hq] at hS
                  have hs : sameB a b = false := by simpa using hS
                  cases hr : aheadB b c with
                  | false =>
                    have HC := Aside0.mk (show Calls _ _ _ _ _ from by have h := ahead_calls A0 c0 a A1 c1 b w4 (HR.out.1 w4 HB4.out) hc0 (HR.out.2.1 w4 HB4.out) hc1; rw [hp] at h; exact h)
                    go_wp2_with fail
                    refine HC.out.mono ?_
                    rintro e w5 ⟨rfl, hb⟩
                    have HB5 := Aside0.mk (below_then HB4.out HB4.out.size hb)
                    clear hb HC
                    have HC := Aside0.mk (show Calls _ _ _ _ _ from by have h := ahead_calls A1 c1 b A0 c0 a w5 (HR.out.2.1 w5 HB5.out) hc1 (HR.out.1 w5 HB5.out) hc0; rw [hq] at h; exact h)
                    go_wp2_with fail
                    refine HC.out.mono ?_
                    rintro e w6 ⟨rfl, hb⟩
                    have HB6 := Aside0.mk (below_then HB5.out HB5.out.size hb)
                    clear hb HC
                    have HC := Aside0.mk (show Calls _ _ _ _ _ from by have h := same_c A0 c0 a A1 c1 b w6 (HR.out.1 w6 HB6.out) hc0 (HR.out.2.1 w6 HB6.out) hc1; rw [hs] at h; exact h)
                    go_wp2_with fail
                    refine HC.out.mono ?_
                    rintro e w7 ⟨rfl, hb⟩
                    have HB7 := Aside0.mk (below_then HB6.out HB6.out.size hb)
                    clear hb HC
                    have HC := Aside0.mk (show Calls _ _ _ _ _ from by have h := ahead_calls A1 c1 b A2 c2 c w7 (HR.out.2.1 w7 HB7.out) hc1 (HR.out.2.2 w7 HB7.out) hc2; rw [hr] at h; exact h)
                    go_wp2_with fail
                    refine HC.out.mono ?_
                    rintro e w8 ⟨rfl, hb⟩
                    have HB8 := Aside0.mk (below_then HB7.out HB7.out.size hb)
                    clear hb HC
                    by_cases hn : a.length = 0
                    · go_wp2_with fail
                      go_ret
                      exact ⟨rfl, HB8.out⟩
                    · have hne : a ≠ [] := fun h => hn (by rw [h]; rfl)
                      have hw1 : IntKind.i64.wrap ((a.length : Int) - 1) = (a.length : Int) - 1 := i64w (by omega) (by omega)
                      have hl0 : (0 : Int) ≤ (a.length : Int) - 1 := by omega
                      have hl1 : ((a.length : Int) - 1).toNat = a.length - 1 := by omega
                      have htl : (a.take (a.length - 1)).length = a.length - 1 := by rw [List.length_take]; omega
                      have HC := Aside0.mk (show Calls Tryd.prog 10 #[.slice A0 (a.length - 1) c0, .slice A0 a.length c0] w8 _ from by have h := ahead_calls A0 c0 (a.take (a.length - 1)) A0 c0 a w8 (take_C (HR.out.1 w8 HB8.out) _) (by omega) (HR.out.1 w8 HB8.out) hc0; rw [order_d a hm0 hne, htl] at h; exact h)
                      have hcc : a.length - 1 ≤ c0 := by omega
                      go_wp2_with fail
                      refine HC.out.mono ?_
                      rintro e w9 ⟨rfl, hb⟩
                      have HB9 := Aside0.mk (below_then HB8.out HB8.out.size hb)
                      clear hb HC
                      have HC := Aside0.mk (show Calls Tryd.prog 12 #[.slice A0 (a.length - 1) c0, .slice A0 a.length c0] w9 _ from by have h := within_calls A0 c0 (a.take (a.length - 1)) A0 c0 a w9 (take_C (HR.out.1 w9 HB9.out) _) (by omega) (HR.out.1 w9 HB9.out) hc0; rw [within_take hm0, htl] at h; exact h)
                      go_wp2_with fail
                      refine HC.out.mono ?_
                      rintro e w10 ⟨rfl, hb⟩
                      have HB10 := Aside0.mk (below_then HB9.out HB9.out.size hb)
                      go_wp2_with fail
                      go_ret
                      exact ⟨rfl, HB10.out⟩
                  | true =>
                    have ht := hT hp hr
                    have HC := Aside0.mk (show Calls _ _ _ _ _ from by have h := ahead_calls A0 c0 a A1 c1 b w4 (HR.out.1 w4 HB4.out) hc0 (HR.out.2.1 w4 HB4.out) hc1; rw [hp] at h; exact h)
                    go_wp2_with fail
                    refine HC.out.mono ?_
                    rintro e w5 ⟨rfl, hb⟩
                    have HB5 := Aside0.mk (below_then HB4.out HB4.out.size hb)
                    clear hb HC
                    have HC := Aside0.mk (show Calls _ _ _ _ _ from by have h := ahead_calls A1 c1 b A0 c0 a w5 (HR.out.2.1 w5 HB5.out) hc1 (HR.out.1 w5 HB5.out) hc0; rw [hq] at h; exact h)
                    go_wp2_with fail
                    refine HC.out.mono ?_
                    rintro e w6 ⟨rfl, hb⟩
                    have HB6 := Aside0.mk (below_then HB5.out HB5.out.size hb)
                    clear hb HC
                    have HC := Aside0.mk (show Calls _ _ _ _ _ from by have h := same_c A0 c0 a A1 c1 b w6 (HR.out.1 w6 HB6.out) hc0 (HR.out.2.1 w6 HB6.out) hc1; rw [hs] at h; exact h)
                    go_wp2_with fail
                    refine HC.out.mono ?_
                    rintro e w7 ⟨rfl, hb⟩
                    have HB7 := Aside0.mk (below_then HB6.out HB6.out.size hb)
                    clear hb HC
                    have HC := Aside0.mk (show Calls _ _ _ _ _ from by have h := ahead_calls A1 c1 b A2 c2 c w7 (HR.out.2.1 w7 HB7.out) hc1 (HR.out.2.2 w7 HB7.out) hc2; rw [hr] at h; exact h)
                    go_wp2_with fail
                    refine HC.out.mono ?_
                    rintro e w8 ⟨rfl, hb⟩
                    have HB8 := Aside0.mk (below_then HB7.out HB7.out.size hb)
                    clear hb HC
                    have HC := Aside0.mk (show Calls _ _ _ _ _ from by have h := ahead_calls A0 c0 a A2 c2 c w8 (HR.out.1 w8 HB8.out) hc0 (HR.out.2.2 w8 HB8.out) hc2; rw [ht] at h; exact h)
                    go_wp2_with fail
                    refine HC.out.mono ?_
                    rintro e w9 ⟨rfl, hb⟩
                    have HB9 := Aside0.mk (below_then HB8.out HB8.out.size hb)
                    clear hb HC
                    by_cases hn : a.length = 0
                    · go_wp2_with fail
                      go_ret
                      exact ⟨rfl, HB9.out⟩
                    · have hne : a ≠ [] := fun h => hn (by rw [h]; rfl)
                      have hw1 : IntKind.i64.wrap ((a.length : Int) - 1) = (a.length : Int) - 1 := i64w (by omega) (by omega)
                      have hl0 : (0 : Int) ≤ (a.length : Int) - 1 := by omega
                      have hl1 : ((a.length : Int) - 1).toNat = a.length - 1 := by omega
                      have htl : (a.take (a.length - 1)).length = a.length - 1 := by rw [List.length_take]; omega
                      have HC := Aside0.mk (show Calls Tryd.prog 10 #[.slice A0 (a.length - 1) c0, .slice A0 a.length c0] w9 _ from by have h := ahead_calls A0 c0 (a.take (a.length - 1)) A0 c0 a w9 (take_C (HR.out.1 w9 HB9.out) _) (by omega) (HR.out.1 w9 HB9.out) hc0; rw [order_d a hm0 hne, htl] at h; exact h)
                      have hcc : a.length - 1 ≤ c0 := by omega
                      go_wp2_with fail
                      refine HC.out.mono ?_
                      rintro e w10 ⟨rfl, hb⟩
                      have HB10 := Aside0.mk (below_then HB9.out HB9.out.size hb)
                      clear hb HC
                      have HC := Aside0.mk (show Calls Tryd.prog 12 #[.slice A0 (a.length - 1) c0, .slice A0 a.length c0] w10 _ from by have h := within_calls A0 c0 (a.take (a.length - 1)) A0 c0 a w10 (take_C (HR.out.1 w10 HB10.out) _) (by omega) (HR.out.1 w10 HB10.out) hc0; rw [within_take hm0, htl] at h; exact h)
                      go_wp2_with fail
                      refine HC.out.mono ?_
                      rintro e w11 ⟨rfl, hb⟩
                      have HB11 := Aside0.mk (below_then HB10.out HB10.out.size hb)
                      go_wp2_with fail
                      go_ret
                      exact ⟨rfl, HB11.out⟩
      · go_wp2_with fail
        go_ret
        exact ⟨rfl, HB1.out⟩
    · go_wp2_with fail
      go_ret
      exact ⟨rfl, HB1.out⟩
  · go_wp2_with fail
    go_ret
    exact ⟨rfl, HB1.out⟩
end Go.Proofs.YtpkcnifchggbnaaDoor.HI
