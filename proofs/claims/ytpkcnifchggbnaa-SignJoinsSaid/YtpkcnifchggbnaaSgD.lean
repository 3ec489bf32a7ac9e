/-
  CONTRACTS BY HAND (sign, 4): slices.CompareFunc at whole, Ahead: what is answered; nothing that was there is changed.
-/
import Derived.Test.YtpkcnifchggbnaaSgC
namespace Go.Proofs.Ytpkcnifchggbnaa.HD
open Go.RowKit Go.Proofs.Ytpkcnifchggbnaa.HK Go.Proofs.Ytpkcnifchggbnaa.HP Go.Proofs.YtpkcnifchggbnaaW.PrintWords Go.Proofs.YtpkcnifchggbnaaW.PrintLast Go.Proofs.YtpkcnifchggbnaaW.PrintMore
set_option linter.unusedVariables false
set_option linter.unusedSimpArgs false

/-- how two rows compare -/
def cmpR : List Ch → List Ch → Int
  | [], [] => 0
  | [], _ :: _ => -1
  | _ :: _, [] => 1
  | x :: t, y :: s => if wholeI x y = 0 then cmpR t s else wholeI x y
theorem cmpR_both {a b : List Ch} {i : Nat} (h : i < a.length) (h' : i < b.length) : cmpR (a.drop i) (b.drop i) = if wholeI (rd_T24 a (i : Int)) (rd_T24 b (i : Int)) = 0 then cmpR (a.drop (i + 1)) (b.drop (i + 1)) else wholeI (rd_T24 a (i : Int)) (rd_T24 b (i : Int)) := by
  rw [drop_cons h, drop_cons h', rd_ch h, rd_ch h', cmpR]
theorem cmpR_more {a b : List Ch} {i : Nat} (h : i < a.length) (h' : ¬ i < b.length) : cmpR (a.drop i) (b.drop i) = 1 := by
  rw [drop_cons h, show b.drop i = [] from List.drop_eq_nil_of_le (by omega), cmpR]
theorem cmpR_less {a b : List Ch} {i : Nat} (h : ¬ i < a.length) (h' : i < b.length) : cmpR (a.drop i) (b.drop i) = -1 := by
  rw [drop_cons h', show a.drop i = [] from List.drop_eq_nil_of_le (by omega), cmpR]
theorem cmpR_end {a b : List Ch} {i : Nat} (h : ¬ i < a.length) (h' : ¬ i < b.length) : cmpR (a.drop i) (b.drop i) = 0 := by
  rw [List.drop_eq_nil_of_le (by omega), List.drop_eq_nil_of_le (by omega), cmpR]
set_option maxHeartbeats 2000000 in
theorem compare_calls (A0 : Option Addr) (c0 : Nat) (a : List Ch) (A1 : Option Addr) (c1 : Nat) (b : List Ch) (w : World) (hr0 : Kd.C k24 w A0 a.length a) (hc0 : a.length ≤ c0) (hr1 : Kd.C k24 w A1 b.length b) (hc1 : b.length ≤ c1) :
    Calls Try.prog 31 #[.slice A0 a.length c0, .slice A1 b.length c1, .func (.func 32) #[] #[]] w fun e w' => e = .returned (.int .i64 (cmpR a b)) ∧ Below w.heap.size w w' := by
  have HR0 := Aside0.mk hr0
  have HR1 := Aside0.mk hr1
  have hm0 := Kd.C_max hr0
  have hm1 := Kd.C_max hr1
  clear hr0 hr1
  go_enter Try.func31, Try.ntmps31
  go_wp2
  go_loopw [13] (fun v13 wr => ∃ i : Nat, i ≤ a.length ∧ v13 = .int .i64 i ∧ Aside0 (cmpR a b = cmpR (a.drop i) (b.drop i)) ∧ Aside0 (Below w.heap.size w wr)) (fun v13 _ => a.length - (intOf v13).toNat)
  case atStart => exact ⟨0, by omega, rfl, ⟨rfl⟩, ⟨Below.refl _ _⟩⟩
  case round =>
    obtain ⟨i, hi, rfl, HE, HB⟩ := hrel
    by_cases ha : i < a.length
    · obtain ⟨ad, rfl, h0, h1, h2, h3, h4⟩ := at_T24 (Kd.C_below HR0.out HB.out) i (by omega) (by omega)
      rw [Int.toNat_natCast] at h0 h1 h2 h3 h4
      by_cases hb : i < b.length
      · obtain ⟨ad', rfl, g0, g1, g2, g3, g4⟩ := at_T24 (Kd.C_below HR1.out HB.out) i (by omega) (by omega)
        rw [Int.toNat_natCast] at g0 g1 g2 g3 g4
        have HS := Aside0.mk (cmpR_both ha hb)
        generalize rd_T24 a (i : Int) = x at HS h0 h1 h2 h3 h4
        generalize rd_T24 b (i : Int) = y at HS g0 g1 g2 g3 g4
        have g0 := fun o => pw_cell_below (below_alloc (Below.refl wr.heap.size wr) o) g0
        have g1 := fun o => pw_cell_below (below_alloc (Below.refl wr.heap.size wr) o) g1
        have g2 := fun o => pw_cell_below (below_alloc (Below.refl wr.heap.size wr) o) g2
        have g3 := fun o => pw_cell_below (below_alloc (Below.refl wr.heap.size wr) o) g3
        have g4 := fun o => pw_cell_below (below_alloc (Below.refl wr.heap.size wr) o) g4
        go_wp2_with fail
        refine (whole_c x y _).mono ?_
        rintro e w1 ⟨rfl, hb1⟩
        have HB1 := Aside0.mk (below_then (below_alloc (below_alloc HB.out _) _) (below_alloc (below_alloc HB.out _) _).size hb1)
        clear hb1 h0 h1 h2 h3 h4 g0 g1 g2 g3 g4 HB
        by_cases hz : wholeI x y = 0
        · have hd : (wholeI x y != 0) = false := by simpa using hz
          have HT : Aside0 (cmpR a b = cmpR (a.drop (i + 1)) (b.drop (i + 1))) := ⟨by rw [HE.out, HS.out, if_pos hz]⟩
          clear hz HS HE
          go_wp2
          go_roundw
          case rel => exact ⟨i + 1, by omega, by go_num, HT, HB1⟩
          case measure => simp [intOf]; omega
        · have hd : (wholeI x y != 0) = true := by simpa using hz
          have HT : Aside0 (cmpR a b = wholeI x y) := ⟨by rw [HE.out, HS.out, if_neg hz]⟩
          clear hz HS HE
          go_wp2
          go_ret
          exact ⟨ret_int HT.out.symm, HB1.out⟩
      · have HS := Aside0.mk (cmpR_more ha hb)
        go_wp2_with fail
        go_ret
        exact ⟨ret_int (by rw [HE.out, HS.out]), below_alloc HB.out _⟩
    · by_cases hb : i < b.length
      · have HS := Aside0.mk (cmpR_less ha hb)
        obtain rfl : i = a.length := by omega
        go_wp2
        go_ret
        exact ⟨ret_int (by rw [HE.out, HS.out]), HB.out⟩
      · have HS := Aside0.mk (cmpR_end ha hb)
        obtain rfl : i = a.length := by omega
        go_wp2
        go_ret
        exact ⟨ret_int (by rw [HE.out, HS.out]), HB.out⟩
def aheadB (a b : List Ch) : Bool := mayL a && mayL b && decide (cmpR a b < 0)
theorem ahead_calls (A0 : Option Addr) (c0 : Nat) (a : List Ch) (A1 : Option Addr) (c1 : Nat) (b : List Ch) (w : World) (hr0 : Kd.C k24 w A0 a.length a) (hc0 : a.length ≤ c0) (hr1 : Kd.C k24 w A1 b.length b) (hc1 : b.length ≤ c1) :
    Calls Try.prog 13 #[.slice A0 a.length c0, .slice A1 b.length c1] w fun e w' => e = .returned (.bool (aheadB a b)) ∧ Below w.heap.size w w' := by
  have HR0 := Aside0.mk hr0
  have HR1 := Aside0.mk hr1
  clear hr0 hr1
  go_enter Try.func13, Try.ntmps13
  go_wp2_with fail
  refine (may_c A0 c0 a w HR0.out hc0).mono ?_
  rintro e w1 ⟨rfl, hb⟩
  have HB1 := Aside0.mk hb
  clear hb
  by_cases ha : mayL a = true
  · go_wp2_with fail
    refine (may_c A1 c1 b w1 (Kd.C_below HR1.out HB1.out) hc1).mono ?_
    rintro e w2 ⟨rfl, hb⟩
    have HB2 := Aside0.mk (below_then HB1.out HB1.out.size hb)
    clear hb
    by_cases hbb : mayL b = true
    · go_wp2_with fail
      refine (compare_calls A0 c0 a A1 c1 b w2 (Kd.C_below HR0.out HB2.out) hc0 (Kd.C_below HR1.out HB2.out) hc1).mono ?_
      rintro e w3 ⟨rfl, hb⟩
      have HB3 := Aside0.mk (below_then HB2.out HB2.out.size hb)
      clear hb
      go_wp2
      go_ret
      exact ⟨ret_bool (by unfold aheadB; rw [ha, hbb]; simp), HB3.out⟩
    · have hbb : mayL b = false := by simpa using hbb
      go_wp2
      go_ret
      exact ⟨ret_bool (by unfold aheadB; rw [ha, hbb]; simp), HB2.out⟩
  · have ha : mayL a = false := by simpa using ha
    go_wp2
    go_ret
    exact ⟨ret_bool (by unfold aheadB; rw [ha]; simp), HB1.out⟩
end Go.Proofs.Ytpkcnifchggbnaa.HD
