/- WRITTEN by a program of this session (wip/hprint.py, over the kit's print): Go functions as plain Lean functions, and that the code comes to just these answers. No condition beyond those that stand in each theorem. -/
import Derived.Test.YtnblmjkaieibhaaQobasex0
import Derived.Test.YtnblmjkaieibhaaQobasex2
namespace Go.Proofs.Ytnblmjkaieibhaa.Qobase
open Go.RowKit Go.Proofs.Ytnblmjkaieibhaa.HK Go.Proofs.YtnblmjkaieibhaaW.PrintWords Go.Proofs.YtnblmjkaieibhaaW.PrintLast Go.Proofs.YtnblmjkaieibhaaW.PrintMore
attribute [local go_sem] max2_int min2_int max_two min_two max_three min_three max_four min_four   -- for this text's walks alone
set_option linter.unusedVariables false
set_option linter.unusedSimpArgs false

/-! ### dispatcherref19_Order_Is: function 20 -/
mutual
def dispatcherref19_Order_Is.l0 : Nat → List Int → Int → Int → List Int → List (List Bool) → Option (Bool × Int)
  | 0, _, _, _, _, _ => none
  | k + 1, x1, x5, x1000, x1001, x1002 => if x5 < (x1.length : Int) then (if 0 ≤ x5 then (if (rd x1 x5) < 0 then (dispatcherref19_Order_Is.j1 k x1 x5 true x1000 x1001 x1002) else (dispatcherref19_Order_Is.j1 k x1 x5 (decide ((rd x1 x5) ≥ (x1.length : Int))) x1000 x1001 x1002)) else (none)) else (some (true, x1000))
def dispatcherref19_Order_Is.j1 : Nat → List Int → Int → Bool → Int → List Int → List (List Bool) → Option (Bool × Int)
  | 0, _, _, _, _, _, _ => none
  | k + 1, x1, x5, x34, x1000, x1001, x1002 => if x34 = true then (some (false, x1000)) else (dispatcherref19_Order_Is.l1 k x1 x5 0 x1000 x1001 x1002)
def dispatcherref19_Order_Is.l1 : Nat → List Int → Int → Int → Int → List Int → List (List Bool) → Option (Bool × Int)
  | 0, _, _, _, _, _, _ => none
  | k + 1, x1, x5, x6, x1000, x1001, x1002 => if x6 < x5 then (if 0 ≤ x6 then (if x6 < (x1.length : Int) then (if 0 ≤ x5 then (if x5 < (x1.length : Int) then (if (rd x1 x6) = (rd x1 x5) then (some (false, x1000)) else (if 0 ≤ (rd x1 x6) then (if (rd x1 x6) < (x1002.length : Int) then (if 0 ≤ (rd x1 x5) then (if (rd x1 x5) < ((rd_L12 x1002 (rd x1 x6)).length : Int) then (if rdOf false (rd_L12 x1002 (rd x1 x6)) (rd x1 x5) = true then (some (false, x1000)) else (dispatcherref19_Order_Is.l1 k x1 x5 (wrap64 (x6 + 1)) x1000 x1001 x1002)) else (none)) else (none)) else (none)) else (none))) else (none)) else (none)) else (none)) else (none)) else (dispatcherref19_Order_Is.l0 k x1 (wrap64 (x5 + 1)) x1000 x1001 x1002)
end
def dispatcherref19_Order_Is.f (k : Nat) (s0_0 : Int) (s0_1 : List Int) (s0_2 : List (List Bool)) (l1 : List Int) : Option (Bool × Int) := if (l1.length : Int) = (s0_1.length : Int) then (dispatcherref19_Order_Is.l0 k l1 0 s0_0 s0_1 s0_2) else (some (false, s0_0))
theorem dispatcherref19_Order_Is.mono_l : ∀ k, (∀ y0 y1 y2 y3 y4, LeO (dispatcherref19_Order_Is.l0 k y0 y1 y2 y3 y4) (dispatcherref19_Order_Is.l0 (k + 1) y0 y1 y2 y3 y4)) ∧ (∀ y0 y1 y2 y3 y4 y5, LeO (dispatcherref19_Order_Is.j1 k y0 y1 y2 y3 y4 y5) (dispatcherref19_Order_Is.j1 (k + 1) y0 y1 y2 y3 y4 y5)) ∧ (∀ y0 y1 y2 y3 y4 y5, LeO (dispatcherref19_Order_Is.l1 k y0 y1 y2 y3 y4 y5) (dispatcherref19_Order_Is.l1 (k + 1) y0 y1 y2 y3 y4 y5))
  | 0 => ⟨fun _ _ _ _ _ r h => by simp [dispatcherref19_Order_Is.l0] at h, fun _ _ _ _ _ _ r h => by simp [dispatcherref19_Order_Is.j1] at h, fun _ _ _ _ _ _ r h => by simp [dispatcherref19_Order_Is.l1] at h⟩
  | k + 1 => by
    obtain ⟨ih0, ih1, ih2⟩ := dispatcherref19_Order_Is.mono_l k
    refine ⟨?_, ?_, ?_⟩
    · intro y0 y1 y2 y3 y4
      unfold dispatcherref19_Order_Is.l0
      repeat' first
      | (with_reducible exact ih0 _ _ _ _ _)
      | (with_reducible exact ih1 _ _ _ _ _ _)
      | (with_reducible exact ih2 _ _ _ _ _ _)
      | (with_reducible exact LeO.refl _)
      | (with_reducible exact LeO.none _)
      | (with_reducible refine LeO.ite ?_ ?_)
      | (with_reducible refine LeO.bind ?_ (fun _ => ?_))
      | exact ih0 _ _ _ _ _
      | exact ih1 _ _ _ _ _ _
      | exact ih2 _ _ _ _ _ _
      | exact LeO.none _
      | refine LeO.ite ?_ ?_
      | refine LeO.bind ?_ (fun _ => ?_)
    · intro y0 y1 y2 y3 y4 y5
      unfold dispatcherref19_Order_Is.j1
      repeat' first
      | (with_reducible exact ih0 _ _ _ _ _)
      | (with_reducible exact ih1 _ _ _ _ _ _)
      | (with_reducible exact ih2 _ _ _ _ _ _)
      | (with_reducible exact LeO.refl _)
      | (with_reducible exact LeO.none _)
      | (with_reducible refine LeO.ite ?_ ?_)
      | (with_reducible refine LeO.bind ?_ (fun _ => ?_))
      | exact ih0 _ _ _ _ _
      | exact ih1 _ _ _ _ _ _
      | exact ih2 _ _ _ _ _ _
      | exact LeO.none _
      | refine LeO.ite ?_ ?_
      | refine LeO.bind ?_ (fun _ => ?_)
    · intro y0 y1 y2 y3 y4 y5
      unfold dispatcherref19_Order_Is.l1
      repeat' first
      | (with_reducible exact ih0 _ _ _ _ _)
      | (with_reducible exact ih1 _ _ _ _ _ _)
      | (with_reducible exact ih2 _ _ _ _ _ _)
      | (with_reducible exact LeO.refl _)
      | (with_reducible exact LeO.none _)
      | (with_reducible refine LeO.ite ?_ ?_)
      | (with_reducible refine LeO.bind ?_ (fun _ => ?_))
      | exact ih0 _ _ _ _ _
      | exact ih1 _ _ _ _ _ _
      | exact ih2 _ _ _ _ _ _
      | exact LeO.none _
      | refine LeO.ite ?_ ?_
      | refine LeO.bind ?_ (fun _ => ?_)
theorem dispatcherref19_Order_Is.mono : ∀ a0 a1 a2 a3 k, LeO (dispatcherref19_Order_Is.f k a0 a1 a2 a3) (dispatcherref19_Order_Is.f (k + 1) a0 a1 a2 a3) := by
  intro a0 a1 a2 a3 k
  obtain ⟨ih0, ih1, ih2⟩ := dispatcherref19_Order_Is.mono_l k
  unfold dispatcherref19_Order_Is.f
  repeat' first
      | (with_reducible exact ih0 _ _ _ _ _)
      | (with_reducible exact ih1 _ _ _ _ _ _)
      | (with_reducible exact ih2 _ _ _ _ _ _)
      | (with_reducible exact LeO.refl _)
      | (with_reducible exact LeO.none _)
      | (with_reducible refine LeO.ite ?_ ?_)
      | (with_reducible refine LeO.bind ?_ (fun _ => ?_))
      | exact ih0 _ _ _ _ _
      | exact ih1 _ _ _ _ _ _
      | exact ih2 _ _ _ _ _ _
      | exact LeO.none _
      | refine LeO.ite ?_ ?_
      | refine LeO.bind ?_ (fun _ => ?_)
set_option maxHeartbeats 8000000 in
set_option maxRecDepth 100000 in
theorem dispatcherref19_Order_Is.calls (k : Nat) (g : Nat) (s0_0 : Int) (s0_1 : List Int) (s0_2 : List (List Bool)) (A1 : Option Addr) (c1 : Nat) (l1 : List Int) (r1 : Bool) (r2 : Int) (w0 w : World) (hI : IsS44 w0 w g s0_0 s0_1 s0_2) (hB : Below w0.heap.size w0 w) (hr1 : Kd.C (Kd.int .i64) w A1 l1.length l1) (hc1 : l1.length ≤ c1) (hf1 : ∀ ad, A1 = some ad → 0 < l1.length → ad.block ≠ g) (h : dispatcherref19_Order_Is.f k s0_0 s0_1 s0_2 l1 = some (r1, r2)) :
    Calls Try.prog 20 #[.pointer (some ⟨g, 0, none⟩), .slice A1 l1.length c1] w fun e w' => e = .returned (.bool r1) ∧ IsS44 w0 w' g r2 s0_1 s0_2 ∧ Below w0.heap.size w0 w' ∧ KeepBut w w' g none := by
  have HR1 := Aside0.mk hr1
  have HC1 := Aside0.mk hc1
  clear hr1 hc1
  have HI0 := Aside0.mk hI
  have HK := Aside0.mk (KeepBut.refl w g none)
  have HL := Aside0.mk hB.size
  clear hI
  have HW0 := Aside0.mk hB.size
  have HB := Aside0.mk hB
  clear hB
  have H : (if (l1.length : Int) = (s0_1.length : Int) then (dispatcherref19_Order_Is.l0 k l1 0 s0_0 s0_1 s0_2) else (some (false, s0_0))) = some (r1, r2) := h
  clear h
  by_cases c3 : (l1.length : Int) = (s0_1.length : Int)
  · rw [if_pos c3] at H
    have c3b0 : ((l1.length : Int) == (s0_1.length : Int)) = true := beq_iff_eq.mpr c3
    have c3b1 : ((l1.length : Int) != (s0_1.length : Int)) = false := bne_eq_false_iff_eq.mpr c3
    have c3b2 : (l1.length == s0_1.length) = true := by first | simpa using c3 | (simp at c3 ⊢; omega)
    clear c3
    have H' := Aside0.mk H
    clear H
    obtain ⟨ASz4_1, cSz4_1, ASz4_2, cSz4_2, HGz4, hgz4, HSz4_1, HSz4_2⟩ := HI0.out
    have hcz4_0 := cellS44_0 HGz4
    have hcz4_1 := cellS44_1 HGz4
    have hcz4_2 := cellS44_2 HGz4
    have hfz4_0 := blk_frozen HGz4 0
    clear HGz4 hgz4
    go_enter Try.func20, Try.ntmps20
    go_wp2
    repeat (go_quiet (fail); try go_wp2)
    go_loopg [5] k (fun kq v5 w' => ∃ (x5_1 : Int), v5 = .int .i64 x5_1 ∧ Aside0 (dispatcherref19_Order_Is.l0 kq l1 x5_1 s0_0 s0_1 s0_2 = some (r1, r2)) ∧ Aside0 (kq ≤ k) ∧ Aside0 (IsS44 w0 w' g s0_0 s0_1 s0_2) ∧ Aside0 (KeepBut w w' g none) ∧ Aside0 (Below w0.heap.size w0 w'))
    case atStart => exact ⟨(0), (by first | rfl | (simp; done) | (simp [*]; done)), H', ⟨Nat.le_refl _⟩, ⟨by repeat (first | (with_reducible first | exact HI0.out | apply IsS44.alloc | apply IsS44.drewN | apply IsS44.drew | apply IsS44.set_0) | exact HI0.out)⟩, ⟨by repeat (first | (with_reducible first | exact HK.out | apply KeepBut.set_ | apply keep_drewN | apply keep_drew | apply keep_alloc) | exact HK.out)⟩, ⟨by repeat (first | (with_reducible first | exact HB.out | apply below_alloc | apply pw_below_drewN | apply below_drew1 | refine below_set ?_ (IsS44.ge HI0.out)) | exact HB.out)⟩⟩
    case round =>
      clear H'
      try clear c1
      try clear c2
      try clear p2
      try clear c3
      try clear c3b0
      try clear c3b1
      try clear c3b2
      try clear hcz4_0
      try clear hcz4_1
      try clear hcz4_2
      try clear hfz4_0
      obtain ⟨x5_1, rfl, HA, HK1, HI0, HK, HB⟩ := hrel
      cases gk with
      | zero => exact absurd HA.out (by simp [dispatcherref19_Order_Is.l0])
      | succ k1 =>
        have H := HA.out
        clear HA
        simp only [dispatcherref19_Order_Is.l0] at H
        by_cases c5 : x5_1 < (l1.length : Int)
        · rw [if_pos c5] at H
          have c5b0 : decide (x5_1 < (l1.length : Int)) = true := decide_eq_true c5
          clear c5
          have HC6 := Aside0.mk H
          clear H
          go_upto_region 6 with (fail)
          repeat (go_quiet (fail); go_upto_region 6 with (fail))
          go_cut [34] (fun v34 wc => ∃ (kq : Nat) (x34_5 : Bool), v34 = .bool x34_5 ∧ Aside0 (dispatcherref19_Order_Is.j1 kq l1 x5_1 x34_5 s0_0 s0_1 s0_2 = some (r1, r2)) ∧ Aside0 (kq ≤ k1) ∧ Aside0 (IsS44 w0 wc g s0_0 s0_1 s0_2) ∧ Aside0 (KeepBut w wc g none) ∧ Aside0 (Below w0.heap.size w0 wc))
          case first =>
            have H := HC6.out
            clear HC6
            by_cases c7 : 0 ≤ x5_1
            · rw [if_pos c7] at H
              have c7b0 : decide (0 ≤ x5_1) = true := decide_eq_true c7
              clear c7
              (first | rw [c7b0] | (simp only [i64_w, i32_w]; rw [c7b0]) | skip)
              by_cases c8 : (rd l1 x5_1) < 0
              · rw [if_pos c8] at H
                have c8b0 : decide ((rd l1 x5_1) < 0) = true := decide_eq_true c8
                clear c8
                have H' := Aside0.mk H
                clear H
                have p131 : 0 ≤ (x5_1 : Int) := of_decide_eq_true (by first | (with_reducible assumption) | assumption)
                have q131 : x5_1 < (l1.length : Int) := of_decide_eq_true (by first | (with_reducible assumption) | assumption)
                obtain ⟨ad131, e131, hx131_0⟩ := Kd.at_int HR1.out x5_1 p131 q131
                cases e131
                (first | (replace hx131_0 := keep_cell HK.out hx131_0 (by first | (rw [add_block]; exact hf1 _ rfl (by omega)) | exact hf1 _ rfl (by omega) | exact hf1 ad131 rfl (by omega))) | (replace hx131_0 := pw_cell_below HB.out hx131_0))
                replace p131 := eq_true p131
                replace q131 := eq_true q131
                go_wp2
                repeat (go_quiet (fail); try go_wp2)
                go_meet
                case rel => exact ⟨_, (true), (by first | rfl | (simp; done) | (simp [*]; done)), H', ⟨by have := HK1.out; first | omega | exact Nat.le_refl _⟩, ⟨by repeat (first | (with_reducible first | exact HI0.out | apply IsS44.alloc | apply IsS44.drewN | apply IsS44.drew | apply IsS44.set_0) | exact HI0.out)⟩, ⟨by repeat (first | (with_reducible first | exact HK.out | apply KeepBut.set_ | apply keep_drewN | apply keep_drew | apply keep_alloc) | exact HK.out)⟩, ⟨by repeat (first | (with_reducible first | exact HB.out | apply below_alloc | apply pw_below_drewN | apply below_drew1 | refine below_set ?_ (IsS44.ge HI0.out)) | exact HB.out)⟩⟩
              · rw [if_neg c8] at H
                have c8b0 : decide ((rd l1 x5_1) < 0) = false := decide_eq_false c8
                clear c8
                have H' := Aside0.mk H
                clear H
                have p131 : 0 ≤ (x5_1 : Int) := of_decide_eq_true (by first | (with_reducible assumption) | assumption)
                have q131 : x5_1 < (l1.length : Int) := of_decide_eq_true (by first | (with_reducible assumption) | assumption)
                obtain ⟨ad131, e131, hx131_0⟩ := Kd.at_int HR1.out x5_1 p131 q131
                cases e131
                (first | (replace hx131_0 := keep_cell HK.out hx131_0 (by first | (rw [add_block]; exact hf1 _ rfl (by omega)) | exact hf1 _ rfl (by omega) | exact hf1 ad131 rfl (by omega))) | (replace hx131_0 := pw_cell_below HB.out hx131_0))
                replace p131 := eq_true p131
                replace q131 := eq_true q131
                have p132 : 0 ≤ (x5_1 : Int) := of_decide_eq_true (by first | (with_reducible assumption) | assumption)
                have q132 : x5_1 < (l1.length : Int) := of_decide_eq_true (by first | (with_reducible assumption) | assumption)
                obtain ⟨ad132, e132, hx132_0⟩ := Kd.at_int HR1.out x5_1 p132 q132
                obtain rfl : ad131 = ad132 := (by injection e132)
                (first | (replace hx132_0 := keep_cell HK.out hx132_0 (by first | (rw [add_block]; exact hf1 _ rfl (by omega)) | exact hf1 _ rfl (by omega) | exact hf1 ad131 rfl (by omega))) | (replace hx132_0 := pw_cell_below HB.out hx132_0))
                replace p132 := eq_true p132
                replace q132 := eq_true q132
                go_wp2
                repeat (go_quiet (fail); try go_wp2)
                go_meet
                case rel => exact ⟨_, (decide ((rd l1 x5_1) ≥ (l1.length : Int))), (by first | rfl | (simp; done) | (simp [*]; done)), H', ⟨by have := HK1.out; first | omega | exact Nat.le_refl _⟩, ⟨by repeat (first | (with_reducible first | exact HI0.out | apply IsS44.alloc | apply IsS44.drewN | apply IsS44.drew | apply IsS44.set_0) | exact HI0.out)⟩, ⟨by repeat (first | (with_reducible first | exact HK.out | apply KeepBut.set_ | apply keep_drewN | apply keep_drew | apply keep_alloc) | exact HK.out)⟩, ⟨by repeat (first | (with_reducible first | exact HB.out | apply below_alloc | apply pw_below_drewN | apply below_drew1 | refine below_set ?_ (IsS44.ge HI0.out)) | exact HB.out)⟩⟩
            · rw [if_neg c7] at H
              exact absurd H (by simp)
          case rest =>
            clear HC6
            try clear c1
            try clear p1
            try clear q1
            try clear hx1
            try clear c2
            try clear p2
            try clear c3
            try clear c3b0
            try clear c3b1
            try clear c3b2
            try clear c5
            try clear c5b0
            try clear c7
            try clear c7b0
            try clear c8
            try clear c8b0
            try clear hcz4_0
            try clear hcz4_1
            try clear hcz4_2
            try clear hfz4_0
            try clear hx131_0
            try clear hx132_0
            try clear p131
            try clear p132
            try clear p2
            try clear q131
            try clear q132
            obtain ⟨kq, x34_5, rfl, HA, HJ5, HI0, HK, HB⟩ := hcut
            cases kq with
            | zero => exact absurd HA.out (by simp [dispatcherref19_Order_Is.j1])
            | succ kj5 =>
              have H := HA.out
              clear HA
              simp only [dispatcherref19_Order_Is.j1] at H
              by_cases c9 : x34_5 = true
              · subst c9
                have H1 : (some (false, s0_0)) = some (r1, r2) := by rw [if_pos rfl] at H; exact H
                clear H
                have H := H1
                clear H1
                simp only [Option.some.injEq, Prod.mk.injEq] at H
                obtain ⟨rfl, rfl⟩ := H
                go_wp2
                repeat (go_quiet (fail); try go_wp2)
                go_ret
                exact ⟨by first | rfl | (simp [errW_none, errW_some] <;> rfl) | (simp [*, errW_none, errW_some] <;> rfl), by repeat (first | (with_reducible first | exact HI0.out | apply IsS44.alloc | apply IsS44.drewN | apply IsS44.drew | apply IsS44.set_0) | exact HI0.out), by repeat (first | (with_reducible first | exact HB.out | apply below_alloc | apply pw_below_drewN | apply below_drew1 | refine below_set ?_ (IsS44.ge HI0.out)) | exact HB.out), by repeat (first | (with_reducible first | exact HK.out | apply KeepBut.set_ | apply keep_drewN | apply keep_drew | apply keep_alloc) | exact HK.out)⟩
              · replace c9 := Bool.eq_false_iff.mpr c9
                subst c9
                have H1 : (dispatcherref19_Order_Is.l1 kj5 l1 x5_1 0 s0_0 s0_1 s0_2) = some (r1, r2) := by rw [if_neg (show ¬ (false = true) by decide)] at H; exact H
                clear H
                have H := H1
                clear H1
                have H' := Aside0.mk H
                clear H
                go_wp2
                repeat (go_quiet (fail); try go_wp2)
                go_loopg [6] kj5 (fun kq v6 w' => ∃ (x6_3 : Int), v6 = .int .i64 x6_3 ∧ Aside0 (dispatcherref19_Order_Is.l1 kq l1 x5_1 x6_3 s0_0 s0_1 s0_2 = some (r1, r2)) ∧ Aside0 (kq ≤ kj5) ∧ Aside0 (IsS44 w0 w' g s0_0 s0_1 s0_2) ∧ Aside0 (KeepBut w w' g none) ∧ Aside0 (Below w0.heap.size w0 w'))
                case atStart => exact ⟨(0), (by first | rfl | (simp; done) | (simp [*]; done)), H', ⟨Nat.le_refl _⟩, ⟨by repeat (first | (with_reducible first | exact HI0.out | apply IsS44.alloc | apply IsS44.drewN | apply IsS44.drew | apply IsS44.set_0) | exact HI0.out)⟩, ⟨by repeat (first | (with_reducible first | exact HK.out | apply KeepBut.set_ | apply keep_drewN | apply keep_drew | apply keep_alloc) | exact HK.out)⟩, ⟨by repeat (first | (with_reducible first | exact HB.out | apply below_alloc | apply pw_below_drewN | apply below_drew1 | refine below_set ?_ (IsS44.ge HI0.out)) | exact HB.out)⟩⟩
                case round =>
                  clear H'
                  try clear c1
                  try clear p1
                  try clear q1
                  try clear hx1
                  try clear c2
                  try clear p2
                  try clear c3
                  try clear c3b0
                  try clear c3b1
                  try clear c3b2
                  try clear c5
                  try clear c5b0
                  try clear c7
                  try clear c7b0
                  try clear c8
                  try clear c8b0
                  try clear c9
                  try clear hcz4_0
                  try clear hcz4_1
                  try clear hcz4_2
                  try clear hfz4_0
                  try clear hx131_0
                  try clear hx132_0
                  try clear p1
                  try clear p131
                  try clear p132
                  try clear p2
                  try clear q1
                  try clear q131
                  try clear q132
                  obtain ⟨x6_3, rfl, HA, HK3, HI0, HK, HB⟩ := hrel
                  cases gk with
                  | zero => exact absurd HA.out (by simp [dispatcherref19_Order_Is.l1])
                  | succ k3 =>
                    have H := HA.out
                    clear HA
                    simp only [dispatcherref19_Order_Is.l1] at H
                    by_cases c10 : x6_3 < x5_1
                    · rw [if_pos c10] at H
                      have c10b0 : decide (x6_3 < x5_1) = true := decide_eq_true c10
                      clear c10
                      by_cases c11 : 0 ≤ x6_3
                      · rw [if_pos c11] at H
                        have c11b0 : decide (0 ≤ x6_3) = true := decide_eq_true c11
                        clear c11
                        by_cases c12 : x6_3 < (l1.length : Int)
                        · rw [if_pos c12] at H
                          have c12b0 : decide (x6_3 < (l1.length : Int)) = true := decide_eq_true c12
                          clear c12
                          by_cases c13 : 0 ≤ x5_1
                          · rw [if_pos c13] at H
                            have c13b0 : decide (0 ≤ x5_1) = true := decide_eq_true c13
                            clear c13
                            by_cases c14 : x5_1 < (l1.length : Int)
                            · rw [if_pos c14] at H
                              have c14b0 : decide (x5_1 < (l1.length : Int)) = true := decide_eq_true c14
                              clear c14
                              by_cases c15 : (rd l1 x6_3) = (rd l1 x5_1)
                              · rw [if_pos c15] at H
                                have c15b0 : ((rd l1 x6_3) == (rd l1 x5_1)) = true := beq_iff_eq.mpr c15
                                have c15b1 : ((rd l1 x6_3) != (rd l1 x5_1)) = false := bne_eq_false_iff_eq.mpr c15
                                clear c15
                                simp only [Option.some.injEq, Prod.mk.injEq] at H
                                obtain ⟨rfl, rfl⟩ := H
                                have p133 : 0 ≤ (x6_3 : Int) := of_decide_eq_true (by first | (with_reducible assumption) | assumption)
                                have q133 : x6_3 < (l1.length : Int) := of_decide_eq_true (by first | (with_reducible assumption) | assumption)
                                obtain ⟨ad133, e133, hx133_0⟩ := Kd.at_int HR1.out x6_3 p133 q133
                                cases e133
                                (first | (replace hx133_0 := keep_cell HK.out hx133_0 (by first | (rw [add_block]; exact hf1 _ rfl (by omega)) | exact hf1 _ rfl (by omega) | exact hf1 ad133 rfl (by omega))) | (replace hx133_0 := pw_cell_below HB.out hx133_0))
                                replace p133 := eq_true p133
                                replace q133 := eq_true q133
                                have p134 : 0 ≤ (x5_1 : Int) := of_decide_eq_true (by first | (with_reducible assumption) | assumption)
                                have q134 : x5_1 < (l1.length : Int) := of_decide_eq_true (by first | (with_reducible assumption) | assumption)
                                obtain ⟨ad134, e134, hx134_0⟩ := Kd.at_int HR1.out x5_1 p134 q134
                                obtain rfl : ad133 = ad134 := (by injection e134)
                                (first | (replace hx134_0 := keep_cell HK.out hx134_0 (by first | (rw [add_block]; exact hf1 _ rfl (by omega)) | exact hf1 _ rfl (by omega) | exact hf1 ad133 rfl (by omega))) | (replace hx134_0 := pw_cell_below HB.out hx134_0))
                                replace p134 := eq_true p134
                                replace q134 := eq_true q134
                                go_wp2
                                repeat (go_quiet (fail); try go_wp2)
                                go_ret
                                exact ⟨by first | rfl | (simp [errW_none, errW_some] <;> rfl) | (simp [*, errW_none, errW_some] <;> rfl), by repeat (first | (with_reducible first | exact HI0.out | apply IsS44.alloc | apply IsS44.drewN | apply IsS44.drew | apply IsS44.set_0) | exact HI0.out), by repeat (first | (with_reducible first | exact HB.out | apply below_alloc | apply pw_below_drewN | apply below_drew1 | refine below_set ?_ (IsS44.ge HI0.out)) | exact HB.out), by repeat (first | (with_reducible first | exact HK.out | apply KeepBut.set_ | apply keep_drewN | apply keep_drew | apply keep_alloc) | exact HK.out)⟩
                              · rw [if_neg c15] at H
                                have c15b0 : ((rd l1 x6_3) == (rd l1 x5_1)) = false := beq_eq_false_iff_ne.mpr c15
                                have c15b1 : ((rd l1 x6_3) != (rd l1 x5_1)) = true := bne_iff_ne.mpr c15
                                by_cases c16 : 0 ≤ (rd l1 x6_3)
                                · rw [if_pos c16] at H
                                  have c16b0 : decide (0 ≤ (rd l1 x6_3)) = true := decide_eq_true c16
                                  clear c16
                                  by_cases c17 : (rd l1 x6_3) < (s0_2.length : Int)
                                  · rw [if_pos c17] at H
                                    have c17b0 : decide ((rd l1 x6_3) < (s0_2.length : Int)) = true := decide_eq_true c17
                                    clear c17
                                    by_cases c18 : 0 ≤ (rd l1 x5_1)
                                    · rw [if_pos c18] at H
                                      have c18b0 : decide (0 ≤ (rd l1 x5_1)) = true := decide_eq_true c18
                                      clear c18
                                      by_cases c19 : (rd l1 x5_1) < ((rd_L12 s0_2 (rd l1 x6_3)).length : Int)
                                      · rw [if_pos c19] at H
                                        have c19b0 : decide ((rd l1 x5_1) < ((rd_L12 s0_2 (rd l1 x6_3)).length : Int)) = true := decide_eq_true c19
                                        clear c19
                                        obtain ⟨bq20, hbq20⟩ : ∃ b_ : Bool, b_ = (rdOf false (rd_L12 s0_2 (rd l1 x6_3)) (rd l1 x5_1)) := ⟨_, rfl⟩
                                        replace H : (if bq20 = true then (some (false, s0_0)) else (dispatcherref19_Order_Is.l1 k3 l1 x5_1 (wrap64 (x6_3 + 1)) s0_0 s0_1 s0_2)) = some (r1, r2) := by rw [← hbq20] at H; exact H
                                        have Nbq20 := Aside0.mk hbq20
                                        clear hbq20
                                        by_cases c21 : bq20 = true
                                        · subst c21
                                          have H1 : (some (false, s0_0)) = some (r1, r2) := by rw [if_pos rfl] at H; exact H
                                          clear H
                                          have H := H1
                                          clear H1
                                          simp only [Option.some.injEq, Prod.mk.injEq] at H
                                          obtain ⟨rfl, rfl⟩ := H
                                          have p133 : 0 ≤ (x6_3 : Int) := of_decide_eq_true (by first | (with_reducible assumption) | assumption)
                                          have q133 : x6_3 < (l1.length : Int) := of_decide_eq_true (by first | (with_reducible assumption) | assumption)
                                          obtain ⟨ad133, e133, hx133_0⟩ := Kd.at_int HR1.out x6_3 p133 q133
                                          cases e133
                                          (first | (replace hx133_0 := keep_cell HK.out hx133_0 (by first | (rw [add_block]; exact hf1 _ rfl (by omega)) | exact hf1 _ rfl (by omega) | exact hf1 ad133 rfl (by omega))) | (replace hx133_0 := pw_cell_below HB.out hx133_0))
                                          replace p133 := eq_true p133
                                          replace q133 := eq_true q133
                                          have p134 : 0 ≤ (x5_1 : Int) := of_decide_eq_true (by first | (with_reducible assumption) | assumption)
                                          have q134 : x5_1 < (l1.length : Int) := of_decide_eq_true (by first | (with_reducible assumption) | assumption)
                                          obtain ⟨ad134, e134, hx134_0⟩ := Kd.at_int HR1.out x5_1 p134 q134
                                          obtain rfl : ad133 = ad134 := (by injection e134)
                                          (first | (replace hx134_0 := keep_cell HK.out hx134_0 (by first | (rw [add_block]; exact hf1 _ rfl (by omega)) | exact hf1 _ rfl (by omega) | exact hf1 ad133 rfl (by omega))) | (replace hx134_0 := pw_cell_below HB.out hx134_0))
                                          replace p134 := eq_true p134
                                          replace q134 := eq_true q134
                                          obtain ⟨ASz22_1, cSz22_1, ASz22_2, cSz22_2, HGz22, hgz22, HSz22_1, HSz22_2⟩ := HI0.out
                                          have hcz22_0 := cellS44_0 HGz22
                                          have hcz22_1 := cellS44_1 HGz22
                                          have hcz22_2 := cellS44_2 HGz22
                                          have hfz22_0 := blk_frozen HGz22 0
                                          clear HGz22 hgz22
                                          have p135 : 0 ≤ (x6_3 : Int) := of_decide_eq_true (by first | (with_reducible assumption) | assumption)
                                          have q135 : x6_3 < (l1.length : Int) := of_decide_eq_true (by first | (with_reducible assumption) | assumption)
                                          obtain ⟨ad135, e135, hx135_0⟩ := Kd.at_int HR1.out x6_3 p135 q135
                                          obtain rfl : ad133 = ad135 := (by injection e135)
                                          (first | (replace hx135_0 := keep_cell HK.out hx135_0 (by first | (rw [add_block]; exact hf1 _ rfl (by omega)) | exact hf1 _ rfl (by omega) | exact hf1 ad133 rfl (by omega))) | (replace hx135_0 := pw_cell_below HB.out hx135_0))
                                          replace p135 := eq_true p135
                                          replace q135 := eq_true q135
                                          have p136 : 0 ≤ ((rd l1 x6_3) : Int) := of_decide_eq_true (by first | (with_reducible assumption) | assumption)
                                          have q136 : (rd l1 x6_3) < (s0_2.length : Int) := of_decide_eq_true (by first | (with_reducible assumption) | assumption)
                                          obtain ⟨ad136, A136_0, c136_0, e136, hx136_0, hl136_0, hi136_0⟩ := at_L12 HSz22_2 (rd l1 x6_3) p136 q136
                                          cases e136
                                          replace hx136_0 := pw_cell_below HB.out hx136_0
                                          have HR136_0 := Aside0.mk hi136_0
                                          have HC136_0 := Aside0.mk hl136_0
                                          clear hi136_0 hl136_0
                                          replace p136 := eq_true p136
                                          replace q136 := eq_true q136
                                          have p137 : 0 ≤ (x5_1 : Int) := of_decide_eq_true (by first | (with_reducible assumption) | assumption)
                                          have q137 : x5_1 < (l1.length : Int) := of_decide_eq_true (by first | (with_reducible assumption) | assumption)
                                          obtain ⟨ad137, e137, hx137_0⟩ := Kd.at_int HR1.out x5_1 p137 q137
                                          obtain rfl : ad133 = ad137 := (by injection e137)
                                          (first | (replace hx137_0 := keep_cell HK.out hx137_0 (by first | (rw [add_block]; exact hf1 _ rfl (by omega)) | exact hf1 _ rfl (by omega) | exact hf1 ad133 rfl (by omega))) | (replace hx137_0 := pw_cell_below HB.out hx137_0))
                                          replace p137 := eq_true p137
                                          replace q137 := eq_true q137
                                          have p138 : 0 ≤ ((rd l1 x5_1) : Int) := of_decide_eq_true (by first | (with_reducible assumption) | assumption)
                                          have q138 : (rd l1 x5_1) < ((rd_L12 s0_2 (rd l1 x6_3)).length : Int) := of_decide_eq_true (by first | (with_reducible assumption) | assumption)
                                          obtain ⟨ad138, e138, hx138_0⟩ := Kd.at_bool HR136_0.out (rd l1 x5_1) p138 q138
                                          (try rw [← Nbq20.out] at hx138_0)
                                          cases e138
                                          (first | (replace hx138_0 := keep_cell HK.out hx138_0 (by first | (rw [add_block]; exact hf136_0 _ rfl (by omega)) | exact hf136_0 _ rfl (by omega) | exact hf136_0 ad138 rfl (by omega))) | (replace hx138_0 := pw_cell_below HB.out hx138_0))
                                          replace p138 := eq_true p138
                                          replace q138 := eq_true q138
                                          go_wp2
                                          repeat (go_quiet (fail); try go_wp2)
                                          go_ret
                                          exact ⟨by first | rfl | (simp [errW_none, errW_some] <;> rfl) | (simp [*, errW_none, errW_some] <;> rfl), by repeat (first | (with_reducible first | exact HI0.out | apply IsS44.alloc | apply IsS44.drewN | apply IsS44.drew | apply IsS44.set_0) | exact HI0.out), by repeat (first | (with_reducible first | exact HB.out | apply below_alloc | apply pw_below_drewN | apply below_drew1 | refine below_set ?_ (IsS44.ge HI0.out)) | exact HB.out), by repeat (first | (with_reducible first | exact HK.out | apply KeepBut.set_ | apply keep_drewN | apply keep_drew | apply keep_alloc) | exact HK.out)⟩
                                        · replace c21 := Bool.eq_false_iff.mpr c21
                                          subst c21
                                          have H1 : (dispatcherref19_Order_Is.l1 k3 l1 x5_1 (wrap64 (x6_3 + 1)) s0_0 s0_1 s0_2) = some (r1, r2) := by rw [if_neg (show ¬ (false = true) by decide)] at H; exact H
                                          clear H
                                          have H := H1
                                          clear H1
                                          have H' := Aside0.mk H
                                          clear H
                                          have p133 : 0 ≤ (x6_3 : Int) := of_decide_eq_true (by first | (with_reducible assumption) | assumption)
                                          have q133 : x6_3 < (l1.length : Int) := of_decide_eq_true (by first | (with_reducible assumption) | assumption)
                                          obtain ⟨ad133, e133, hx133_0⟩ := Kd.at_int HR1.out x6_3 p133 q133
                                          cases e133
                                          (first | (replace hx133_0 := keep_cell HK.out hx133_0 (by first | (rw [add_block]; exact hf1 _ rfl (by omega)) | exact hf1 _ rfl (by omega) | exact hf1 ad133 rfl (by omega))) | (replace hx133_0 := pw_cell_below HB.out hx133_0))
                                          replace p133 := eq_true p133
                                          replace q133 := eq_true q133
                                          have p134 : 0 ≤ (x5_1 : Int) := of_decide_eq_true (by first | (with_reducible assumption) | assumption)
                                          have q134 : x5_1 < (l1.length : Int) := of_decide_eq_true (by first | (with_reducible assumption) | assumption)
                                          obtain ⟨ad134, e134, hx134_0⟩ := Kd.at_int HR1.out x5_1 p134 q134
                                          obtain rfl : ad133 = ad134 := (by injection e134)
                                          (first | (replace hx134_0 := keep_cell HK.out hx134_0 (by first | (rw [add_block]; exact hf1 _ rfl (by omega)) | exact hf1 _ rfl (by omega) | exact hf1 ad133 rfl (by omega))) | (replace hx134_0 := pw_cell_below HB.out hx134_0))
                                          replace p134 := eq_true p134
                                          replace q134 := eq_true q134
                                          obtain ⟨ASz23_1, cSz23_1, ASz23_2, cSz23_2, HGz23, hgz23, HSz23_1, HSz23_2⟩ := HI0.out
                                          have hcz23_0 := cellS44_0 HGz23
                                          have hcz23_1 := cellS44_1 HGz23
                                          have hcz23_2 := cellS44_2 HGz23
                                          have hfz23_0 := blk_frozen HGz23 0
                                          clear HGz23 hgz23
                                          have p135 : 0 ≤ (x6_3 : Int) := of_decide_eq_true (by first | (with_reducible assumption) | assumption)
                                          have q135 : x6_3 < (l1.length : Int) := of_decide_eq_true (by first | (with_reducible assumption) | assumption)
                                          obtain ⟨ad135, e135, hx135_0⟩ := Kd.at_int HR1.out x6_3 p135 q135
                                          obtain rfl : ad133 = ad135 := (by injection e135)
                                          (first | (replace hx135_0 := keep_cell HK.out hx135_0 (by first | (rw [add_block]; exact hf1 _ rfl (by omega)) | exact hf1 _ rfl (by omega) | exact hf1 ad133 rfl (by omega))) | (replace hx135_0 := pw_cell_below HB.out hx135_0))
                                          replace p135 := eq_true p135
                                          replace q135 := eq_true q135
                                          have p136 : 0 ≤ ((rd l1 x6_3) : Int) := of_decide_eq_true (by first | (with_reducible assumption) | assumption)
                                          have q136 : (rd l1 x6_3) < (s0_2.length : Int) := of_decide_eq_true (by first | (with_reducible assumption) | assumption)
                                          obtain ⟨ad136, A136_0, c136_0, e136, hx136_0, hl136_0, hi136_0⟩ := at_L12 HSz23_2 (rd l1 x6_3) p136 q136
                                          cases e136
                                          replace hx136_0 := pw_cell_below HB.out hx136_0
                                          have HR136_0 := Aside0.mk hi136_0
                                          have HC136_0 := Aside0.mk hl136_0
                                          clear hi136_0 hl136_0
                                          replace p136 := eq_true p136
                                          replace q136 := eq_true q136
                                          have p137 : 0 ≤ (x5_1 : Int) := of_decide_eq_true (by first | (with_reducible assumption) | assumption)
                                          have q137 : x5_1 < (l1.length : Int) := of_decide_eq_true (by first | (with_reducible assumption) | assumption)
                                          obtain ⟨ad137, e137, hx137_0⟩ := Kd.at_int HR1.out x5_1 p137 q137
                                          obtain rfl : ad133 = ad137 := (by injection e137)
                                          (first | (replace hx137_0 := keep_cell HK.out hx137_0 (by first | (rw [add_block]; exact hf1 _ rfl (by omega)) | exact hf1 _ rfl (by omega) | exact hf1 ad133 rfl (by omega))) | (replace hx137_0 := pw_cell_below HB.out hx137_0))
                                          replace p137 := eq_true p137
                                          replace q137 := eq_true q137
                                          have p138 : 0 ≤ ((rd l1 x5_1) : Int) := of_decide_eq_true (by first | (with_reducible assumption) | assumption)
                                          have q138 : (rd l1 x5_1) < ((rd_L12 s0_2 (rd l1 x6_3)).length : Int) := of_decide_eq_true (by first | (with_reducible assumption) | assumption)
                                          obtain ⟨ad138, e138, hx138_0⟩ := Kd.at_bool HR136_0.out (rd l1 x5_1) p138 q138
                                          (try rw [← Nbq20.out] at hx138_0)
                                          cases e138
                                          (first | (replace hx138_0 := keep_cell HK.out hx138_0 (by first | (rw [add_block]; exact hf136_0 _ rfl (by omega)) | exact hf136_0 _ rfl (by omega) | exact hf136_0 ad138 rfl (by omega))) | (replace hx138_0 := pw_cell_below HB.out hx138_0))
                                          replace p138 := eq_true p138
                                          replace q138 := eq_true q138
                                          go_wp2
                                          repeat (go_quiet (fail); try go_wp2)
                                          go_roundg k3
                                          case measure => have := HK1.out; have := HJ5.out; have := HK3.out; omega
                                          case rel => exact ⟨(wrap64 (x6_3 + 1)), (by first | rfl | (simp; done) | (simp [*]; done)), H', ⟨by have := HK1.out; have := HJ5.out; have := HK3.out; omega⟩, ⟨by repeat (first | (with_reducible first | exact HI0.out | apply IsS44.alloc | apply IsS44.drewN | apply IsS44.drew | apply IsS44.set_0) | exact HI0.out)⟩, ⟨by repeat (first | (with_reducible first | exact HK.out | apply KeepBut.set_ | apply keep_drewN | apply keep_drew | apply keep_alloc) | exact HK.out)⟩, ⟨by repeat (first | (with_reducible first | exact HB.out | apply below_alloc | apply pw_below_drewN | apply below_drew1 | refine below_set ?_ (IsS44.ge HI0.out)) | exact HB.out)⟩⟩
                                      · rw [if_neg c19] at H
                                        exact absurd H (by simp)
                                    · rw [if_neg c18] at H
                                      exact absurd H (by simp)
                                  · rw [if_neg c17] at H
                                    exact absurd H (by simp)
                                · rw [if_neg c16] at H
                                  exact absurd H (by simp)
                            · rw [if_neg c14] at H
                              exact absurd H (by simp)
                          · rw [if_neg c13] at H
                            exact absurd H (by simp)
                        · rw [if_neg c12] at H
                          exact absurd H (by simp)
                      · rw [if_neg c11] at H
                        exact absurd H (by simp)
                    · rw [if_neg c10] at H
                      have c10b0 : decide (x6_3 < x5_1) = false := decide_eq_false c10
                      clear c10
                      have H' := Aside0.mk H
                      clear H
                      go_wp2
                      repeat (go_quiet (fail); try go_wp2)
                      go_roundg k3
                      case measure => have := HK1.out; have := HJ5.out; have := HK3.out; omega
                      case rel => exact ⟨(wrap64 (x5_1 + 1)), (by first | rfl | (simp; done) | (simp [*]; done)), H', ⟨by have := HK1.out; have := HJ5.out; have := HK3.out; omega⟩, ⟨by repeat (first | (with_reducible first | exact HI0.out | apply IsS44.alloc | apply IsS44.drewN | apply IsS44.drew | apply IsS44.set_0) | exact HI0.out)⟩, ⟨by repeat (first | (with_reducible first | exact HK.out | apply KeepBut.set_ | apply keep_drewN | apply keep_drew | apply keep_alloc) | exact HK.out)⟩, ⟨by repeat (first | (with_reducible first | exact HB.out | apply below_alloc | apply pw_below_drewN | apply below_drew1 | refine below_set ?_ (IsS44.ge HI0.out)) | exact HB.out)⟩⟩
        · rw [if_neg c5] at H
          have c5b0 : decide (x5_1 < (l1.length : Int)) = false := decide_eq_false c5
          clear c5
          simp only [Option.some.injEq, Prod.mk.injEq] at H
          obtain ⟨rfl, rfl⟩ := H
          go_wp2
          repeat (go_quiet (fail); try go_wp2)
          go_ret
          exact ⟨by first | rfl | (simp [errW_none, errW_some] <;> rfl) | (simp [*, errW_none, errW_some] <;> rfl), by repeat (first | (with_reducible first | exact HI0.out | apply IsS44.alloc | apply IsS44.drewN | apply IsS44.drew | apply IsS44.set_0) | exact HI0.out), by repeat (first | (with_reducible first | exact HB.out | apply below_alloc | apply pw_below_drewN | apply below_drew1 | refine below_set ?_ (IsS44.ge HI0.out)) | exact HB.out), by repeat (first | (with_reducible first | exact HK.out | apply KeepBut.set_ | apply keep_drewN | apply keep_drew | apply keep_alloc) | exact HK.out)⟩
  · rw [if_neg c3] at H
    have c3b0 : ((l1.length : Int) == (s0_1.length : Int)) = false := beq_eq_false_iff_ne.mpr c3
    have c3b1 : ((l1.length : Int) != (s0_1.length : Int)) = true := bne_iff_ne.mpr c3
    have c3b2 : (l1.length == s0_1.length) = false := by first | simpa using c3 | (simp at c3 ⊢; omega)
    simp only [Option.some.injEq, Prod.mk.injEq] at H
    obtain ⟨rfl, rfl⟩ := H
    obtain ⟨ASz24_1, cSz24_1, ASz24_2, cSz24_2, HGz24, hgz24, HSz24_1, HSz24_2⟩ := HI0.out
    have hcz24_0 := cellS44_0 HGz24
    have hcz24_1 := cellS44_1 HGz24
    have hcz24_2 := cellS44_2 HGz24
    have hfz24_0 := blk_frozen HGz24 0
    clear HGz24 hgz24
    go_enter Try.func20, Try.ntmps20
    go_wp2
    repeat (go_quiet (fail); try go_wp2)
    go_ret
    exact ⟨by first | rfl | (simp [errW_none, errW_some] <;> rfl) | (simp [*, errW_none, errW_some] <;> rfl), by repeat (first | (with_reducible first | exact HI0.out | apply IsS44.alloc | apply IsS44.drewN | apply IsS44.drew | apply IsS44.set_0) | exact HI0.out), by repeat (first | (with_reducible first | exact HB.out | apply below_alloc | apply pw_below_drewN | apply below_drew1 | refine below_set ?_ (IsS44.ge HI0.out)) | exact HB.out), by repeat (first | (with_reducible first | exact HK.out | apply KeepBut.set_ | apply keep_drewN | apply keep_drew | apply keep_alloc) | exact HK.out)⟩

/-! ### dispatcherref19_Order_ready: function 31 -/
def dispatcherref19_Order_ready.l0 : Nat → List Bool → Int → Int → Int → List Int → List (List Bool) → Option (Bool × Int)
  | 0, _, _, _, _, _, _ => none
  | k + 1, x1, x2, x7, x1000, x1001, x1002 => if x7 < (x1.length : Int) then (if 0 ≤ x2 then (if x2 < (x1002.length : Int) then (if 0 ≤ x7 then (if x7 < ((rd_L12 x1002 x2).length : Int) then (if rdOf false (rd_L12 x1002 x2) x7 = true then (if rdOf false x1 x7 = true then (dispatcherref19_Order_ready.l0 k x1 x2 (wrap64 (x7 + 1)) x1000 x1001 x1002) else (some (false, x1000))) else (dispatcherref19_Order_ready.l0 k x1 x2 (wrap64 (x7 + 1)) x1000 x1001 x1002)) else (none)) else (none)) else (none)) else (none)) else (if 0 ≤ x2 then (if x2 < (x1.length : Int) then (some (!(rdOf false x1 x2), x1000)) else (none)) else (none))
def dispatcherref19_Order_ready.f (k : Nat) (s0_0 : Int) (s0_1 : List Int) (s0_2 : List (List Bool)) (l1 : List Bool) (a2 : Int) : Option (Bool × Int) := dispatcherref19_Order_ready.l0 k l1 a2 0 s0_0 s0_1 s0_2
theorem dispatcherref19_Order_ready.mono_l : ∀ k, (∀ y0 y1 y2 y3 y4 y5, LeO (dispatcherref19_Order_ready.l0 k y0 y1 y2 y3 y4 y5) (dispatcherref19_Order_ready.l0 (k + 1) y0 y1 y2 y3 y4 y5))
  | 0 => fun _ _ _ _ _ _ r h => by simp [dispatcherref19_Order_ready.l0] at h
  | k + 1 => by
    have ih0 := dispatcherref19_Order_ready.mono_l k
    · intro y0 y1 y2 y3 y4 y5
      unfold dispatcherref19_Order_ready.l0
      repeat' first
      | (with_reducible exact ih0 _ _ _ _ _ _)
      | (with_reducible exact LeO.refl _)
      | (with_reducible exact LeO.none _)
      | (with_reducible refine LeO.ite ?_ ?_)
      | (with_reducible refine LeO.bind ?_ (fun _ => ?_))
      | exact ih0 _ _ _ _ _ _
      | exact LeO.none _
      | refine LeO.ite ?_ ?_
      | refine LeO.bind ?_ (fun _ => ?_)
theorem dispatcherref19_Order_ready.mono : ∀ a0 a1 a2 a3 a4 k, LeO (dispatcherref19_Order_ready.f k a0 a1 a2 a3 a4) (dispatcherref19_Order_ready.f (k + 1) a0 a1 a2 a3 a4) := by
  intro a0 a1 a2 a3 a4 k
  have ih0 := dispatcherref19_Order_ready.mono_l k
  unfold dispatcherref19_Order_ready.f
  repeat' first
      | (with_reducible exact ih0 _ _ _ _ _ _)
      | (with_reducible exact LeO.refl _)
      | (with_reducible exact LeO.none _)
      | (with_reducible refine LeO.ite ?_ ?_)
      | (with_reducible refine LeO.bind ?_ (fun _ => ?_))
      | exact ih0 _ _ _ _ _ _
      | exact LeO.none _
      | refine LeO.ite ?_ ?_
      | refine LeO.bind ?_ (fun _ => ?_)
set_option maxHeartbeats 8000000 in
set_option maxRecDepth 100000 in
theorem dispatcherref19_Order_ready.calls (k : Nat) (g : Nat) (s0_0 : Int) (s0_1 : List Int) (s0_2 : List (List Bool)) (A1 : Option Addr) (c1 : Nat) (l1 : List Bool) (a2 : Int) (r1 : Bool) (r2 : Int) (w0 w : World) (hI : IsS44 w0 w g s0_0 s0_1 s0_2) (hB : Below w0.heap.size w0 w) (hr1 : Kd.C Kd.bool w A1 l1.length l1) (hc1 : l1.length ≤ c1) (hf1 : ∀ ad, A1 = some ad → 0 < l1.length → ad.block ≠ g) (h : dispatcherref19_Order_ready.f k s0_0 s0_1 s0_2 l1 a2 = some (r1, r2)) :
    Calls Try.prog 31 #[.pointer (some ⟨g, 0, none⟩), .slice A1 l1.length c1, .int .i64 a2] w fun e w' => e = .returned (.bool r1) ∧ IsS44 w0 w' g r2 s0_1 s0_2 ∧ Below w0.heap.size w0 w' ∧ KeepBut w w' g none := by
  have HR1 := Aside0.mk hr1
  have HC1 := Aside0.mk hc1
  clear hr1 hc1
  have HI0 := Aside0.mk hI
  have HK := Aside0.mk (KeepBut.refl w g none)
  have HL := Aside0.mk hB.size
  clear hI
  have HW0 := Aside0.mk hB.size
  have HB := Aside0.mk hB
  clear hB
  have H : (dispatcherref19_Order_ready.l0 k l1 a2 0 s0_0 s0_1 s0_2) = some (r1, r2) := h
  clear h
  have H' := Aside0.mk H
  clear H
  go_enter Try.func31, Try.ntmps31
  go_wp2
  go_loopg [7] k (fun kq v7 w' => ∃ (x7_1 : Int), v7 = .int .i64 x7_1 ∧ Aside0 (dispatcherref19_Order_ready.l0 kq l1 a2 x7_1 s0_0 s0_1 s0_2 = some (r1, r2)) ∧ Aside0 (kq ≤ k) ∧ Aside0 (IsS44 w0 w' g s0_0 s0_1 s0_2) ∧ Aside0 (KeepBut w w' g none) ∧ Aside0 (Below w0.heap.size w0 w'))
  case atStart => exact ⟨(0), (by first | rfl | (simp; done) | (simp [*]; done)), H', ⟨Nat.le_refl _⟩, ⟨by repeat (first | (with_reducible first | exact HI0.out | apply IsS44.alloc | apply IsS44.drewN | apply IsS44.drew | apply IsS44.set_0) | exact HI0.out)⟩, ⟨by repeat (first | (with_reducible first | exact HK.out | apply KeepBut.set_ | apply keep_drewN | apply keep_drew | apply keep_alloc) | exact HK.out)⟩, ⟨by repeat (first | (with_reducible first | exact HB.out | apply below_alloc | apply pw_below_drewN | apply below_drew1 | refine below_set ?_ (IsS44.ge HI0.out)) | exact HB.out)⟩⟩
  case round =>
    clear H'
    try clear c1
    try clear p2
    try clear c3
    obtain ⟨x7_1, rfl, HA, HK1, HI0, HK, HB⟩ := hrel
    cases gk with
    | zero => exact absurd HA.out (by simp [dispatcherref19_Order_ready.l0])
    | succ k1 =>
      have H := HA.out
      clear HA
      simp only [dispatcherref19_Order_ready.l0] at H
      by_cases c4 : x7_1 < (l1.length : Int)
      · rw [if_pos c4] at H
        have c4b0 : decide (x7_1 < (l1.length : Int)) = true := decide_eq_true c4
        clear c4
        by_cases c5 : 0 ≤ a2
        · rw [if_pos c5] at H
          have c5b0 : decide (0 ≤ a2) = true := decide_eq_true c5
          clear c5
          by_cases c6 : a2 < (s0_2.length : Int)
          · rw [if_pos c6] at H
            have c6b0 : decide (a2 < (s0_2.length : Int)) = true := decide_eq_true c6
            clear c6
            by_cases c7 : 0 ≤ x7_1
            · rw [if_pos c7] at H
              have c7b0 : decide (0 ≤ x7_1) = true := decide_eq_true c7
              clear c7
              by_cases c8 : x7_1 < ((rd_L12 s0_2 a2).length : Int)
              · rw [if_pos c8] at H
                have c8b0 : decide (x7_1 < ((rd_L12 s0_2 a2).length : Int)) = true := decide_eq_true c8
                clear c8
                obtain ⟨bq9, hbq9⟩ : ∃ b_ : Bool, b_ = (rdOf false (rd_L12 s0_2 a2) x7_1) := ⟨_, rfl⟩
                replace H : (if bq9 = true then (if rdOf false l1 x7_1 = true then (dispatcherref19_Order_ready.l0 k1 l1 a2 (wrap64 (x7_1 + 1)) s0_0 s0_1 s0_2) else (some (false, s0_0))) else (dispatcherref19_Order_ready.l0 k1 l1 a2 (wrap64 (x7_1 + 1)) s0_0 s0_1 s0_2)) = some (r1, r2) := by rw [← hbq9] at H; exact H
                have Nbq9 := Aside0.mk hbq9
                clear hbq9
                by_cases c10 : bq9 = true
                · subst c10
                  have H1 : (if rdOf false l1 x7_1 = true then (dispatcherref19_Order_ready.l0 k1 l1 a2 (wrap64 (x7_1 + 1)) s0_0 s0_1 s0_2) else (some (false, s0_0))) = some (r1, r2) := by rw [if_pos rfl] at H; exact H
                  clear H
                  have H := H1
                  clear H1
                  obtain ⟨bq11, hbq11⟩ : ∃ b_ : Bool, b_ = (rdOf false l1 x7_1) := ⟨_, rfl⟩
                  replace H : (if bq11 = true then (dispatcherref19_Order_ready.l0 k1 l1 a2 (wrap64 (x7_1 + 1)) s0_0 s0_1 s0_2) else (some (false, s0_0))) = some (r1, r2) := by rw [← hbq11] at H; exact H
                  have Nbq11 := Aside0.mk hbq11
                  clear hbq11
                  by_cases c12 : bq11 = true
                  · subst c12
                    have H1 : (dispatcherref19_Order_ready.l0 k1 l1 a2 (wrap64 (x7_1 + 1)) s0_0 s0_1 s0_2) = some (r1, r2) := by rw [if_pos rfl] at H; exact H
                    clear H
                    have H := H1
                    clear H1
                    have H' := Aside0.mk H
                    clear H
                    obtain ⟨ASz13_1, cSz13_1, ASz13_2, cSz13_2, HGz13, hgz13, HSz13_1, HSz13_2⟩ := HI0.out
                    have hcz13_0 := cellS44_0 HGz13
                    have hcz13_1 := cellS44_1 HGz13
                    have hcz13_2 := cellS44_2 HGz13
                    have hfz13_0 := blk_frozen HGz13 0
                    clear HGz13 hgz13
                    have p139 : 0 ≤ (a2 : Int) := of_decide_eq_true (by first | (with_reducible assumption) | assumption)
                    have q139 : a2 < (s0_2.length : Int) := of_decide_eq_true (by first | (with_reducible assumption) | assumption)
                    obtain ⟨ad139, A139_0, c139_0, e139, hx139_0, hl139_0, hi139_0⟩ := at_L12 HSz13_2 a2 p139 q139
                    cases e139
                    replace hx139_0 := pw_cell_below HB.out hx139_0
                    have HR139_0 := Aside0.mk hi139_0
                    have HC139_0 := Aside0.mk hl139_0
                    clear hi139_0 hl139_0
                    replace p139 := eq_true p139
                    replace q139 := eq_true q139
                    have p140 : 0 ≤ (x7_1 : Int) := of_decide_eq_true (by first | (with_reducible assumption) | assumption)
                    have q140 : x7_1 < ((rd_L12 s0_2 a2).length : Int) := of_decide_eq_true (by first | (with_reducible assumption) | assumption)
                    obtain ⟨ad140, e140, hx140_0⟩ := Kd.at_bool HR139_0.out x7_1 p140 q140
                    (try rw [← Nbq9.out] at hx140_0)
                    (try rw [← Nbq11.out] at hx140_0)
                    cases e140
                    (first | (replace hx140_0 := keep_cell HK.out hx140_0 (by first | (rw [add_block]; exact hf139_0 _ rfl (by omega)) | exact hf139_0 _ rfl (by omega) | exact hf139_0 ad140 rfl (by omega))) | (replace hx140_0 := pw_cell_below HB.out hx140_0))
                    replace p140 := eq_true p140
                    replace q140 := eq_true q140
                    have p141 : 0 ≤ (x7_1 : Int) := of_decide_eq_true (by first | (with_reducible assumption) | assumption)
                    have q141 : x7_1 < (l1.length : Int) := of_decide_eq_true (by first | (with_reducible assumption) | assumption)
                    obtain ⟨ad141, e141, hx141_0⟩ := Kd.at_bool HR1.out x7_1 p141 q141
                    (try rw [← Nbq9.out] at hx141_0)
                    (try rw [← Nbq11.out] at hx141_0)
                    cases e141
                    (first | (replace hx141_0 := keep_cell HK.out hx141_0 (by first | (rw [add_block]; exact hf1 _ rfl (by omega)) | exact hf1 _ rfl (by omega) | exact hf1 ad141 rfl (by omega))) | (replace hx141_0 := pw_cell_below HB.out hx141_0))
                    replace p141 := eq_true p141
                    replace q141 := eq_true q141
                    go_wp2
                    go_roundg k1
                    case measure => have := HK1.out; omega
                    case rel => exact ⟨(wrap64 (x7_1 + 1)), (by first | rfl | (simp; done) | (simp [*]; done)), H', ⟨by have := HK1.out; omega⟩, ⟨by repeat (first | (with_reducible first | exact HI0.out | apply IsS44.alloc | apply IsS44.drewN | apply IsS44.drew | apply IsS44.set_0) | exact HI0.out)⟩, ⟨by repeat (first | (with_reducible first | exact HK.out | apply KeepBut.set_ | apply keep_drewN | apply keep_drew | apply keep_alloc) | exact HK.out)⟩, ⟨by repeat (first | (with_reducible first | exact HB.out | apply below_alloc | apply pw_below_drewN | apply below_drew1 | refine below_set ?_ (IsS44.ge HI0.out)) | exact HB.out)⟩⟩
                  · replace c12 := Bool.eq_false_iff.mpr c12
                    subst c12
                    have H1 : (some (false, s0_0)) = some (r1, r2) := by rw [if_neg (show ¬ (false = true) by decide)] at H; exact H
                    clear H
                    have H := H1
                    clear H1
                    simp only [Option.some.injEq, Prod.mk.injEq] at H
                    obtain ⟨rfl, rfl⟩ := H
                    obtain ⟨ASz14_1, cSz14_1, ASz14_2, cSz14_2, HGz14, hgz14, HSz14_1, HSz14_2⟩ := HI0.out
                    have hcz14_0 := cellS44_0 HGz14
                    have hcz14_1 := cellS44_1 HGz14
                    have hcz14_2 := cellS44_2 HGz14
                    have hfz14_0 := blk_frozen HGz14 0
                    clear HGz14 hgz14
                    have p139 : 0 ≤ (a2 : Int) := of_decide_eq_true (by first | (with_reducible assumption) | assumption)
                    have q139 : a2 < (s0_2.length : Int) := of_decide_eq_true (by first | (with_reducible assumption) | assumption)
                    obtain ⟨ad139, A139_0, c139_0, e139, hx139_0, hl139_0, hi139_0⟩ := at_L12 HSz14_2 a2 p139 q139
                    cases e139
                    replace hx139_0 := pw_cell_below HB.out hx139_0
                    have HR139_0 := Aside0.mk hi139_0
                    have HC139_0 := Aside0.mk hl139_0
                    clear hi139_0 hl139_0
                    replace p139 := eq_true p139
                    replace q139 := eq_true q139
                    have p140 : 0 ≤ (x7_1 : Int) := of_decide_eq_true (by first | (with_reducible assumption) | assumption)
                    have q140 : x7_1 < ((rd_L12 s0_2 a2).length : Int) := of_decide_eq_true (by first | (with_reducible assumption) | assumption)
                    obtain ⟨ad140, e140, hx140_0⟩ := Kd.at_bool HR139_0.out x7_1 p140 q140
                    (try rw [← Nbq9.out] at hx140_0)
                    (try rw [← Nbq11.out] at hx140_0)
                    cases e140
                    (first | (replace hx140_0 := keep_cell HK.out hx140_0 (by first | (rw [add_block]; exact hf139_0 _ rfl (by omega)) | exact hf139_0 _ rfl (by omega) | exact hf139_0 ad140 rfl (by omega))) | (replace hx140_0 := pw_cell_below HB.out hx140_0))
                    replace p140 := eq_true p140
                    replace q140 := eq_true q140
                    have p141 : 0 ≤ (x7_1 : Int) := of_decide_eq_true (by first | (with_reducible assumption) | assumption)
                    have q141 : x7_1 < (l1.length : Int) := of_decide_eq_true (by first | (with_reducible assumption) | assumption)
                    obtain ⟨ad141, e141, hx141_0⟩ := Kd.at_bool HR1.out x7_1 p141 q141
                    (try rw [← Nbq9.out] at hx141_0)
                    (try rw [← Nbq11.out] at hx141_0)
                    cases e141
                    (first | (replace hx141_0 := keep_cell HK.out hx141_0 (by first | (rw [add_block]; exact hf1 _ rfl (by omega)) | exact hf1 _ rfl (by omega) | exact hf1 ad141 rfl (by omega))) | (replace hx141_0 := pw_cell_below HB.out hx141_0))
                    replace p141 := eq_true p141
                    replace q141 := eq_true q141
                    go_wp2
                    go_ret
                    exact ⟨by first | rfl | (simp [errW_none, errW_some] <;> rfl) | (simp [*, errW_none, errW_some] <;> rfl), by repeat (first | (with_reducible first | exact HI0.out | apply IsS44.alloc | apply IsS44.drewN | apply IsS44.drew | apply IsS44.set_0) | exact HI0.out), by repeat (first | (with_reducible first | exact HB.out | apply below_alloc | apply pw_below_drewN | apply below_drew1 | refine below_set ?_ (IsS44.ge HI0.out)) | exact HB.out), by repeat (first | (with_reducible first | exact HK.out | apply KeepBut.set_ | apply keep_drewN | apply keep_drew | apply keep_alloc) | exact HK.out)⟩
                · replace c10 := Bool.eq_false_iff.mpr c10
                  subst c10
                  have H1 : (dispatcherref19_Order_ready.l0 k1 l1 a2 (wrap64 (x7_1 + 1)) s0_0 s0_1 s0_2) = some (r1, r2) := by rw [if_neg (show ¬ (false = true) by decide)] at H; exact H
                  clear H
                  have H := H1
                  clear H1
                  have H' := Aside0.mk H
                  clear H
                  obtain ⟨ASz15_1, cSz15_1, ASz15_2, cSz15_2, HGz15, hgz15, HSz15_1, HSz15_2⟩ := HI0.out
                  have hcz15_0 := cellS44_0 HGz15
                  have hcz15_1 := cellS44_1 HGz15
                  have hcz15_2 := cellS44_2 HGz15
                  have hfz15_0 := blk_frozen HGz15 0
                  clear HGz15 hgz15
                  have p139 : 0 ≤ (a2 : Int) := of_decide_eq_true (by first | (with_reducible assumption) | assumption)
                  have q139 : a2 < (s0_2.length : Int) := of_decide_eq_true (by first | (with_reducible assumption) | assumption)
                  obtain ⟨ad139, A139_0, c139_0, e139, hx139_0, hl139_0, hi139_0⟩ := at_L12 HSz15_2 a2 p139 q139
                  cases e139
                  replace hx139_0 := pw_cell_below HB.out hx139_0
                  have HR139_0 := Aside0.mk hi139_0
                  have HC139_0 := Aside0.mk hl139_0
                  clear hi139_0 hl139_0
                  replace p139 := eq_true p139
                  replace q139 := eq_true q139
                  have p140 : 0 ≤ (x7_1 : Int) := of_decide_eq_true (by first | (with_reducible assumption) | assumption)
                  have q140 : x7_1 < ((rd_L12 s0_2 a2).length : Int) := of_decide_eq_true (by first | (with_reducible assumption) | assumption)
                  obtain ⟨ad140, e140, hx140_0⟩ := Kd.at_bool HR139_0.out x7_1 p140 q140
                  (try rw [← Nbq9.out] at hx140_0)
                  cases e140
                  (first | (replace hx140_0 := keep_cell HK.out hx140_0 (by first | (rw [add_block]; exact hf139_0 _ rfl (by omega)) | exact hf139_0 _ rfl (by omega) | exact hf139_0 ad140 rfl (by omega))) | (replace hx140_0 := pw_cell_below HB.out hx140_0))
                  replace p140 := eq_true p140
                  replace q140 := eq_true q140
                  go_wp2
                  go_roundg k1
                  case measure => have := HK1.out; omega
                  case rel => exact ⟨(wrap64 (x7_1 + 1)), (by first | rfl | (simp; done) | (simp [*]; done)), H', ⟨by have := HK1.out; omega⟩, ⟨by repeat (first | (with_reducible first | exact HI0.out | apply IsS44.alloc | apply IsS44.drewN | apply IsS44.drew | apply IsS44.set_0) | exact HI0.out)⟩, ⟨by repeat (first | (with_reducible first | exact HK.out | apply KeepBut.set_ | apply keep_drewN | apply keep_drew | apply keep_alloc) | exact HK.out)⟩, ⟨by repeat (first | (with_reducible first | exact HB.out | apply below_alloc | apply pw_below_drewN | apply below_drew1 | refine below_set ?_ (IsS44.ge HI0.out)) | exact HB.out)⟩⟩
              · rw [if_neg c8] at H
                exact absurd H (by simp)
            · rw [if_neg c7] at H
              exact absurd H (by simp)
          · rw [if_neg c6] at H
            exact absurd H (by simp)
        · rw [if_neg c5] at H
          exact absurd H (by simp)
      · rw [if_neg c4] at H
        have c4b0 : decide (x7_1 < (l1.length : Int)) = false := decide_eq_false c4
        clear c4
        by_cases c16 : 0 ≤ a2
        · rw [if_pos c16] at H
          have c16b0 : decide (0 ≤ a2) = true := decide_eq_true c16
          clear c16
          by_cases c17 : a2 < (l1.length : Int)
          · rw [if_pos c17] at H
            have c17b0 : decide (a2 < (l1.length : Int)) = true := decide_eq_true c17
            clear c17
            simp only [Option.some.injEq, Prod.mk.injEq] at H
            obtain ⟨rfl, rfl⟩ := H
            have p142 : 0 ≤ (a2 : Int) := of_decide_eq_true (by first | (with_reducible assumption) | assumption)
            have q142 : a2 < (l1.length : Int) := of_decide_eq_true (by first | (with_reducible assumption) | assumption)
            obtain ⟨ad142, e142, hx142_0⟩ := Kd.at_bool HR1.out a2 p142 q142
            cases e142
            (first | (replace hx142_0 := keep_cell HK.out hx142_0 (by first | (rw [add_block]; exact hf1 _ rfl (by omega)) | exact hf1 _ rfl (by omega) | exact hf1 ad142 rfl (by omega))) | (replace hx142_0 := pw_cell_below HB.out hx142_0))
            replace p142 := eq_true p142
            replace q142 := eq_true q142
            go_wp2
            go_ret
            exact ⟨by first | rfl | (simp [errW_none, errW_some] <;> rfl) | (simp [*, errW_none, errW_some] <;> rfl), by repeat (first | (with_reducible first | exact HI0.out | apply IsS44.alloc | apply IsS44.drewN | apply IsS44.drew | apply IsS44.set_0) | exact HI0.out), by repeat (first | (with_reducible first | exact HB.out | apply below_alloc | apply pw_below_drewN | apply below_drew1 | refine below_set ?_ (IsS44.ge HI0.out)) | exact HB.out), by repeat (first | (with_reducible first | exact HK.out | apply KeepBut.set_ | apply keep_drewN | apply keep_drew | apply keep_alloc) | exact HK.out)⟩
          · rw [if_neg c17] at H
            exact absurd H (by simp)
        · rw [if_neg c16] at H
          exact absurd H (by simp)

end Go.Proofs.Ytnblmjkaieibhaa.Qobase
