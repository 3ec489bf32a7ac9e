/-
  CONTRACTS BY HAND (orders, 1): an order, read: Many, has, Clock, Depth, Ahead, Past; nothing that was there is changed.
-/
import Derived.Test.YtnblmjkaieibhaaHdB
import Derived.Test.YtnblmjkaieibhaaHdC
import Derived.Test.YtnblmjkaieibhaaHK
import Derived.Test.YtnblmjkaieibhaaHU
import Derived.Test.YtnblmjkaieibhaaHP
namespace Go.Proofs.Ytnblmjkaieibhaa.HO
open Go.Proofs.Ytnblmjkaieibhaa.HU Go.RowKit Go.Proofs.Ytnblmjkaieibhaa.HK Go.Proofs.Ytnblmjkaieibhaa.HP Go.Proofs.YtnblmjkaieibhaaW.PrintWords Go.Proofs.YtnblmjkaieibhaaW.PrintLast Go.Proofs.YtnblmjkaieibhaaW.PrintMore
set_option linter.unusedVariables false
set_option linter.unusedSimpArgs false
abbrev Kn := S64
theorem infoI : (Try.prog.info? 3).map (fun i => (i.zero, i.size, i.bytes)) = some (some (.int .i64 0), 1, 8) := by kernel_rfl
/-- an order, read -/
def Ro (W : World) (g : Nat) (ks : List Kn) : Prop := ∃ A c, W.heap[g]? = some (.cells #[.slice A ks.length c] 67 (0, 0)) ∧ ks.length ≤ c ∧ Kd.C k64 W A ks.length ks
theorem Ro.below {W W' : World} {g : Nat} {ks : List Kn} (h : Ro W g ks) (hb : Below W.heap.size W W') : Ro W' g ks := by
  obtain ⟨A, c, h1, h2, h3⟩ := h
  exact ⟨A, c, blk_below h1 hb, h2, Kd.C_below h3 hb⟩
theorem Ro.max {W : World} {g : Nat} {ks : List Kn} (h : Ro W g ks) : ks.length ≤ 9223372036854775807 := by
  obtain ⟨A, c, h1, h2, h3⟩ := h
  exact Kd.C_max h3
/-- an event of it -/
def kat (ks : List Kn) (i : Int) : Kn := rd_T64 ks i
theorem kat_nat {ks : List Kn} (i : Nat) (h : i < ks.length) : kat ks (i : Int) = ks[i] := by simp [kat, rd_T64, h]
theorem Ro.at_ {W : World} {g : Nat} {ks : List Kn} (h : Ro W g ks) (i : Int) (h0 : 0 ≤ i) (h1 : i < ks.length) :
    ∃ ad c A0 c0 A2 c2, W.cell? ⟨g, 0, none⟩ = some (.slice (some ad) ks.length c) ∧ W.cell? (ad.add (i.toNat * 3)) = some (.slice A0 (kat ks i).f0.length c0) ∧ W.cell? ⟨(ad.add (i.toNat * 3)).block, (ad.add (i.toNat * 3)).off + 1, none⟩ = some (.int .i64 (kat ks i).f1) ∧
      W.cell? ⟨(ad.add (i.toNat * 3)).block, (ad.add (i.toNat * 3)).off + 2, none⟩ = some (.slice A2 (kat ks i).f2.length c2) ∧ (kat ks i).f0.length ≤ c0 ∧ Kd.C (Kd.int .i64) W A0 (kat ks i).f0.length (kat ks i).f0 ∧ (kat ks i).f2.length ≤ c2 ∧ Kd.C (Kd.int .i64) W A2 (kat ks i).f2.length (kat ks i).f2 := by
  obtain ⟨A, c, hb, hc, hr⟩ := h
  obtain ⟨ad, A0, c0, A2, c2, rfl, a0, a1, a2, b0, b1, b2, b3⟩ := at_T64 hr i h0 h1
  exact ⟨ad, c, A0, c0, A2, c2, (blk_cell hb 0).trans rfl, a0, a1, a2, b0, b1, b2, b3⟩
theorem many_c (g : Nat) (ks : List Kn) (w : World) (h : Ro w g ks) : Calls Try.prog 16 #[.pointer (some ⟨g, 0, none⟩)] w fun e w' => e = .returned (.int .i64 ks.length) ∧ w = w' := by
  obtain ⟨A, c, hb, hc, hr⟩ := h
  have h1 := (blk_cell hb 0).trans rfl
  clear hb hr
  go_enter Try.func16, Try.ntmps16
  go_wp2
  go_ret
  exact ⟨rfl, rfl⟩
def hasB (ks : List Kn) (i : Int) : Bool := decide (0 ≤ i) && decide (i < ks.length)
theorem hasB_iff {ks : List Kn} {i : Int} : hasB ks i = true ↔ 0 ≤ i ∧ i < ks.length := by simp [hasB]
theorem has_c (g : Nat) (ks : List Kn) (i : Int) (w : World) (h : Ro w g ks) : Calls Try.prog 27 #[.pointer (some ⟨g, 0, none⟩), .int .i64 i] w fun e w' => e = .returned (.bool (hasB ks i)) ∧ w = w' := by
  have HM := Aside0.mk (many_c g ks w h)
  clear h
  by_cases h0 : 0 ≤ i
  · have b0 : decide (0 ≤ i) = true := decide_eq_true h0
    go_enter Try.func27, Try.ntmps27
    go_wp2_with (go_at_call 16; refine HM.out.mono ?_; rintro e w1 ⟨rfl, rfl⟩)
    go_ret
    exact ⟨ret_bool (by rw [Bool.eq_iff_iff]; simp [hasB]; omega), rfl⟩
  · have b0 : decide (0 ≤ i) = false := decide_eq_false h0
    go_enter Try.func27, Try.ntmps27
    go_wp2
    go_ret
    exact ⟨ret_bool (by rw [Bool.eq_iff_iff]; simp [hasB]; omega), rfl⟩
theorem clock_ok (g : Nat) (ks : List Kn) (i : Int) (w : World) (h : Ro w g ks) (hi : hasB ks i = true) (hl : (kat ks i).f0.length ≤ 17592186044415) :
    Calls Try.prog 12 #[.pointer (some ⟨g, 0, none⟩), .int .i64 i] w fun e w' => ∃ v0_ : Value, e = .returned (.tuple #[v0_, .int .i64 0]) ∧ Kd.R (Kd.int .i64) 3 w' w.heap.size (fun _ => True) v0_ (kat ks i).f0 ∧ Below w.heap.size w w' := by
  have HH := Aside0.mk (has_c g ks i w h)
  obtain ⟨h0, h1⟩ := hasB_iff.1 hi
  obtain ⟨ad, c, A0, c0, A2, c2, hg, a0, a1, a2, b0, b1, b2, b3⟩ := h.at_ i h0 h1
  have HC := Aside0.mk b1
  have HI := Aside0.mk hi
  clear h hi b1 b3 a1 a2
  go_enter Try.func12, Try.ntmps12
  go_wp2_with fail
  refine HH.out.mono ?_
  rintro e w1 ⟨rfl, rfl⟩
  rw [HI.out]
  go_wp2_with fail
  refine (HD.clone.calls A0 c0 (kat ks i).f0 (kat ks i).f0 w HC.out b0 (by unfold HD.clone.f; rw [if_pos hl])).mono ?_
  rintro e w1 ⟨v, rfl, hR, hb⟩
  have HR := Aside0.mk hR
  have HB := Aside0.mk hb
  clear hR hb
  go_wp2
  go_ret2
  exact ⟨_, rfl, HR.out, HB.out⟩
theorem clock_no (g : Nat) (ks : List Kn) (i : Int) (w : World) (h : Ro w g ks) (hi : hasB ks i = false) :
    Calls Try.prog 12 #[.pointer (some ⟨g, 0, none⟩), .int .i64 i] w fun e w' => e = .returned (.tuple #[.slice none 0 0, .int .i64 2]) ∧ w = w' := by
  have HH := Aside0.mk (has_c g ks i w h)
  have HI := Aside0.mk hi
  clear h hi
  go_enter Try.func12, Try.ntmps12
  go_wp2_with fail
  refine HH.out.mono ?_
  rintro e w1 ⟨rfl, rfl⟩
  rw [HI.out]
  go_wp2
  go_ret2
  exact ⟨rfl, rfl⟩
theorem depth_ok (g : Nat) (ks : List Kn) (i : Int) (w : World) (h : Ro w g ks) (hi : hasB ks i = true) :
    Calls Try.prog 15 #[.pointer (some ⟨g, 0, none⟩), .int .i64 i] w fun e w' => e = .returned (.tuple #[.int .i64 (kat ks i).f1, .int .i64 0]) ∧ w = w' := by
  have HH := Aside0.mk (has_c g ks i w h)
  obtain ⟨h0, h1⟩ := hasB_iff.1 hi
  obtain ⟨ad, c, A0, c0, A2, c2, hg, a0, a1, a2, b0, b1, b2, b3⟩ := h.at_ i h0 h1
  have HI := Aside0.mk hi
  clear h hi b1 b3 a0 a2
  go_enter Try.func15, Try.ntmps15
  go_wp2_with fail
  refine HH.out.mono ?_
  rintro e w1 ⟨rfl, rfl⟩
  rw [HI.out]
  go_wp2
  go_ret2
  exact ⟨rfl, rfl⟩
theorem depth_no (g : Nat) (ks : List Kn) (i : Int) (w : World) (h : Ro w g ks) (hi : hasB ks i = false) :
    Calls Try.prog 15 #[.pointer (some ⟨g, 0, none⟩), .int .i64 i] w fun e w' => e = .returned (.tuple #[.int .i64 0, .int .i64 2]) ∧ w = w' := by
  have HH := Aside0.mk (has_c g ks i w h)
  have HI := Aside0.mk hi
  clear h hi
  go_enter Try.func15, Try.ntmps15
  go_wp2_with fail
  refine HH.out.mono ?_
  rintro e w1 ⟨rfl, rfl⟩
  rw [HI.out]
  go_wp2
  go_ret2
  exact ⟨rfl, rfl⟩
/-- what a clock is told of another one -/
def ofF (c d : List Int) : Int := if HD.fitB c d = true then HD.tells (c.zip d) else 0
def ofE (c d : List Int) : Int := if HD.fitB c d = true then 0 else 2
def ahB (ks : List Kn) (i k : Int) : Bool := hasB ks i && hasB ks k && (ofF (kat ks i).f0 (kat ks k).f0 == 1)
theorem of_c (A0 : Option Addr) (c0 : Nat) (l0 : List Int) (A1 : Option Addr) (c1 : Nat) (l1 : List Int) (w : World) (hr0 : Kd.C (Kd.int .i64) w A0 l0.length l0) (hc0 : l0.length ≤ c0) (hr1 : Kd.C (Kd.int .i64) w A1 l1.length l1) (hc1 : l1.length ≤ c1) :
    Calls Try.prog 25 #[.slice A0 l0.length c0, .slice A1 l1.length c1] w fun e w' => e = .returned (.tuple #[.int .u8 (ofF l0 l1), .int .i64 (ofE l0 l1)]) ∧ Below w.heap.size w w' :=
  HD.clock_Clock_Of.calls A0 c0 l0 A1 c1 l1 (ofF l0 l1) (ofE l0 l1) w hr0 hc0 hr1 hc1 (by unfold HD.clock_Clock_Of.f ofF ofE; split <;> rfl)
set_option maxHeartbeats 2000000 in
theorem ahead_c (g : Nat) (ks : List Kn) (i k : Int) (w : World) (h : Ro w g ks) : Calls Try.prog 17 #[.pointer (some ⟨g, 0, none⟩), .int .i64 i, .int .i64 k] w fun e w' => e = .returned (.bool (ahB ks i k)) ∧ Below w.heap.size w w' := by
  have HO := Aside0.mk h
  clear h
  by_cases hi : hasB ks i = true
  · have HI := Aside0.mk hi
    by_cases hk : hasB ks k = true
    · have HKK := Aside0.mk hk
      obtain ⟨h0, h1⟩ := hasB_iff.1 hi
      obtain ⟨ad, c, A0, c0, A2, c2, hg, a0, _, _, b0, b1, _, _⟩ := HO.out.at_ i h0 h1
      obtain ⟨k0, k1⟩ := hasB_iff.1 hk
      obtain ⟨ad', c', A0', c0', A2', c2', hg', a0', _, _, b0', b1', _, _⟩ := HO.out.at_ k k0 k1
      have he := hg.symm.trans hg'
      injection he with he
      injection he with he1 he2 he3
      injection he1 with he1
      subst he1 he3
      have HC0 := Aside0.mk b1
      have HC1 := Aside0.mk b1'
      clear hi hk b1 b1' hg'
      go_enter Try.func17, Try.ntmps17
      go_wp2_with fail
      refine (has_c g ks i w HO.out).mono ?_
      rintro e w1 ⟨rfl, rfl⟩
      rw [HI.out]
      go_wp2_with fail
      refine (has_c g ks k w HO.out).mono ?_
      rintro e w1 ⟨rfl, rfl⟩
      rw [HKK.out]
      go_upto_region 3 with (fail)
      have HF := Aside0.mk (of_c A0 c0 _ A0' c0' _ w.drew (C_drew HC0.out) b0 (C_drew HC1.out) b0')
      go_region_with (go_at_call 25; refine HF.out.mono ?_; rintro e w1 ⟨rfl, hb⟩; have HB := Aside0.mk (below_of_drew hb); clear hb)
      all_goals (
        go_wp2
        go_ret
        exact ⟨ret_bool (by unfold ahB; rw [HI.out, HKK.out]; rfl), HB.out⟩)
    · have hk : hasB ks k = false := by simpa using hk
      have HKK := Aside0.mk hk
      clear hi hk
      go_enter Try.func17, Try.ntmps17
      go_wp2_with fail
      refine (has_c g ks i w HO.out).mono ?_
      rintro e w1 ⟨rfl, rfl⟩
      rw [HI.out]
      go_wp2_with fail
      refine (has_c g ks k w HO.out).mono ?_
      rintro e w1 ⟨rfl, rfl⟩
      rw [HKK.out]
      go_wp2
      go_ret
      exact ⟨ret_bool (by unfold ahB; rw [HKK.out]; simp), Below.refl _ _⟩
  · have hi : hasB ks i = false := by simpa using hi
    have HI := Aside0.mk hi
    clear hi
    go_enter Try.func17, Try.ntmps17
    go_wp2_with fail
    refine (has_c g ks i w HO.out).mono ?_
    rintro e w1 ⟨rfl, rfl⟩
    rw [HI.out]
    go_wp2
    go_ret
    exact ⟨ret_bool (by unfold ahB; rw [HI.out]; simp), Below.refl _ _⟩
/-- all that happened ahead of one -/
def pastL (ks : List Kn) (i : Int) (m : Nat) : List Int := ((List.range m).filter (fun k : Nat => ahB ks (k : Int) i)).map (fun k : Nat => (k : Int))
theorem pastL_len (ks : List Kn) (i : Int) (m : Nat) : (pastL ks i m).length ≤ m := by
  unfold pastL
  rw [List.length_map]
  exact Nat.le_trans (List.length_filter_le _ _) (by simp)
theorem pastL_yes {ks : List Kn} {i : Int} {m : Nat} (h : ahB ks (m : Int) i = true) : pastL ks i (m + 1) = pastL ks i m ++ [(m : Int)] := by simp [pastL, List.range_succ, h]
theorem pastL_no {ks : List Kn} {i : Int} {m : Nat} (h : ahB ks (m : Int) i = false) : pastL ks i (m + 1) = pastL ks i m := by simp [pastL, List.range_succ, h]
set_option maxHeartbeats 2000000 in
theorem past_c (g : Nat) (ks : List Kn) (i : Int) (w : World) (h : Ro w g ks) (hn : ks.length ≤ 2000) :
    Calls Try.prog 18 #[.pointer (some ⟨g, 0, none⟩), .int .i64 i] w fun e w' => ∃ v0_, e = .returned v0_ ∧ Kd.R (Kd.int .i64) 3 w' w.heap.size (fun _ => True) v0_ (pastL ks i ks.length) ∧ Below w.heap.size w w' := by
  have HO := Aside0.mk h
  clear h
  go_enter Try.func18, Try.ntmps18
  go_wp2_with fail
  refine (many_c g ks w HO.out).mono ?_
  rintro e w1 ⟨rfl, rfl⟩
  go_wp2
  go_loopw [5, 9] (fun v5 v9 wr => ∃ m : Nat, m ≤ ks.length ∧ Aside0 (Kd.R (Kd.int .i64) 3 wr w.heap.size (fun _ => True) v5 (pastL ks i m)) ∧ v9 = .int .i64 m ∧ Aside0 (Below w.heap.size w wr)) (fun _ v9 _ => ks.length - (intOf v9).toNat)
  case atStart => exact ⟨0, by omega, ⟨Kd.R_nil _ _ _ _ _⟩, rfl, ⟨Below.refl _ _⟩⟩
  case round =>
    obtain ⟨m, hm, HR, rfl, HB⟩ := hrel
    by_cases hlt : m < ks.length
    · go_wp2_with fail
      refine (ahead_c g ks m i wr (HO.out.below HB.out)).mono ?_
      rintro e w1 ⟨rfl, hb⟩
      have HRb := Aside0.mk (Kd.R_below HR.out hb)
      have HB3 := Aside0.mk (below_then HB.out HB.out.size hb)
      have hz := HB3.out.size
      have hml := pastL_len ks i m
      clear HB HR hb
      cases ha : ahB ks (m : Int) i with
      | true =>
        have HA := Aside0.mk (pastL_yes ha)
        clear ha
        go_wp2_with (at_builtin; refine Kd.R_append (Kd.int .i64) (w0 := w) w.heap.size rfl (.tmp 16) (.tmp 18) 28 3 (.int .i64 0) 8 rfl Try.underlying28 infoI rfl (by decide) (by omega) _ (pastL ks i m) (m : Int) [.int .i64 m] (fun _ => True) (fun _ => False) rfl rfl rfl (fun _ h => h.elim) (fun _ _ => trivial) HRb.out HB3.out hz (by omega) ?_; intro v1 w1 ho hbl hgr hat)
        go_roundw
        case rel => exact ⟨m + 1, by omega, ⟨by rw [HA.out]; exact ho⟩, by go_num, ⟨hbl⟩⟩
        case measure => simp [intOf]; omega
      | false =>
        have HA := Aside0.mk (pastL_no ha)
        clear ha
        go_wp2
        go_roundw
        case rel => exact ⟨m + 1, by omega, ⟨by rw [HA.out]; exact HRb.out⟩, by go_num, HB3⟩
        case measure => simp [intOf]; omega
    · obtain rfl : m = ks.length := by omega
      go_wp2
      go_ret
      exact ⟨_, rfl, HR.out, HB.out⟩
end Go.Proofs.Ytnblmjkaieibhaa.HO
