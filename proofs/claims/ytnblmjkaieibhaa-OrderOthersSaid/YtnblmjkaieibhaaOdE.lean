/-
  CONTRACTS BY HAND (orders, 10): Is: whether a row is an order; nothing that was there is changed.
-/
import Derived.Test.YtnblmjkaieibhaaOpD
namespace Go.Proofs.Ytnblmjkaieibhaa.HO
open Go.Proofs.Ytnblmjkaieibhaa.HU Go.RowKit Go.Proofs.Ytnblmjkaieibhaa.HK Go.Proofs.Ytnblmjkaieibhaa.HP Go.Proofs.YtnblmjkaieibhaaW.PrintWords Go.Proofs.YtnblmjkaieibhaaW.PrintLast Go.Proofs.YtnblmjkaieibhaaW.PrintMore
set_option linter.unusedVariables false
set_option linter.unusedSimpArgs false
/-- those that stand just ahead are events -/
def BehOk (ks : List Kn) : Prop := ∀ q : Int, 0 ≤ q → q < ks.length → (kat ks q).f2.length ≤ 100000 ∧ ∀ k ∈ (kat ks q).f2, 0 ≤ k ∧ k < (ks.length : Int)
theorem isG_step {ks : List Kn} {row ins : List Int} {a : Nat} (ha : a < row.length) : isG ks (row.drop a) a ins = if hasB ks (rd row a) = true ∧ rd ins (rd row a) ≤ 0 then (if (kat ks (rd row a)).f2.any (fun k => decide (rd (ins.set (rd row a).toNat ((a : Int) + 1)) k = 0)) = true then false else isG ks (row.drop (a + 1)) (a + 1) (ins.set (rd row a).toNat ((a : Int) + 1))) else false := by
  rw [List.drop_eq_getElem_cons ha, rd_lt ha]
  conv => lhs; unfold isG
  simp only [Int.not_lt]
set_option maxHeartbeats 8000000 in
theorem is_c (g : Nat) (ks : List Kn) (A : Option Addr) (c : Nat) (row : List Int) (w : World) (h : Ro w g ks) (hr : Kd.C (Kd.int .i64) w A row.length row) (hc : row.length ≤ c) (hb : BehOk ks) (hn : ks.length ≤ 2000) :
    Calls Try.prog 19 #[.pointer (some ⟨g, 0, none⟩), .slice A row.length c] w fun e w' => e = .returned (.bool (isB ks row)) ∧ Below w.heap.size w w' := by
  have HO := Aside0.mk h
  have HR := Aside0.mk hr
  have HBK := Aside0.mk hb
  clear h hr hb
  by_cases hl : row.length = ks.length
  · have hB : isB ks row = isG ks row 0 (List.replicate row.length 0) := by unfold isB; rw [decide_eq_true hl, Bool.true_and]
    rw [hB]
    have hq : ((row.length : Int) != (ks.length : Int)) = false := by simp [hl]
    have hm8 : (row.length : Int).toNat * 8 ≤ 281474976710656 := by rw [Int.toNat_natCast]; omega
    have hm0 : (0 : Int) ≤ (row.length : Int) := by omega
    have hrl : row.length ≤ 2000 := by omega
    have HL := Aside0.mk hl
    clear hB hl
    go_enter Try.func19, Try.ntmps19
    go_wp2_with fail
    refine (many_c g ks w HO.out).mono ?_
    rintro e w1 ⟨rfl, rfl⟩
    go_wp2_with ((with_reducible refine gate_dst (N := 17) rfl ?_); refine Kd.R_make (Kd.int .i64) (w0 := w) w.heap.size 3 rfl (N := 17) rfl 28 _ _ rfl (row.length : Int) rfl rfl Try.underlying28 (.int .i64 0) 8 infoI rfl (by decide) (by decide) (0 : Int) (ok := fun _ => True) (okp := fun _ => True) rfl (fun _ hk => hk) trivial hm0 hm8 (Below.refl _ _) (Nat.le_refl _) ?_; intro vl w2 ho hbl hgr hnew; obtain ⟨Al, cl, rfl, hcl, _⟩ := Kd.R_reads ho; rw [Int.toNat_natCast] at ho hcl; rw [List.length_replicate] at ho hcl; have HN := Aside0.mk ho; have HB2 := Aside0.mk hbl; clear ho hbl hgr hnew)
    go_loopw [20] (fun v20 wr => ∃ (a : Nat) (ins : List Int), a ≤ row.length ∧ v20 = .int .i64 a ∧ Aside0 (ins.length = row.length) ∧ Aside0 (Kd.R (Kd.int .i64) 3 wr w.heap.size (fun _ => True) (.slice Al row.length cl) ins) ∧ Aside0 (isG ks (row.drop a) a ins = isG ks row 0 (List.replicate row.length 0)) ∧ Aside0 (Below w.heap.size w wr)) (fun v20 _ => row.length - (intOf v20).toNat)
    case atStart => exact ⟨0, _, by omega, rfl, ⟨by simp⟩, HN, ⟨by rw [List.drop_zero]⟩, HB2⟩
    case round =>
      clear HN HB2
      obtain ⟨a, ins, ha, rfl, HX, HN, HG, HB⟩ := hrel
      obtain ⟨wo, rfl⟩ : ∃ wo : World, wo = wr := ⟨_, rfl⟩
      by_cases hlt : a < row.length
      · obtain ⟨ad, had, hx⟩ := Kd.at_int (Kd.C_below HR.out HB.out) a (by omega) (by omega)
        subst had
        rw [Int.toNat_natCast] at hx
        have HST := Aside0.mk (HG.out.symm.trans (isG_step hlt))
        have haa : (a : Int) < (row.length : Int) := by omega
        generalize rd row (a : Int) = i at hx HST
        go_wp2_with fail
        refine (has_c g ks i wo (HO.out.below HB.out)).mono ?_
        rintro e w1 ⟨rfl, rfl⟩
        cases hh : hasB ks i with
        | false =>
          have HF : Aside0 (isG ks row 0 (List.replicate row.length 0) = false) := ⟨by rw [HST.out, if_neg (fun h2 => by rw [hh] at h2; cases h2.1)]⟩
          clear hh
          go_wp2
          go_ret
          rw [HF.out]
          exact ⟨rfl, HB.out⟩
        | true =>
          obtain ⟨q0, q1⟩ := hasB_iff.1 hh
          obtain ⟨bu, cu, hav, hbu, _, _⟩ := Kd.R_form HN.out (by have := HX.out; omega)
          injection hav with h1 h2 h3
          subst h1
          have hiL : i < (row.length : Int) := by rw [HL.out]; exact q1
          have hR9 := HN.out
          rw [← HX.out] at hR9
          have hcf := Kd.R_cell (0 : Int) hR9 i q0 (by have := HX.out; omega)
          have hcu : wo.cell? ⟨bu, i.toNat, none⟩ = some (.int .i64 (rd ins i)) := hcf.1
          have hfu := hcf.2
          have hpt := (Kd.R_put hR9 i ((a : Int) + 1)).1
          rw [HX.out] at hpt
          have HP9 := Aside0.mk hpt
          have HB9 := Aside0.mk (HB.out.setCell (p := ⟨bu, i.toNat, none⟩) hbu (.int .i64 ((a : Int) + 1)))
          have HHH := Aside0.mk hh
          clear hR9 hcf hpt h2 h3 hh
          by_cases hp : 0 < rd ins i
          · have dp : decide (0 < rd ins i) = true := decide_eq_true hp
            have HF : Aside0 (isG ks row 0 (List.replicate row.length 0) = false) := ⟨by rw [HST.out, if_neg (show ¬ (hasB ks i = true ∧ rd ins i ≤ 0) from fun hh => absurd hp (by have := hh.2; omega))]⟩
            clear hp
            go_wp2
            go_ret
            rw [HF.out]
            exact ⟨rfl, HB.out⟩
          · have dp : decide (0 < rd ins i) = false := decide_eq_false hp
            have HST2 : Aside0 (isG ks row 0 (List.replicate row.length 0) = if (kat ks i).f2.any (fun k => decide (rd (ins.set i.toNat ((a : Int) + 1)) k = 0)) = true then false else isG ks (row.drop (a + 1)) (a + 1) (ins.set i.toNat ((a : Int) + 1))) := ⟨by rw [HST.out, if_pos (show hasB ks i = true ∧ rd ins i ≤ 0 from ⟨HHH.out, by omega⟩)]⟩
            have ha64 : IntKind.i64.wrap ((a : Int) + 1) = (a : Int) + 1 := i64w (by omega) (by omega)
            have HX9 : Aside0 ((ins.set i.toNat ((a : Int) + 1)).length = row.length) := ⟨by rw [List.length_set]; exact HX.out⟩
            have HO9 := Aside0.mk (HO.out.below HB9.out)
            obtain ⟨ad2, c', A0, c0, A2, c2, hg, a0, a1, a2, b0, b1, b2, b3⟩ := HO9.out.at_ i q0 q1
            have HC := Aside0.mk b3
            obtain ⟨hbl, hbk⟩ := HBK.out i q0 q1
            have HBI := Aside0.mk hbk
            clear hp b1 b3 a0 a1 hbk HST HG HN
            generalize hw9 : wo.setCell ⟨bu, i.toNat, none⟩ (.int .i64 ((a : Int) + 1)) = w9 at HP9 HB9 HO9 hg a2 HC
            go_wp2_with fail
            clear hw9
            go_loop [50] (fun v50 => ∃ j : Nat, j ≤ (kat ks i).f2.length ∧ v50 = .int .i64 j ∧ Aside0 (∀ k ∈ (kat ks i).f2.take j, rd (ins.set i.toNat ((a : Int) + 1)) k ≠ 0)) (fun v50 => (kat ks i).f2.length - (intOf v50).toNat)
            case atStart => exact ⟨0, by omega, rfl, ⟨by simp⟩⟩
            case round =>
              obtain ⟨j, hj, rfl, HT⟩ := hrel
              by_cases hjl : j < (kat ks i).f2.length
              · obtain ⟨ad3, had3, hx3⟩ := Kd.at_int HC.out j (by omega) (by omega)
                subst had3
                rw [Int.toNat_natCast] at hx3
                have HMEM := Aside0.mk (rd_mem (l := (kat ks i).f2) (i := (j : Int)) (by omega) (by omega))
                have hk0 := HBI.out _ HMEM.out
                have HTK : Aside0 ((kat ks i).f2.take (j + 1) = (kat ks i).f2.take j ++ [rd (kat ks i).f2 j]) := ⟨by rw [rd_lt hjl]; exact List.take_succ_eq_append_getElem hjl⟩
                generalize rd (kat ks i).f2 (j : Int) = q at hx3 HMEM hk0 HTK
                obtain ⟨hk0, hk1⟩ := hk0
                have hqL : q < (row.length : Int) := by rw [HL.out]; exact hk1
                have hR9 := HP9.out
                rw [← HX9.out] at hR9
                have hcq : w9.cell? ⟨bu, q.toNat, none⟩ = some (.int .i64 (rd (ins.set i.toNat ((a : Int) + 1)) q)) := (Kd.R_cell (0 : Int) hR9 q hk0 (by rw [HX9.out]; exact hqL)).1
                clear hR9
                generalize hz : rd (ins.set i.toNat ((a : Int) + 1)) q = z at hcq
                have HZ := Aside0.mk hz
                clear hz
                by_cases hz0 : z = 0
                · have dz : (z == 0) = true := by simpa using hz0
                  have HF : Aside0 (isG ks row 0 (List.replicate row.length 0) = false) := ⟨by rw [HST2.out, if_pos (List.any_eq_true.2 ⟨q, HMEM.out, by rw [HZ.out, hz0]; rfl⟩)]⟩
                  clear hz0
                  go_wp2
                  go_ret
                  rw [HF.out]
                  exact ⟨rfl, HB9.out⟩
                · have dz : (z == 0) = false := by simpa using hz0
                  have HT2 : Aside0 (∀ k ∈ (kat ks i).f2.take (j + 1), rd (ins.set i.toNat ((a : Int) + 1)) k ≠ 0) := ⟨fun k hk => by
                    rw [HTK.out] at hk
                    rcases List.mem_append.1 hk with hk | hk
                    · exact HT.out k hk
                    · rw [List.mem_singleton.1 hk, HZ.out]; exact hz0⟩
                  have hj64 : IntKind.i64.wrap ((j : Int) + 1) = (j : Int) + 1 := i64w (by omega) (by omega)
                  clear hz0
                  go_wp2
                  go_round
                  case rel => exact ⟨j + 1, by omega, by go_num, HT2⟩
                  case measure => simp [intOf]; omega
              · obtain rfl : j = (kat ks i).f2.length := by omega
                have HG9 : Aside0 (isG ks (row.drop (a + 1)) (a + 1) (ins.set i.toNat ((a : Int) + 1)) = isG ks row 0 (List.replicate row.length 0)) := ⟨by
                  have hT := HT.out
                  rw [List.take_length] at hT
                  rw [HST2.out, if_neg (by
                    rw [Bool.not_eq_true, List.any_eq_false]
                    exact fun k hk => by simpa using hT k hk)]⟩
                clear HT
                go_wp2
                refine ⟨⟨a + 1, _, by omega, by go_num, HX9, HP9, HG9, HB9⟩, ?_⟩
                simp [intOf]
                omega
      · obtain rfl : a = row.length := by omega
        have HF : Aside0 (isG ks row 0 (List.replicate row.length 0) = true) := ⟨by rw [← HG.out, List.drop_length]; rfl⟩
        go_wp2
        go_ret
        rw [HF.out]
        exact ⟨rfl, HB.out⟩
  · have hB : isB ks row = false := by unfold isB; rw [decide_eq_false hl, Bool.false_and]
    rw [hB]
    have hq : ((row.length : Int) != (ks.length : Int)) = true := by simp; omega
    go_enter Try.func19, Try.ntmps19
    go_wp2_with fail
    refine (many_c g ks w HO.out).mono ?_
    rintro e w1 ⟨rfl, rfl⟩
    go_wp2
    go_ret
    exact ⟨rfl, Below.refl _ _⟩
end Go.Proofs.Ytnblmjkaieibhaa.HO
