/-
  CONTRACTS BY HAND (groups, 15): the law GroupPlays, walked: it answers true, and nothing that was there is changed.
-/
import Derived.Test.YtkifmhfgplhabaaGlA
namespace Go.Proofs.Ytkifmhfgplhabaa.HQ
open Go.Proofs.Ytkifmhfgplhabaa.HU Go.RowKit Go.Proofs.Ytkifmhfgplhabaa.HK Go.Proofs.Ytkifmhfgplhabaa.HP Go.Proofs.YtkifmhfgplhabaaW.PrintWords Go.Proofs.YtkifmhfgplhabaaW.PrintLast Go.Proofs.YtkifmhfgplhabaaW.PrintMore
set_option linter.unusedVariables false
set_option linter.unusedSimpArgs false
abbrev Act_ := S47
theorem great_c (s : ByteArray) (A : Option Addr) (n c : Nat) (w : World) :
    Calls Try.prog 5 #[.agg #[.string s, .slice A n c]] w fun e w' => e = .returned (.bool (decide (80 < n) || decide (200 < s.size))) ∧ Below w.heap.size w w' := Go.Proofs.Ytkifmhfgplhabaa.HD.great_calls s A n c w
/-- what a number has -/
def atG (k : Int) (ls : List Sl) : ByteArray × List Int := match getH k ls with | some x => (x.f0.f0, x.f0.f1) | none => (⟨#[]⟩, [])
theorem atG_len {k : Int} {ls : List Sl} (h : Fits ls) : (atG k ls).2.length ≤ 80 := by
  unfold atG
  split
  · rename_i x hx
    exact h.2.2 x (List.mem_of_getElem? (getH_some hx).2.2.1)
  · simp
theorem at_any (base : Nat) (ok : Nat → Prop) (g : Nat) (v : Value) (ls : List Sl) (k : Int) (w : World) (h : Gs w base ok g v ls) (hf : Fits ls) :
    Calls Try.prog 7 #[.pointer (some ⟨g, 0, none⟩), .int .i64 k] w fun e w' => (∃ u, e = .returned (.tuple #[.agg #[.string (atG k ls).1, u], .int .i64 (atE k ls)]) ∧ Kd.R (Kd.int .i64) 3 w' w.heap.size (fun _ => True) u (atG k ls).2) ∧ Below w.heap.size w w' := by
  cases hx : getH k ls with
  | none =>
    have h1 : atE k ls = 110 := by unfold atE; rw [hx]; rfl
    have h2 : atG k ls = (⟨#[]⟩, []) := by unfold atG; rw [hx]
    rw [h1, h2]
    refine (at_none base ok g v ls k w h hf.1 hx).mono ?_
    rintro e w' ⟨rfl, hb⟩
    exact ⟨⟨_, rfl, Kd.R_nil _ _ _ _ _⟩, hb⟩
  | some x =>
    have h1 : atE k ls = 0 := by unfold atE; rw [hx]; rfl
    have h2 : atG k ls = (x.f0.f0, x.f0.f1) := by unfold atG; rw [hx]
    rw [h1, h2]
    exact at_some base ok g v ls k x w h hx (by have := hf.2.2 x (List.mem_of_getElem? (getH_some hx).2.2.1); omega)
theorem rat_any (base : Nat) (ok : Nat → Prop) (g : Nat) (vg vo : Value) (ls : List Sl) (k : Int) (w : World) (h : Gr w base ok g vg vo ls) (hf : Fits ls) :
    Calls Try.prog 14 #[.pointer (some ⟨g, 0, none⟩), .int .i64 k] w fun e w' => (∃ u, e = .returned (.tuple #[.agg #[.string (atG k ls).1, u], .int .i64 (atE k ls)]) ∧ Kd.R (Kd.int .i64) 3 w' w.heap.size (fun _ => True) u (atG k ls).2) ∧ Below w.heap.size w w' := by
  cases hx : getH k ls with
  | none =>
    have h1 : atE k ls = 110 := by unfold atE; rw [hx]; rfl
    have h2 : atG k ls = (⟨#[]⟩, []) := by unfold atG; rw [hx]
    rw [h1, h2]
    refine (rat_none base ok g vg vo ls k w h hx).mono ?_
    rintro e w' ⟨rfl, hb⟩
    exact ⟨⟨_, rfl, Kd.R_nil _ _ _ _ _⟩, hb⟩
  | some x =>
    have h1 : atE k ls = 0 := by unfold atE; rw [hx]; rfl
    have h2 : atG k ls = (x.f0.f0, x.f0.f1) := by unfold atG; rw [hx]
    rw [h1, h2]
    exact rat_some base ok g vg vo ls k x w h hx (by have := hf.2.2 x (List.mem_of_getElem? (getH_some hx).2.2.1); omega)
set_option maxRecDepth 20000 in
set_option maxHeartbeats 40000000 in
theorem groupPlays_calls (s : ByteArray) (A0 : Option Addr) (c0 : Nat) (l0 : List Int) (A : Option Addr) (c : Nat) (l : List Act_) (w : World) (hr0 : Kd.C (Kd.int .i64) w A0 l0.length l0) (hc0 : l0.length ≤ c0) (hr : Kd.C k47 w A l.length l) (hc : l.length ≤ c) :
    Calls Try.prog 4 #[.agg #[.string s, .slice A0 l0.length c0], .slice A l.length c] w fun e w' => e = .returned (.bool true) ∧ Below w.heap.size w w' := by
  have HR := Aside0.mk hr
  have HR0 := Aside0.mk hr0
  clear hr hr0
  go_enter Try.func4, Try.ntmps4
  go_wp2_with fail
  have hb0 := below_alloc (Below.refl w.heap.size w) (.cells #[.string s, .slice A0 l0.length c0] 24)
  have BP := Aside0.mk (blk_new w (.cells #[.string s, .slice A0 l0.length c0] 24))
  refine (great_c s A0 l0.length c0 _).mono ?_
  rintro e w1 ⟨rfl, hbx⟩
  have HB1 := Aside0.mk (below_then hb0 hb0.size hbx)
  have BP1 := Aside0.mk (blk_below BP.out hbx)
  have HZ1 := Aside0.mk (blk_lt BP1.out)
  clear hb0 hbx BP
  by_cases hg : (decide (80 < l0.length) || decide (200 < s.size)) = true
  · go_wp2
    go_ret
    exact ⟨rfl, HB1.out⟩
  · have hg1 : (decide (80 < l0.length) || decide (200 < s.size)) = false := by simpa using hg
    have hl80 : l0.length ≤ 80 := by
      simp only [Bool.or_eq_false_iff, decide_eq_false_iff_not] at hg1
      omega
    by_cases h100 : 100 < l.length
    · have hd : decide ((100 : Int) < (l.length : Int)) = true := decide_eq_true (by omega)
      go_wp2
      go_ret
      exact ⟨rfl, HB1.out⟩
    · have hd : decide ((100 : Int) < (l.length : Int)) = false := decide_eq_false (by omega)
      have p0 := (blk_cell BP1.out 0).trans rfl
      have p1 := (blk_cell BP1.out 1).trans rfl
      cases hm : mayB l0 with
      | false =>
        go_wp2_with fail
        refine (new_no s A0 c0 l0 w1 (Kd.C_below HR0.out HB1.out) hc0 hm).mono ?_
        rintro e w2 ⟨rfl, hb2⟩
        have HB2 := Aside0.mk (below_then HB1.out HB1.out.size hb2)
        have p0 := pw_cell_below hb2 p0
        have p1 := pw_cell_below hb2 p1
        clear hb2
        go_wp2_with fail
        refine (rnew_no s A0 c0 l0 w2 (Kd.C_below HR0.out HB2.out) hc0 hm).mono ?_
        rintro e w3 ⟨rfl, hb3⟩
        have HB3 := Aside0.mk (below_then HB2.out HB2.out.size hb3)
        clear hb3
        go_wp2
        go_ret
        exact ⟨rfl, HB3.out⟩
      | true =>
        go_wp2_with fail
        refine (new_ok s A0 c0 l0 w1 (Kd.C_below HR0.out HB1.out) hc0 (by omega) hm).mono ?_
        rintro e w2 ⟨⟨g, v, rfl, hs⟩, hb2⟩
        have HB2 := Aside0.mk hb2
        have HS2 := Aside0.mk hs
        have p0 := pw_cell_below hb2 p0
        have p1 := pw_cell_below hb2 p1
        have HW2 := Aside0.mk (below_then HB1.out HB1.out.size hb2)
        clear hb2 hs
        go_wp2_with fail
        refine (rnew_ok s A0 c0 l0 w2 (Kd.C_below HR0.out HW2.out) hc0 (by omega) hm).mono ?_
        rintro e w3 ⟨⟨g2, vg, vo, rfl, hr⟩, hb3⟩
        have HBo : Aside0 (Both w1.heap.size w3 (.pointer (some ⟨g, 0, none⟩)) (.pointer (some ⟨g2, 0, none⟩)) [⟨⟨s, l0⟩, false⟩]) := ⟨⟨g, v, g2, vg, vo, rfl, rfl, HS2.out.below hb3, ⟨hr.blk, Nat.le_trans HB2.out.size hr.hg, Kd.Q_lower hr.rg HB2.out.size, Kd.Q_lower hr.ro HB2.out.size⟩, Fits.one hl80⟩⟩
        have HB3 := Aside0.mk (below_then HB2.out HB2.out.size hb3)
        clear HS2 HW2 hr hb3
        go_wp2_with fail
        clear p0 p1 HB2 hm
        go_loopw [5, 7, 9] (fun v5 v7 v9 wr => ∃ (i : Nat) (ls : List Sl), i ≤ l.length ∧ v9 = .int .i64 i ∧ Aside0 (Both w1.heap.size wr v5 v7 ls) ∧ Aside0 (Below w1.heap.size w1 wr)) (fun _ _ v9 _ => l.length - (intOf v9).toNat)
        case atStart => exact ⟨0, _, by omega, rfl, HBo, HB3⟩
        case round =>
          obtain ⟨i, ls, hi, rfl, HBo, HB⟩ := hrel
          clear HB3
          by_cases hlt : i < l.length
          · obtain ⟨ad, A3, c3, rfl, a0, a1, a2, a3, hlc3, hC3⟩ := at_T47 HR.out i (by omega) (by omega)
            rw [Int.toNat_natCast] at a0 a1 a2 a3
            generalize rd_T47 l (i : Int) = act at a0 a1 a2 a3 hlc3 hC3
            obtain ⟨kd, hd2, s2, l2⟩ := act
            dsimp only at a0 a1 a2 a3 hlc3 hC3
            have HCw := Aside0.mk hC3
            have HBw := Aside0.mk (below_then HB1.out HB1.out.size HB.out)
            have a0 := pw_cell_below HBw.out a0
            have a1 := pw_cell_below HBw.out a1
            have a2 := pw_cell_below HBw.out a2
            have a3 := pw_cell_below HBw.out a3
            clear hC3
            have hi64 : IntKind.i64.wrap ((i : Int) + 1) = (i : Int) + 1 := i64w (by omega) (by omega)
            go_wp2_with fail
            have AB := Aside0.mk (blk_new wr (.cells #[.int .u8 kd, .int .i64 hd2, .string s2, .slice A3 l2.length c3] 47))
            have hb0 := below_alloc (Below.refl wr.heap.size wr) (.cells #[.int .u8 kd, .int .i64 hd2, .string s2, .slice A3 l2.length c3] 47)
            refine (great_c s2 A3 l2.length c3 _).mono ?_
            rintro e wa ⟨rfl, hbx⟩
            have HBa := Aside0.mk (below_then HB.out HB.out.size (below_then hb0 hb0.size hbx))
            have ABa := Aside0.mk (blk_below AB.out hbx)
            have HBoa := Aside0.mk (HBo.out.below (below_then hb0 hb0.size hbx))
            clear hb0 hbx AB HBo a0 a1 a2 a3
            have HW : ∀ {W : World}, Below w1.heap.size w1 W → Below w.heap.size w W := fun h => below_then HB1.out HB1.out.size h
            have HW := Aside0.mk (@HW)
            by_cases hgr : (decide (80 < l2.length) || decide (200 < s2.size)) = true
            · go_wp2
              go_ret
              exact ⟨rfl, HW.out HBa.out⟩
            · have hgr1 : (decide (80 < l2.length) || decide (200 < s2.size)) = false := by simpa using hgr
              have hl80 : l2.length ≤ 80 := by
                simp only [Bool.or_eq_false_iff, decide_eq_false_iff_not] at hgr1
                omega
              have a0 := (blk_cell ABa.out 0).trans rfl
              have a1 := (blk_cell ABa.out 1).trans rfl
              have a2 := (blk_cell ABa.out 2).trans rfl
              have a3 := (blk_cell ABa.out 3).trans rfl
              go_upto_block 2 with (fail)
              go_cut [5, 7] (fun v5 v7 wx => ∃ ls', Both w1.heap.size wx v5 v7 ls' ∧ Below w1.heap.size w1 wx)
              case first =>
                obtain ⟨g3, v3, g4, vg4, vo4, rfl, rfl, hs, hr, hf⟩ := HBoa.out
                have HS := Aside0.mk hs
                have HRr := Aside0.mk hr
                have HF := Aside0.mk hf
                have hp := hf.1
                have hn32 := hf.2.1
                have hbs : Aside0 (w1.heap.size ≤ wa.heap.size) := ⟨HBa.out.size⟩
                clear hs hr hf
                by_cases hm0 : kd.tmod 4 = 0
                · have hd0 : (kd.tmod 4 == 0) = true := by simpa using hm0
                  have hq1 : (addN l2 ls != addN l2 ls) = false := by simp
                  have hq2 : (addE l2 ls != addE l2 ls) = false := by simp
                  clear hm0
                  go_wp2_with fail
                  refine (add_any w1.heap.size (fun _ => True) g3 v3 ls s2 A3 c3 l2 wa HS.out hbs.out (fun _ _ => trivial) (Kd.C_below HCw.out (HW.out HBa.out)) hlc3 (by omega) hp hn32).mono ?_
                  rintro e w5 ⟨rfl, ⟨v5, hs5⟩, hk5, hb5⟩
                  have HS5 := Aside0.mk hs5
                  have HR5 := Aside0.mk (HRr.out.keep_s HS.out hk5)
                  have AB5 := Aside0.mk (blk_keep_s ABa.out HS.out (by decide) (by decide) hk5)
                  have HB5 := Aside0.mk (HBa.out.trans hb5)
                  clear hs5 hk5 hb5 a0 a1 a2 a3
                  have a2 := (blk_cell AB5.out 2).trans rfl
                  have a3 := (blk_cell AB5.out 3).trans rfl
                  go_wp2_with fail
                  refine (radd_any w1.heap.size (fun _ => True) g4 vg4 vo4 ls s2 A3 c3 l2 w5 HR5.out HB5.out.size (fun _ _ => trivial) (Kd.C_below HCw.out (HW.out HB5.out)) hlc3 (by omega) hn32).mono ?_
                  rintro e w6 ⟨rfl, ⟨vg6, vo6, hr6⟩, hk6, hb6⟩
                  have HR6 := Aside0.mk hr6
                  have HS6 := Aside0.mk (HS5.out.keep_r HR5.out hk6)
                  have HB6 := Aside0.mk (HB5.out.trans hb6)
                  clear hr6 hk6 hb6 a2 a3
                  go_wp2_with fail
                  go_meet
                  exact ⟨_, ⟨_, _, _, _, _, rfl, rfl, HS6.out, HR6.out, HF.out.add hl80⟩, HB6.out⟩
                have hd0 : (kd.tmod 4 == 0) = false := by simpa using hm0
                by_cases hm1 : kd.tmod 4 = 1
                · have hd1 : (kd.tmod 4 == 1) = true := by simpa using hm1
                  clear hm0 hm1
                  have hq1 : (atE hd2 ls != atE hd2 ls) = false := by simp
                  have hln := atG_len (k := hd2) HF.out
                  go_wp2_with fail
                  refine (at_any w1.heap.size (fun _ => True) g3 v3 ls hd2 wa HS.out HF.out).mono ?_
                  rintro e w5 ⟨⟨u, rfl, hR5⟩, hb5⟩
                  obtain ⟨A5, c5, rfl, hl5, _⟩ := Kd.R_reads hR5
                  generalize hkey : (atG hd2 ls).1 = key at *
                  generalize hnums : (atG hd2 ls).2 = nums at *
                  have HN5 := Aside0.mk hR5
                  have HR5 := Aside0.mk (HRr.out.below hb5)
                  have AB5 := Aside0.mk (blk_below ABa.out hb5)
                  have HB5 := Aside0.mk hb5
                  clear hR5 hb5 a0 a1 a2 a3
                  have a1 := (blk_cell AB5.out 1).trans rfl
                  have a1x := cell_alloc1 a1 (.cells #[.string key, .slice A5 nums.length c5] 24)
                  go_wp2_with fail
                  have XB5 := Aside0.mk (blk_new w5 (.cells #[.string key, .slice A5 nums.length c5] 24))
                  have hx5 := below_alloc (Below.refl w5.heap.size w5) (.cells #[.string key, .slice A5 nums.length c5] 24)
                  refine (rat_any w1.heap.size (fun _ => True) g4 vg4 vo4 ls hd2 _ (HR5.out.below hx5) HF.out).mono ?_
                  rw [hkey, hnums]
                  rintro e w6 ⟨⟨u6, rfl, hR6⟩, hb6⟩
                  obtain ⟨A6, c6, rfl, hl6, hC6⟩ := Kd.R_reads hR6
                  have HB6 := Aside0.mk (below_then hx5 hx5.size hb6)
                  have HC6 := Aside0.mk hC6
                  have XB6 := Aside0.mk (blk_below XB5.out hb6)
                  have HN6 := Aside0.mk (Kd.R_below HN5.out HB6.out)
                  clear hR6 hC6 hb6 hx5 a1 a1x
                  have x0 := (blk_cell XB6.out 0).trans rfl
                  have x1 := (blk_cell XB6.out 1).trans rfl
                  have x0x := cell_alloc1 x0 (.cells #[.string key, .slice A6 nums.length c6] 24)
                  have x1x := cell_alloc1 x1 (.cells #[.string key, .slice A6 nums.length c6] 24)
                  go_wp2_with fail
                  have hy6 := below_alloc (Below.refl w6.heap.size w6) (.cells #[.string key, .slice A6 nums.length c6] 24)
                  have hC5 := Aside0.mk (Kd.R_reads' (Kd.R_below HN6.out hy6)).2.2
                  refine (same_c key A5 c5 A6 c6 nums _ hC5.out hl5 (Kd.C_below HC6.out hy6) hl6).mono ?_
                  rintro e w7 ⟨rfl, hb7⟩
                  have hb67 := below_then hy6 hy6.size hb7
                  have HN7 := Aside0.mk (Kd.R_below HN6.out hb67)
                  have XB7 := Aside0.mk (blk_below XB6.out hb67)
                  have HB7 := Aside0.mk (below_then HB5.out HB5.out.size (below_then HB6.out HB6.out.size hb67))
                  have HBX := Aside0.mk HBoa.out
                  have hge := Kd.R_base HN7.out
                  have HGE := Aside0.mk hge
                  have hnx := Kd.R_ne HN7.out XB7.out (by decide)
                  have HNX := Aside0.mk hnx
                  clear hb67 hb7 hy6 hC5 x0 x1 x0x x1x hge hnx
                  go_wp2_with fail
                  go_loopw [19] (fun v19 wx => ∃ (j : Nat) (xs : List Int), j ≤ nums.length ∧ v19 = .int .i64 j ∧ Aside0 (xs.length = nums.length) ∧ Aside0 (Kd.R (Kd.int .i64) 3 wx wa.heap.size (fun _ => True) (.slice A5 nums.length c5) xs) ∧ Aside0 (Kept w7 wx (fun k => some k = (Value.slice A5 nums.length c5).ownBlock)) ∧ Aside0 (Below wa.heap.size wa wx)) (fun v19 _ => nums.length - (intOf v19).toNat)
                  case atStart => exact ⟨0, nums, by omega, rfl, ⟨rfl⟩, HN7, ⟨Kept.refl _ _⟩, HB7⟩
                  case round =>
                    obtain ⟨j, xs, hj, rfl, HX, HN8, HK8, HB8⟩ := hrel
                    have XB8 := Aside0.mk (blk_kept XB7.out HK8.out (fun he => HNX.out he))
                    have x1 := (blk_cell XB8.out 1).trans rfl
                    by_cases hjl : j < nums.length
                    · obtain ⟨bu, cu, hav, hbu, _, _⟩ := Kd.R_form HN8.out (by have := HX.out; omega)
                      injection hav with h1 h2 h3
                      subst h1
                      have hR9 := HN8.out
                      rw [← HX.out] at hR9
                      have hcf := Kd.R_cell (0 : Int) hR9 (j : Int) (by omega) (by have := HX.out; omega)
                      have hpt := (Kd.R_put hR9 (j : Int) (99 : Int)).1
                      rw [Int.toNat_natCast] at hcf hpt
                      have hcu := hcf.1
                      have hfu := hcf.2
                      rw [HX.out] at hpt
                      have HP9 := Aside0.mk hpt
                      have HX9 : Aside0 ((xs.set j 99).length = nums.length) := ⟨by rw [List.length_set]; exact HX.out⟩
                      have HK9 := Aside0.mk (HK8.out.setCell (p := ⟨bu, j, none⟩) (.inl (show some bu = some bu from rfl)) (.int .i64 99))
                      have HB9 := Aside0.mk (HB8.out.setCell (p := ⟨bu, j, none⟩) hbu (.int .i64 99))
                      have hk8 := Int.toNat_natCast j
                      have hj64 : IntKind.i64.wrap ((j : Int) + 1) = (j : Int) + 1 := i64w (by omega) (by omega)
                      clear hR9 hcf hpt h2 h3
                      go_wp2
                      go_roundw
                      case rel => exact ⟨j + 1, _, by omega, by go_num, HX9, HP9, HK9, HB9⟩
                      case measure => simp [intOf]; omega
                    · go_wp2_with fail
                      go_meet
                      exact ⟨_, HBX.out.nums HB7.out HK8.out HGE.out, HBa.out.trans (HB8.out.mono hbs.out)⟩
                have hd1 : (kd.tmod 4 == 1) = false := by simpa using hm1
                by_cases hm2 : kd.tmod 4 = 2
                · have hd22 : (kd.tmod 4 == 2) = true := by simpa using hm2
                  clear hm0 hm1 hm2
                  go_upto_region 33 with (fail)
                  have hq1 : (atE hd2 ls != atE hd2 ls) = false := by simp
                  have hl1000 : Aside0 (∀ x ∈ ls, x.f0.f1.length ≤ 1000) := ⟨fun x hx => by have := HF.out.2.2 x hx; omega⟩
                  have hdw := below_drew (Below.refl wa.heap.size wa)
                  have HSd := Aside0.mk (HS.out.below hdw)
                  have HRd := Aside0.mk (HRr.out.below hdw)
                  have ABd := Aside0.mk (blk_below ABa.out hdw)
                  have HBd := Aside0.mk (below_drew HBa.out)
                  have FA := Aside0.mk (free_any w1.heap.size (fun _ => True) g3 v3 ls hd2 wa.drew HSd.out hp)
                  clear hdw a0 a2 a3
                  go_region_held3 (fun W => W.cell? ⟨wr.heap.size, 1, none⟩ = some (.int .i64 hd2))
                    (first | exact y1 | exact x1 | exact a1)
                    (first | (go_at_call 8; refine FA.out.mono ?_; rintro e w5 ⟨rfl, hs5, hk5, hb5⟩; have hk5 := kept_mono (S' := WrG g3 v3) hk5 (fun _ h => .inr h); have HS5 := Aside0.mk hs5; have HR5 := Aside0.mk (HRd.out.keep_s HSd.out hk5); have AB5 := Aside0.mk (blk_keep_s ABd.out HSd.out (by decide) (by decide) hk5); have HB5 := Aside0.mk (HBd.out.trans hb5); have x1 : w5.cell? ⟨wr.heap.size, 1, none⟩ = some (.int .i64 hd2) := (blk_cell AB5.out 1).trans rfl; clear hs5 hk5 hb5) | (go_at_call 16; refine (rfree_any w1.heap.size (fun _ => True) g4 vg4 vo4 ls hd2 w5 HR5.out HB5.out.size hl1000.out).mono ?_; rintro e w6 ⟨rfl, hr6, hk6, hb6⟩; have HR6 := Aside0.mk hr6; have HS6 := Aside0.mk (HS5.out.keep_r HR5.out hk6); have AB6 := Aside0.mk (blk_keep_r AB5.out HR5.out (by decide) (by decide) (by decide) hk6); have HB6 := Aside0.mk (HB5.out.trans hb6); have y1 : w6.cell? ⟨wr.heap.size, 1, none⟩ = some (.int .i64 hd2) := (blk_cell AB6.out 1).trans rfl; clear hr6 hk6 hb6))
                  all_goals (
                    clear x1 y1 a1
                    go_wp2_with fail
                    go_meet
                    exact ⟨_, ⟨_, _, _, _, _, rfl, rfl, HS6.out, HR6.out, HF.out.free⟩, HB6.out⟩)
                · have hd3 : (kd.tmod 4 == 2) = false := by simpa using hm2
                  clear hm0 hm1 hm2
                  have hgl := blk_lt HS.out.blk
                  have HVO := Aside0.mk (Kd.Q_lt HS.out.row)
                  go_wp2_with fail
                  refine (copy_ok w1.heap.size (fun _ => True) g3 v3 ls wa HS.out hbs.out hp hn32).mono ?_
                  rintro e w5 ⟨⟨g', v', rfl, hs5, hg', hv'⟩, hb5⟩
                  have HN5 := Aside0.mk hs5
                  have HG5 := Aside0.mk hg'
                  have HO5 := Aside0.mk (HS.out.below hb5)
                  have HR5 := Aside0.mk (HRr.out.below hb5)
                  have AB5 := Aside0.mk (blk_below ABa.out hb5)
                  have HB5 := Aside0.mk (below_then HBa.out HBa.out.size hb5)
                  clear hs5 hg' hv' hb5 a0 a1 a2 a3
                  go_wp2_with fail
                  refine (rcopy_ok w1.heap.size (fun _ => True) g4 vg4 vo4 ls w5 HR5.out HB5.out.size hn32).mono ?_
                  rintro e w6 ⟨⟨g6, vg6, vo6, rfl, hr6, hg6⟩, hb6⟩
                  have HR6 := Aside0.mk (hr6.mono (fun _ _ => trivial) : Gr w6 w1.heap.size (fun _ => True) g6 vg6 vo6 ls)
                  have HN6 := Aside0.mk (HN5.out.below hb6)
                  have HO6 := Aside0.mk (HO5.out.below hb6)
                  have AB6 := Aside0.mk (blk_below AB5.out hb6)
                  have HB6 := Aside0.mk (below_then HB5.out HB5.out.size hb6)
                  clear hr6 hg6 hb6
                  have a1 := (blk_cell AB6.out 1).trans rfl
                  go_wp2_with fail
                  refine (free_any w1.heap.size (fun _ => True) g3 v3 ls hd2 w6 HO6.out hp).mono ?_
                  rintro e w7 ⟨rfl, hs7, hk7, hb7⟩
                  have hk7 := kept_mono (S' := WrG g3 v3) hk7 (fun _ h => .inr h)
                  have HO7 := Aside0.mk hs7
                  have HR7 := Aside0.mk (HR6.out.keep_s HO6.out hk7)
                  have HN7 := Aside0.mk (HN6.out.keep_old HO6.out hgl HVO.out HG5.out hk7)
                  have HB7 := Aside0.mk (HB6.out.trans hb7)
                  clear hs7 hk7 hb7 a1
                  have BP7 := blk_below BP1.out HB7.out
                  have p0 := (blk_cell BP7 0).trans rfl
                  have p1 := (blk_cell BP7 1).trans rfl
                  have HF7 := Aside0.mk (HF.out.free (k := hd2))
                  go_wp2_with fail
                  refine (add_any w1.heap.size (fun _ => True) g3 v3 (freeL hd2 ls) s A0 c0 l0 w7 HO7.out HB7.out.size (fun _ _ => trivial) (Kd.C_below HR0.out (HW.out HB7.out)) hc0 (by omega) HF7.out.1 HF7.out.2.1).mono ?_
                  rintro e w8 ⟨rfl, ⟨v8, hs8⟩, hk8, hb8⟩
                  have HR8 := Aside0.mk (HR7.out.keep_s HO7.out hk8)
                  have HN8 := Aside0.mk (HN7.out.keep_old HO7.out hgl HVO.out HG5.out hk8)
                  have HB8 := Aside0.mk (HB7.out.trans hb8)
                  clear hs8 hk8 hb8 BP7 p0 p1
                  go_wp2_with fail
                  go_meet
                  exact ⟨_, ⟨_, _, _, _, _, rfl, rfl, HN8.out.mono (fun _ _ => trivial), HR8.out, HF.out⟩, HB8.out⟩
              case rest =>
                obtain ⟨wp, rfl⟩ : ∃ wp : World, wp = wc := ⟨_, rfl⟩
                obtain ⟨ls', hbo, hbb⟩ := hcut
                have HBp := Aside0.mk (below_drew hbb)
                have HBod := Aside0.mk (hbo.below (below_drew (Below.refl wp.heap.size wp)))
                obtain ⟨g3, v3, g4, vg4, vo4, rfl, rfl, hs, hr, hf⟩ := hbo
                have MC := Aside0.mk (many_c w1.heap.size (fun _ => True) g3 v3 ls' wp.drew (hs.below (below_drew (Below.refl _ _))))
                obtain ⟨A4, c4, A5, c5, rfl, rfl, _, _⟩ := hr.forms
                have hg4 : wp.cell? ⟨g4, 0, none⟩ = some (.slice A4 ls'.length c4) := (blk_cell hr.blk 0).trans rfl
                have hbne : ((ls'.length : Int) != (ls'.length : Int)) = false := by simp
                clear hs hr hf hbb a0 a1 a2 a3
                go_wp2_with fail
                go_region_with (go_at_call 9; refine MC.out.mono ?_; rintro e w' ⟨rfl, rfl⟩)
                all_goals (
                  go_wp2
                  refine ⟨⟨i + 1, ls', by omega, rfl, HBod, HBp⟩, ?_⟩
                  show l.length - (intOf (.int .i64 ((i : Int) + 1))).toNat < l.length - (intOf (.int .i64 (i : Int))).toNat
                  simp [intOf]
                  omega)
          · have hil : i = l.length := by omega
            subst hil
            go_wp2
            go_ret
            exact ⟨rfl, below_then HB1.out HB1.out.size HB.out⟩
end Go.Proofs.Ytkifmhfgplhabaa.HQ
