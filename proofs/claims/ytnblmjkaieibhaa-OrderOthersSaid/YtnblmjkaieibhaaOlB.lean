/-
  CONTRACTS BY HAND (orders, 8): the law OrderClocks, walked: it answers true, and nothing that was there is changed.
-/
import Derived.Test.YtnblmjkaieibhaaOlA
namespace Go.Proofs.Ytnblmjkaieibhaa.HO
open Go.Proofs.Ytnblmjkaieibhaa.HU Go.RowKit Go.Proofs.Ytnblmjkaieibhaa.HK Go.Proofs.Ytnblmjkaieibhaa.HP Go.Proofs.Ytnblmjkaieibhaa.Qobase Go.Proofs.YtnblmjkaieibhaaW.PrintWords Go.Proofs.YtnblmjkaieibhaaW.PrintLast Go.Proofs.YtnblmjkaieibhaaW.PrintMore
set_option linter.unusedVariables false
set_option linter.unusedSimpArgs false
theorem ints_c (A0 : Option Addr) (c0 : Nat) (l0 : List Int) (A1 : Option Addr) (c1 : Nat) (l1 : List Int) (w : World) (hr0 : Kd.C (Kd.int .i64) w A0 l0.length l0) (hc0 : l0.length ≤ c0) (hr1 : Kd.C (Kd.int .i64) w A1 l1.length l1) (hc1 : l1.length ≤ c1) (hm : l0.length < 9223372036854775807) :
    Calls Try.prog 13 #[.slice A0 l0.length c0, .slice A1 l1.length c1] w fun e w' => e = .returned (.bool (decide (l0 = l1))) ∧ Below w.heap.size w w' := by
  obtain ⟨k, hk⟩ := (ref11_ints l0 l1 hm).rounds
  exact (dispatcherref11_Ints.calls k A0 c0 l0 A1 c1 l1 _ w hr0 hc0 hr1 hc1 hk).mono fun e w' h => ⟨h.1, h.2.below⟩
theorem rdepths_c (g2 : Nat) {l : List Ev_} {N : Nat} {ks : List Kn} (hk : Known l N ks) (w : World) (h : Rr w g2 (N : Int) (l.map (·.f0)) ((rowsF l l.length).map (tab l.length))) :
    Calls Try.prog 11 #[.pointer (some ⟨g2, 0, none⟩)] w fun e w' => ∃ v0_ : Value, e = .returned v0_ ∧ Kd.R (Kd.int .i64) 3 w' w.heap.size (fun _ => True) v0_ (deps ks l.length) ∧ Below w.heap.size w w' := by
  obtain ⟨k, hq⟩ := (refDepths hk (N : Int)).rounds
  exact (dispatcherref19_Order_Depths.calls k g2 _ _ _ _ _ w w h (Below.refl _ _) hq).mono fun e w' ⟨v, h1, h2, _, h4, _⟩ => ⟨v, h1, h2, h4⟩
theorem rclock_c (g2 : Nat) {l : List Ev_} {N : Nat} {ks : List Kn} (hk : Known l N ks) (w : World) (h : Rr w g2 (N : Int) (l.map (·.f0)) ((rowsF l l.length).map (tab l.length))) {i : Nat} (hi : i < l.length) :
    Calls Try.prog 14 #[.pointer (some ⟨g2, 0, none⟩), .int .i64 i] w fun e w' => ∃ v0_ : Value, e = .returned v0_ ∧ Kd.R (Kd.int .i64) 3 w' w.heap.size (fun _ => True) v0_ (kat ks (i : Int)).f0 ∧ Below w.heap.size w w' := by
  obtain ⟨k, hq⟩ := (refClock hk hi).rounds
  exact (dispatcherref19_Order_Clock.calls k g2 _ _ _ _ _ _ w w h (Below.refl _ _) hq).mono fun e w' ⟨v, h1, h2, _, h4, _⟩ => ⟨v, h1, h2, h4⟩
set_option maxRecDepth 100000 in
set_option maxHeartbeats 16000000 in
theorem orderClocks_calls (n : Int) (A : Option Addr) (c : Nat) (l : List Ev_) (w : World) (hr : Kd.C k56 w A l.length l) (hc : l.length ≤ c) :
    Calls Try.prog 3 #[.int .i64 n, .slice A l.length c] w fun e w' => e = .returned (.bool true) ∧ Below w.heap.size w w' := by
  have HR := Aside0.mk hr
  obtain ⟨gr, hgr, hgc⟩ := great_c A c l w hr hc
  have HGC := Aside0.mk hgc
  have HGR := Aside0.mk hgr
  clear hr hgc hgr
  go_enter Try.func3, Try.ntmps3
  go_wp2_with fail
  refine HGC.out.mono ?_
  rintro e w1 ⟨rfl, n1, rfl⟩
  cases gr with
  | true =>
    go_wp2
    go_ret
    exact ⟨rfl, pw_below_drewN (Below.refl _ _) _⟩
  | false =>
    have HS := Aside0.mk (HGR.out rfl)
    have HB1 := Aside0.mk (pw_below_drewN (Below.refl w.heap.size w) n1)
    generalize w.drewN n1 = w1 at HB1 ⊢
    clear HGC HGR
    go_wp2_with fail
    refine (begin_c n A c l w1 (Kd.C_below HR.out HB1.out) hc HS.out).mono ?_
    rintro e w2 ⟨hp, hb⟩
    have HB2 := Aside0.mk (below_then HB1.out HB1.out.size hb)
    clear hb
    rcases hp with rfl | ⟨g, g2, N, ks, rfl, rfl, hk, hro, hrr, -⟩
    · go_wp2
      go_ret
      exact ⟨rfl, HB2.out⟩
    · have HK := Aside0.mk hk
      have HRO := Aside0.mk hro
      have HRR := Aside0.mk hrr
      have hl120 := (HS.out hk.l2).1
      clear hk hro hrr HB1
      go_wp2_with fail
      refine (rdepths_c g2 HK.out w2 HRR.out).mono ?_
      rintro e w3 ⟨vd, rfl, hR, hb⟩
      have HD := Aside0.mk hR
      have HRO3 := Aside0.mk (HRO.out.below hb)
      have HRR3 := Aside0.mk (HRR.out.below hb)
      have HB3 := Aside0.mk (below_then HB2.out HB2.out.size hb)
      obtain ⟨Ad, cd, rfl, hcd, hCd⟩ := Kd.R_reads HD.out
      have HCD := Aside0.mk hCd
      rw [deps_len] at hcd ⊢
      clear hR hb HRO HRR HD hCd
      go_wp2_with fail
      go_loopw [9] (fun v9 wr => ∃ i : Nat, i ≤ l.length ∧ v9 = .int .i64 i ∧ Aside0 (Below w3.heap.size w3 wr)) (fun v9 _ => l.length - (intOf v9).toNat)
      case atStart => exact ⟨0, by omega, rfl, ⟨Below.refl _ _⟩⟩
      case round =>
        obtain ⟨i, hi, rfl, HB⟩ := hrel
        obtain ⟨wo, rfl⟩ : ∃ wo : World, wo = wr := ⟨_, rfl⟩
        by_cases hlt : i < l.length
        · have hhas : hasB ks (i : Int) = true := hasB_iff.2 ⟨by omega, by rw [HK.out.len]; omega⟩
          have HHAS := Aside0.mk hhas
          have hcl : (kat ks (i : Int)).f0.length ≤ 64 := by rw [HK.out.clk i hlt, ck_len]; exact HK.out.n2
          clear hhas
          go_wp2_with fail
          go_loopw [10] (fun v10 wr => ∃ t : Nat, t ≤ 2 ∧ v10 = .int .i64 t ∧ Aside0 (Below w3.heap.size w3 wr)) (fun v10 _ => 2 - (intOf v10).toNat)
          case atStart => exact ⟨0, by omega, rfl, HB⟩
          case round =>
            clear HB
            obtain ⟨t, ht, rfl, HB⟩ := hrel
            obtain ⟨w4, rfl⟩ : ∃ w4 : World, w4 = wr := ⟨_, rfl⟩
            by_cases ht2 : t < 2
            · have dt : decide ((t : Int) < 2) = true := decide_eq_true (by omega)
              have it64 : IntKind.i64.wrap ((t : Int) + 1) = (t : Int) + 1 := i64w (by omega) (by omega)
              go_wp2_with fail
              refine (clock_ok g ks i w4 (HRO3.out.below HB.out) HHAS.out (by omega)).mono ?_
              rintro e w5 ⟨vc, rfl, hR, hb⟩
              have HRC := Aside0.mk (Kd.R_lower hR HB.out.size)
              have HB5 := Aside0.mk (below_then HB.out HB.out.size hb)
              clear hR hb
              obtain ⟨Ac, cc, rfl, hcc, _⟩ := Kd.R_reads HRC.out
              go_wp2_with fail
              refine (rclock_c g2 HK.out w5 (HRR3.out.below HB5.out) hlt).mono ?_
              rintro e w6 ⟨vq, rfl, hR, hb⟩
              have HRC6 := Aside0.mk (Kd.R_below HRC.out hb)
              have HRQ := Aside0.mk hR
              have HB6 := Aside0.mk (below_then HB5.out HB5.out.size hb)
              clear hR hb HRC
              obtain ⟨Aq, cq, rfl, hcq, hCq⟩ := Kd.R_reads HRQ.out
              have HCQ := Aside0.mk hCq
              clear hCq
              go_wp2_with fail
              refine (ints_c Ac cc (kat ks (i : Int)).f0 Aq cq (kat ks (i : Int)).f0 w6 (Kd.R_reads' HRC6.out).2.2 hcc HCQ.out hcq (by omega)).mono ?_
              rintro e w7 ⟨rfl, hb⟩
              have HRC7 := Aside0.mk (Kd.R_below HRC6.out hb)
              have HB7 := Aside0.mk (below_then HB6.out HB6.out.size hb)
              clear hb HRQ HCQ HRC6
              rw [decide_eq_true (rfl : (kat ks (i : Int)).f0 = (kat ks (i : Int)).f0)]
              have hlc := Aside0.mk (rfl : (kat ks (i : Int)).f0.length = (kat ks (i : Int)).f0.length)
              generalize hcl2 : (kat ks (i : Int)).f0 = cl at *
              clear hcl2
              go_wp2_with fail
              go_loopw [13] (fun v13 wr => ∃ (j : Nat) (xs : List Int), j ≤ cl.length ∧ v13 = .int .i64 j ∧ Aside0 (xs.length = cl.length) ∧ Aside0 (Kd.R (Kd.int .i64) 3 wr w3.heap.size (fun _ => True) (.slice Ac cl.length cc) xs) ∧ Aside0 (Below w3.heap.size w3 wr)) (fun v13 _ => cl.length - (intOf v13).toNat)
              case atStart => exact ⟨0, cl, by omega, rfl, ⟨rfl⟩, HRC7, HB7⟩
              case round =>
                clear HRC7 HB7
                obtain ⟨j, xs, hj, rfl, HX, HN8, HB8⟩ := hrel
                by_cases hjl : j < cl.length
                · obtain ⟨bu, cu, hav, hbu, _, _⟩ := Kd.R_form HN8.out (by have := HX.out; omega)
                  injection hav with h1 h2 h3
                  subst h1
                  have hR9 := HN8.out
                  rw [← HX.out] at hR9
                  have hcf := Kd.R_cell (0 : Int) hR9 (j : Int) (by omega) (by have := HX.out; omega)
                  have hpt := (Kd.R_put hR9 (j : Int) (-9 : Int)).1
                  rw [Int.toNat_natCast] at hcf hpt
                  have hcu := hcf.1
                  have hfu := hcf.2
                  rw [HX.out] at hpt
                  have HP9 := Aside0.mk hpt
                  have HX9 : Aside0 ((xs.set j (-9)).length = cl.length) := ⟨by rw [List.length_set]; exact HX.out⟩
                  have HB9 := Aside0.mk (HB8.out.setCell (p := ⟨bu, j, none⟩) hbu (.int .i64 (-9)))
                  have hk8 := Int.toNat_natCast j
                  have hj64 : IntKind.i64.wrap ((j : Int) + 1) = (j : Int) + 1 := i64w (by omega) (by omega)
                  clear hR9 hcf hpt h2 h3
                  go_wp2
                  go_roundw
                  case rel => exact ⟨j + 1, _, by omega, by go_num, HX9, HP9, HB9⟩
                  case measure => simp [intOf]; omega
                · have hjq : j = cl.length := by omega
                  subst hjq
                  go_wp2
                  go_roundw
                  case rel => exact ⟨t + 1, by omega, by go_num, HB8⟩
                  case measure => simp [intOf]; omega
            · obtain rfl : t = 2 := by omega
              go_wp2_with fail
              refine (depth_ok g ks i w4 (HRO3.out.below HB.out) HHAS.out).mono ?_
              rintro e w5 ⟨rfl, rfl⟩
              obtain ⟨ad, had, hx⟩ := Kd.at_int (Kd.C_below HCD.out HB.out) i (by omega) (by rw [deps_len]; omega)
              rw [deps_rd hlt, Int.toNat_natCast] at hx
              subst had
              have hne : ((kat ks (i : Int)).f1 != (kat ks (i : Int)).f1) = false := by simp
              have hi64 : IntKind.i64.wrap ((i : Int) + 1) = (i : Int) + 1 := i64w (by omega) (by omega)
              go_wp2
              refine ⟨⟨i + 1, by omega, by go_num, HB⟩, ?_⟩
              simp [intOf]
              omega
        · obtain rfl : i = l.length := by omega
          have hno : hasB ks (l.length : Int) = false := by
            cases hh : hasB ks (l.length : Int) with
            | false => rfl
            | true => have := (hasB_iff.1 hh).2; rw [HK.out.len] at this; omega
          have hno2 : hasB ks (-1) = false := by
            cases hh : hasB ks (-1) with
            | false => rfl
            | true => have := (hasB_iff.1 hh).1; omega
          have HNO := Aside0.mk hno
          have HNO2 := Aside0.mk hno2
          have hmany := HK.out.len
          have HMANY := Aside0.mk hmany
          clear hno hno2 hmany
          go_wp2_with fail
          refine (clock_no g ks l.length wo (HRO3.out.below HB.out) HNO.out).mono ?_
          rintro e w5 ⟨rfl, rfl⟩
          go_wp2_with fail
          refine (depth_no g ks (-1) wo (HRO3.out.below HB.out) HNO2.out).mono ?_
          rintro e w5 ⟨rfl, rfl⟩
          go_wp2_with fail
          refine (many_c g ks wo (HRO3.out.below HB.out)).mono ?_
          rintro e w5 ⟨rfl, rfl⟩
          rw [HMANY.out]
          have heq : ((l.length : Int) == (l.length : Int)) = true := by simp
          go_wp2
          go_ret
          exact ⟨rfl, below_then HB3.out HB3.out.size HB.out⟩
end Go.Proofs.Ytnblmjkaieibhaa.HO
