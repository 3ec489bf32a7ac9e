/-
  CONTRACTS BY HAND (orders, 9): the law OrderAhead, walked: it answers true, and nothing that was there is changed.
-/
import Derived.Test.YtnblmjkaieibhaaOlB
namespace Go.Proofs.Ytnblmjkaieibhaa.HO
open Go.Proofs.Ytnblmjkaieibhaa.HU Go.RowKit Go.Proofs.Ytnblmjkaieibhaa.HK Go.Proofs.Ytnblmjkaieibhaa.HP Go.Proofs.Ytnblmjkaieibhaa.Qobase Go.Proofs.YtnblmjkaieibhaaW.PrintWords Go.Proofs.YtnblmjkaieibhaaW.PrintLast Go.Proofs.YtnblmjkaieibhaaW.PrintMore
set_option linter.unusedVariables false
set_option linter.unusedSimpArgs false
/-- did one of a number happen ahead of one at a place? -/
def atB (l : List Ev_) (at_ : Int) (i : Nat) : Bool := decide (0 ≤ at_) && (decide (at_ < l.length) && HH l at_.toNat i)
def pst (l : List Ev_) (at_ : Int) (m : Nat) : List Int := ((List.range m).filter (fun i : Nat => atB l at_ i)).map (fun i : Nat => (i : Int))
theorem pst_len (l : List Ev_) (at_ : Int) (m : Nat) : (pst l at_ m).length ≤ m := by
  unfold pst
  rw [List.length_map]
  exact Nat.le_trans (List.length_filter_le _ _) (by simp)
theorem pst_yes {l : List Ev_} {at_ : Int} {m : Nat} (h : atB l at_ m = true) : pst l at_ (m + 1) = pst l at_ m ++ [(m : Int)] := by simp [pst, List.range_succ, h]
theorem pst_no {l : List Ev_} {at_ : Int} {m : Nat} (h : atB l at_ m = false) : pst l at_ (m + 1) = pst l at_ m := by simp [pst, List.range_succ, h]
theorem Known.ah_at {l : List Ev_} {N : Nat} {ks : List Kn} (h : Known l N ks) {i : Nat} (hi : i < l.length) (at_ : Int) : ahB ks (i : Int) at_ = atB l at_ i := by
  unfold atB
  by_cases h0 : 0 ≤ at_
  · by_cases h1 : at_ < l.length
    · obtain ⟨k, rfl⟩ : ∃ k : Nat, at_ = k := ⟨at_.toNat, by omega⟩
      rw [h.ahead hi (by omega), decide_eq_true h0, decide_eq_true h1, Int.toNat_natCast]
      simp
    · have : hasB ks at_ = false := by unfold hasB; rw [h.len, decide_eq_false h1, Bool.and_false]
      unfold ahB
      rw [this, decide_eq_false h1]
      simp
  · have : hasB ks at_ = false := by unfold hasB; rw [decide_eq_false h0, Bool.false_and]
    unfold ahB
    rw [this, decide_eq_false h0]
    simp
theorem Known.past {l : List Ev_} {N : Nat} {ks : List Kn} (h : Known l N ks) (at_ : Int) : pastL ks at_ ks.length = pst l at_ l.length := by
  unfold pastL pst
  rw [h.len]
  congr 1
  refine List.filter_congr (fun k hk => ?_)
  exact h.ah_at (by simpa using hk) at_
/-- a test of the document's rows, as it lies -/
theorem rr_at {W : World} {g2 : Nat} {n : Int} {l : List Ev_} (h : Rr W g2 n (l.map (·.f0)) ((rowsF l l.length).map (tab l.length))) {q m : Nat} (hq : q < l.length) (hm : m < l.length) :
    ∃ ad c c0 ad0, W.cell? ⟨g2, 2, none⟩ = some (.slice (some ad) l.length c) ∧ W.cell? (ad.add q) = some (.slice (some ad0) l.length c0) ∧ W.cell? (ad0.add m) = some (.bool (HH l q m)) := by
  obtain ⟨A1, c1, A2, c2, h1, _, _, h4⟩ := h
  obtain ⟨ad, c0, ad0, rfl, e1, e2⟩ := rows_at rfl h4 q m (by rw [rowsF_len]; exact hq) hm
  rw [rows_get l.length q hq] at e2
  have h2 : W.cell? ⟨g2, 2, none⟩ = some (.slice (some ad) ((rowsF l l.length).map (tab l.length)).length c2) := (blk_cell h1 2).trans rfl
  rw [List.length_map, rowsF_len] at h2
  exact ⟨ad, c2, c0, ad0, h2, e1, e2⟩
theorem ahead_no {ks : List Kn} {i k : Int} (h : hasB ks i = false ∨ hasB ks k = false) : ahB ks i k = false := by
  unfold ahB
  rcases h with h | h <;> rw [h] <;> simp
set_option maxRecDepth 100000 in
set_option maxHeartbeats 16000000 in
theorem orderAhead_calls (n : Int) (A : Option Addr) (c : Nat) (l : List Ev_) (at_ : Int) (w : World) (hr : Kd.C k56 w A l.length l) (hc : l.length ≤ c) :
    Calls Try.prog 4 #[.int .i64 n, .slice A l.length c, .int .i64 at_] w fun e w' => e = .returned (.bool true) ∧ Below w.heap.size w w' := by
  have HR := Aside0.mk hr
  obtain ⟨gr, hgr, hgc⟩ := great_c A c l w hr hc
  have HGC := Aside0.mk hgc
  have HGR := Aside0.mk hgr
  clear hr hgc hgr
  go_enter Try.func4, Try.ntmps4
  go_wp2_with fail
  refine HGC.out.mono ?_
  rintro e w1 ⟨rfl, n1, rfl⟩
  cases gr with
  | true =>
    go_wp2
    go_ret
    exact ⟨rfl, pw_below_drewN (Below.refl _ _) _⟩
  | false =>
    have HS := Aside0.mk (HGR.out rfl)
    have HB1 := Aside0.mk (pw_below_drewN (Below.refl w.heap.size w) n1)
    generalize w.drewN n1 = w1 at HB1 ⊢
    clear HGC HGR
    go_wp2_with fail
    refine (begin_c n A c l w1 (Kd.C_below HR.out HB1.out) hc HS.out).mono ?_
    rintro e w3 ⟨hp, hb⟩
    have HB3 := Aside0.mk (below_then HB1.out HB1.out.size hb)
    clear hb
    rcases hp with rfl | ⟨g, g2, N, ks, rfl, rfl, hk, hro, hrr⟩
    · go_wp2
      go_ret
      exact ⟨rfl, HB3.out⟩
    · have HK := Aside0.mk hk
      have HRO3 := Aside0.mk hro
      have HRR3 := Aside0.mk hrr
      have hl120 := (HS.out hk.l2).1
      clear hk hro hrr HB1
      go_wp2_with fail
      go_loopw [10, 11] (fun v10 v11 wr => ∃ i : Nat, i ≤ l.length ∧ v11 = .int .i64 i ∧ Aside0 (Kd.R (Kd.int .i64) 3 wr w3.heap.size (fun _ => True) v10 (pst l at_ i)) ∧ Aside0 (Below w3.heap.size w3 wr)) (fun _ v11 _ => l.length - (intOf v11).toNat)
      case atStart => exact ⟨0, by omega, rfl, ⟨Kd.R_nil _ _ _ _ _⟩, ⟨Below.refl _ _⟩⟩
      case round =>
        obtain ⟨i, hi, rfl, HP, HB⟩ := hrel
        obtain ⟨wo, rfl⟩ : ∃ wo : World, wo = wr := ⟨_, rfl⟩
        by_cases hlt : i < l.length
        · go_wp2_with fail
          go_loopw [12] (fun v12 wr => ∃ k : Nat, k ≤ l.length ∧ v12 = .int .i64 k ∧ Aside0 (Kd.R (Kd.int .i64) 3 wr w3.heap.size (fun _ => True) u10 (pst l at_ i)) ∧ Aside0 (Below w3.heap.size w3 wr)) (fun v12 _ => l.length - (intOf v12).toNat)
          case atStart => exact ⟨0, by omega, rfl, HP, HB⟩
          case round =>
            clear HB HP
            obtain ⟨k, hk, rfl, HP, HB⟩ := hrel
            obtain ⟨w4, rfl⟩ : ∃ w4 : World, w4 = wr := ⟨_, rfl⟩
            by_cases hkl : k < l.length
            · go_wp2_with fail
              obtain ⟨ad, ca, c0, ad0, e1, e2, e3⟩ := rr_at (HRR3.out.below HB.out) hkl hlt
              have HA := Aside0.mk (ahead_c g ks i k w4.drew ((HRO3.out.below HB.out).below (below_drew (Below.refl _ _))))
              have hah := HK.out.ahead hlt hkl
              rw [hah] at HA
              clear hah
              have hki : (k : Int) < (l.length : Int) := by omega
              have hii : (i : Int) < (l.length : Int) := by omega
              have hi64 : IntKind.i64.wrap ((k : Int) + 1) = (k : Int) + 1 := i64w (by omega) (by omega)
              have E0 := Aside0.mk (And.intro e1 (And.intro e2 e3))
              go_region_held3 (fun W => W.cell? ⟨g2, 2, none⟩ = some (.slice (some ad) l.length ca) ∧ W.cell? (ad.add k) = some (.slice (some ad0) l.length c0) ∧ W.cell? (ad0.add i) = some (.bool (HH l k i)))
                (first | exact ⟨y1, y2, y3⟩ | exact ⟨e1, e2, e3⟩)
                ((go_at_call 17; refine HA.out.mono ?_; rintro e w5 ⟨rfl, hb⟩; have HB5 := Aside0.mk (below_of_drew hb); have y1 := pw_cell_below (below_of_drew hb) e1; have y2 := pw_cell_below (below_of_drew hb) e2; have y3 := pw_cell_below (below_of_drew hb) e3; clear hb))
              all_goals (
                clear y1 y2 y3 e1 e2 e3
                have HP5 := Aside0.mk (Kd.R_below HP.out HB5.out)
                have HB6 := Aside0.mk (below_then HB.out HB.out.size HB5.out)
                go_wp2
                refine ⟨⟨k + 1, by omega, by go_num, HP5, HB6⟩, ?_⟩
                simp [intOf]
                omega)
            · obtain rfl : k = l.length := by omega
              have hi64 : IntKind.i64.wrap ((i : Int) + 1) = (i : Int) + 1 := i64w (by omega) (by omega)
              have hml := pst_len l at_ i
              have hz := HB.out.size
              have hkl8 : ((pst l at_ i).length + 1) * 8 ≤ 140737488355328 := by omega
              obtain ⟨Ap, cp, hup, hcp, _⟩ := Kd.R_reads HP.out
              subst hup
              by_cases h0 : 0 ≤ at_
              · have d0 : decide (0 ≤ at_) = true := decide_eq_true h0
                by_cases h1 : at_ < (l.length : Int)
                · have d1 : decide (at_ < (l.length : Int)) = true := decide_eq_true h1
                  obtain ⟨q, rfl⟩ : ∃ q : Nat, at_ = q := ⟨at_.toNat, by omega⟩
                  obtain ⟨ad, ca, c0, ad0, e1, e2, e3⟩ := rr_at (HRR3.out.below HB.out) (show q < l.length by omega) hlt
                  have hii : (i : Int) < (l.length : Int) := by omega
                  have hqa : atB l (q : Int) i = HH l q i := by unfold atB; rw [d0, d1, Int.toNat_natCast]; rfl
                  by_cases hH : HH l q i = true
                  · rw [hH] at e3
                    have HYES := Aside0.mk (pst_yes (hqa.trans hH))
                    clear hqa hH
                    go_wp2_with (at_builtin; refine Kd.R_append (Kd.int .i64) (w0 := w3) w3.heap.size rfl (.tmp 76) (.tmp 78) 28 3 (.int .i64 0) 8 rfl Try.underlying28 infoI rfl (by decide) (by decide) (.slice Ap (pst l (q : Int) i).length cp) (pst l (q : Int) i) (i : Int) [.int .i64 i] (fun _ => True) (fun _ => False) rfl rfl rfl (fun _ h => h.elim) (fun _ _ => trivial) HP.out HB.out hz hkl8 ?_; intro v1 w5 ho hbl hgr hat)
                    rw [← HYES.out] at ho
                    refine ⟨⟨i + 1, by omega, by go_num, ⟨ho⟩, ⟨hbl⟩⟩, ?_⟩
                    simp [intOf]
                    omega
                  · have hH : HH l q i = false := by simpa using hH
                    rw [hH] at e3
                    have HNO := Aside0.mk (pst_no (hqa.trans hH))
                    clear hqa hH
                    go_wp2
                    refine ⟨⟨i + 1, by omega, by go_num, ⟨by rw [HNO.out]; exact HP.out⟩, HB⟩, ?_⟩
                    simp [intOf]
                    omega
                · have d1 : decide (at_ < (l.length : Int)) = false := decide_eq_false h1
                  have HNO := Aside0.mk (pst_no (show atB l at_ i = false by unfold atB; rw [d1]; simp))
                  go_wp2
                  refine ⟨⟨i + 1, by omega, by go_num, ⟨by rw [HNO.out]; exact HP.out⟩, HB⟩, ?_⟩
                  simp [intOf]
                  omega
              · have d0 : decide (0 ≤ at_) = false := decide_eq_false h0
                have HNO := Aside0.mk (pst_no (show atB l at_ i = false by unfold atB; rw [d0]; simp))
                go_wp2
                refine ⟨⟨i + 1, by omega, by go_num, ⟨by rw [HNO.out]; exact HP.out⟩, HB⟩, ?_⟩
                simp [intOf]
                omega
        · obtain rfl : i = l.length := by omega
          obtain ⟨Ap, cp, hup, hcp, _⟩ := Kd.R_reads HP.out
          subst hup
          have HPAST := Aside0.mk (HK.out.past at_)
          have hks := HK.out.l2
          have hkl : ks.length ≤ 2000 := by rw [HK.out.len]; exact hks
          have hml := pst_len l at_ l.length
          go_wp2_with fail
          refine (past_c g ks at_ wo (HRO3.out.below HB.out) hkl).mono ?_
          rintro e w5 ⟨vp, rfl, hR, hb⟩
          rw [HPAST.out] at hR
          have HP5 := Aside0.mk (Kd.R_below HP.out hb)
          have HR5 := Aside0.mk hR
          have HB5 := Aside0.mk (below_then HB.out HB.out.size hb)
          clear hR hb
          obtain ⟨Aq, cq, rfl, hcq, hCq⟩ := Kd.R_reads HR5.out
          have HCQ := Aside0.mk hCq
          clear hCq
          go_wp2_with fail
          refine (ints_c Aq cq (pst l at_ l.length) Ap cp (pst l at_ l.length) w5 HCQ.out hcq (Kd.R_reads' HP5.out).2.2 hcp (by omega)).mono ?_
          rintro e w6 ⟨rfl, hb⟩
          have HB6 := Aside0.mk (below_then HB5.out HB5.out.size hb)
          clear hb HCQ HR5 HP5
          rw [decide_eq_true (rfl : pst l at_ l.length = pst l at_ l.length)]
          go_wp2_with fail
          refine (ahead_c g ks (-1) 0 w6 (HRO3.out.below HB6.out)).mono ?_
          rintro e w7 ⟨rfl, hb⟩
          have HB7 := Aside0.mk (below_then HB6.out HB6.out.size hb)
          clear hb
          rw [ahead_no (.inl (show hasB ks (-1) = false by simp [hasB]))]
          go_wp2_with fail
          refine (ahead_c g ks 0 l.length w7 (HRO3.out.below HB7.out)).mono ?_
          rintro e w8 ⟨rfl, hb⟩
          have HB8 := Aside0.mk (below_then HB7.out HB7.out.size hb)
          clear hb
          rw [ahead_no (.inr (show hasB ks (l.length : Int) = false by unfold hasB; rw [HK.out.len]; simp))]
          go_wp2
          go_ret
          exact ⟨rfl, below_then HB3.out HB3.out.size HB8.out⟩
end Go.Proofs.Ytnblmjkaieibhaa.HO
