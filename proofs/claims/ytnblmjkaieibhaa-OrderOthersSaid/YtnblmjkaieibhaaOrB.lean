/-
  CONTRACTS BY HAND (orders, 6): the document's Of, walked.
-/
import Derived.Test.YtnblmjkaieibhaaOrA
namespace Go.Proofs.Ytnblmjkaieibhaa.HO
open Go.Proofs.Ytnblmjkaieibhaa.HU Go.RowKit Go.Proofs.Ytnblmjkaieibhaa.HK Go.Proofs.Ytnblmjkaieibhaa.HP Go.Proofs.YtnblmjkaieibhaaW.PrintWords Go.Proofs.YtnblmjkaieibhaaW.PrintLast Go.Proofs.YtnblmjkaieibhaaW.PrintMore
set_option linter.unusedVariables false
set_option linter.unusedSimpArgs false
theorem E41 : ∀ q, q ∈ 41 :: (Kd.slice 4 Kd.bool).E → q ≠ 44 := by decide
theorem E3r : ∀ q, q ∈ 3 :: (Kd.int .i64).E → q ≠ 44 := by decide
theorem ref_mid {w W w6 : World} {base g : Nat} {n : Int} {vr va v1 : Value} {ranks : List Int} {rows rows' : List (List Bool)} (h : Rm W base g n vr va ranks rows) (ho : Kd.R (Kd.slice 4 Kd.bool) 41 w6 base (fun _ => True) v1 rows')
    (hbl : Below base w w6) (hgr : W.grownBy w6 va.ownBlock) : Rm (w6.setCell ⟨g, 2, none⟩ v1) base g n vr v1 ranks rows' ∧ Below base w (w6.setCell ⟨g, 2, none⟩ v1) := by
  have hg := blk_grown h.blk hgr (Kd.R_ne h.row h.blk (by decide))
  have hr := Kd.R_over' h.rks (Kd.R_typed h.row) (by decide) hgr
  exact ⟨⟨blk_put (cs' := #[.int .i64 n, vr, v1]) hg 2 _ rfl, h.hg, Kd.R_set hr hg E3r 2 _, Kd.R_set ho hg E41 2 _⟩, hbl.setCell (p := ⟨g, 2, none⟩) h.hg _⟩
theorem ref_rank {w W w6 : World} {base g : Nat} {n : Int} {vr va v1 : Value} {ranks ranks' : List Int} {rows : List (List Bool)} (h : Rm W base g n vr va ranks rows) (ho : Kd.R (Kd.int .i64) 3 w6 base (fun _ => True) v1 ranks')
    (hbl : Below base w w6) (hgr : W.grownBy w6 vr.ownBlock) : Rm (w6.setCell ⟨g, 1, none⟩ v1) base g n v1 va ranks' rows ∧ Below base w (w6.setCell ⟨g, 1, none⟩ v1) := by
  have hg := blk_grown h.blk hgr (Kd.R_ne h.rks h.blk (by decide))
  have hr := Kd.R_over' h.row (Kd.R_typed h.rks) (by decide) hgr
  exact ⟨⟨blk_put (cs' := #[.int .i64 n, v1, va]) hg 1 _ rfl, h.hg, Kd.R_set ho hg E3r 1 _, Kd.R_set hr hg E41 1 _⟩, hbl.setCell (p := ⟨g, 1, none⟩) h.hg _⟩
theorem take_map {l : List Ev_} {k : Nat} (h : k < l.length) : (l.take (k + 1)).map (·.f0) = (l.take k).map (·.f0) ++ [(ek l k).f0] := by
  rw [List.take_succ_eq_append_getElem h, List.map_append, ek_eq h]
  rfl
theorem rows_succ {l : List Ev_} {k L : Nat} : (rowsF l (k + 1)).map (tab L) = (rowsF l k).map (tab L) ++ [tab L (dn (aH l k) k (afterF l k (ek l k).f1.length))] := by
  rw [rowsF, List.map_append]
  rfl
theorem dn_step {A : Nat → Nat → Bool} {q L : Nat} {f F : Nat → Bool} (h : ∀ m, m < L → dn A (q + 1) f m = F m) : ∀ m, m < L → dn A q (fun m => f m || (decide (m < q) && (f q && A q m))) m = F m := h
set_option maxRecDepth 100000 in
set_option maxHeartbeats 16000000 in
theorem refOf_calls (n : Int) (A : Option Addr) (c : Nat) (l : List Ev_) (w : World) (hr : Kd.C k56 w A l.length l) (hc : l.length ≤ c) (hl : l.length ≤ 2000 → ∀ e ∈ l, e.f1.length ≤ 1000) :
    Calls Try.prog 26 #[.int .i64 n, .slice A l.length c] w fun e w' => RefPost w.heap.size n l e w' ∧ Below w.heap.size w w' := by
  have HR := Aside0.mk hr
  clear hr
  by_cases h1 : n < 1
  · have hB : badH n l := .inl h1
    have d1 : decide (n < 1) = true := decide_eq_true h1
    go_enter Try.func26, Try.ntmps26
    go_wp2
    go_ret2
    exact ⟨.inl ⟨hB, rfl⟩, Below.refl _ _⟩
  by_cases h2 : 64 < n
  · have hB : badH n l := .inr (.inl h2)
    have d1 : decide (n < 1) = false := decide_eq_false h1
    have d2 : decide (64 < n) = true := decide_eq_true h2
    go_enter Try.func26, Try.ntmps26
    go_wp2
    go_ret2
    exact ⟨.inl ⟨hB, rfl⟩, Below.refl _ _⟩
  by_cases h3 : 2000 < l.length
  · have hB : badH n l := .inr (.inr (.inl h3))
    have d1 : decide (n < 1) = false := decide_eq_false h1
    have d2 : decide (64 < n) = false := decide_eq_false h2
    have d3 : decide ((2000 : Int) < (l.length : Int)) = true := decide_eq_true (by omega)
    go_enter Try.func26, Try.ntmps26
    go_wp2
    go_ret2
    exact ⟨.inl ⟨hB, rfl⟩, Below.refl _ _⟩
  have d1 : decide (n < 1) = false := decide_eq_false h1
  have d2 : decide (64 < n) = false := decide_eq_false h2
  have d3 : decide ((2000 : Int) < (l.length : Int)) = false := decide_eq_false (by omega)
  have HL := Aside0.mk (hl (by omega))
  have hl2 : l.length ≤ 2000 := by omega
  have hn1 : 1 ≤ n := by omega
  have hn2 : n ≤ 64 := by omega
  clear h1 h2 h3 hl
  go_enter Try.func26, Try.ntmps26
  go_wp2_with fail
  have HM0 : Aside0 (Rm (w.alloc (.cells #[.int .i64 n, .slice none 0 0, .slice none 0 0] 44)) w.heap.size w.heap.size n (.slice none 0 0) (.slice none 0 0) [] []) :=
    ⟨⟨blk_new w _, Nat.le_refl _, Kd.R_nil _ _ _ _ _, Kd.R_nil _ _ _ _ _⟩⟩
  have HB0 := Aside0.mk (below_alloc (Below.refl w.heap.size w) (.cells #[.int .i64 n, .slice none 0 0, .slice none 0 0] 44))
  clear d1 d2 d3
  go_loopw [7] (fun v7 wr => ∃ (i : Nat) (vr va : Value), i ≤ l.length ∧ v7 = .int .i64 i ∧ Aside0 (Rm wr w.heap.size w.heap.size n vr va ((l.take i).map (·.f0)) ((rowsF l i).map (tab l.length))) ∧ Aside0 (∀ k, k < i → vldE l n k = true) ∧ Aside0 (Below w.heap.size w wr)) (fun v7 _ => l.length - (intOf v7).toNat)
  case atStart => exact ⟨0, _, _, by omega, rfl, HM0, ⟨fun k hk => by omega⟩, HB0⟩
  case round =>
    clear HM0 HB0
    obtain ⟨i, vr, va, hi, rfl, HM, HV, HB⟩ := hrel
    obtain ⟨wo, rfl⟩ : ∃ wo : World, wo = wr := ⟨_, rfl⟩
    by_cases hlt : i < l.length
    · obtain ⟨ad, A1, c1, rfl, a0, a1, b0, b1⟩ := ek_at HR.out i hlt
      have HA0 := Aside0.mk a0
      have HA1 := Aside0.mk a1
      have HC1 := Aside0.mk b1
      have hlen := HL.out (ek l i) (by rw [ek_eq hlt]; exact List.getElem_mem _)
      have a0 := pw_cell_below HB.out a0
      clear a1 b1
      by_cases hr0 : (ek l i).f0 < 0
      · have HBD : Aside0 (badH n l) := ⟨bad_of hlt (by simp [vldE]; omega)⟩
        have d0 : decide ((ek l i).f0 < 0) = true := decide_eq_true hr0
        go_wp2
        go_ret2
        exact ⟨.inl ⟨HBD.out, rfl⟩, HB.out⟩
      by_cases hr1 : n ≤ (ek l i).f0
      · have HBD : Aside0 (badH n l) := ⟨bad_of hlt (by simp [vldE]; omega)⟩
        have d0 : decide ((ek l i).f0 < 0) = false := decide_eq_false hr0
        have d1 : decide (n ≤ (ek l i).f0) = true := decide_eq_true hr1
        go_wp2
        go_ret2
        exact ⟨.inl ⟨HBD.out, rfl⟩, HB.out⟩
      have d0 : decide ((ek l i).f0 < 0) = false := decide_eq_false hr0
      have d1 : decide (n ≤ (ek l i).f0) = false := decide_eq_false hr1
      have hr0' : 0 ≤ (ek l i).f0 := by omega
      have hr1' : (ek l i).f0 < n := by omega
      have hm8 : (l.length : Int).toNat * 1 ≤ 281474976710656 := by rw [Int.toNat_natCast]; omega
      have hm0 : (0 : Int) ≤ (l.length : Int) := by omega
      clear hr0 hr1
      go_wp2_with ((with_reducible refine gate_dst (N := 51) rfl ?_); refine Kd.R_make Kd.bool (w0 := wo) wo.heap.size 4 rfl (N := 51) rfl 41 _ _ rfl (l.length : Int) rfl rfl Try.underlying41 (.bool false) 1 infoB rfl (by decide) (by decide) false (ok := fun _ => True) (okp := fun _ => True) rfl (fun _ hk => hk) trivial hm0 hm8 (Below.refl _ _) (Nat.le_refl _) ?_; intro vl w2 ho hbl hgr hnew; obtain ⟨Al, cl, rfl, hcl, _⟩ := Kd.R_reads ho; rw [Int.toNat_natCast] at ho hcl; rw [List.length_replicate] at ho hcl; have HO := Aside0.mk ho; have HBM := Aside0.mk hbl; have HCAP := Aside0.mk hnew; clear ho hbl hgr hnew)
      obtain ⟨gl, rfl⟩ : ∃ gl, Al = some ⟨gl, 0, none⟩ := by
        obtain ⟨ad2, _, e1⟩ := Kd.R_slice1 HO.out (by simp; omega)
        injection e1 with e1 _ _
        subst e1
        obtain ⟨gl, rfl⟩ := Kd.R_head HO.out
        exact ⟨gl, rfl⟩
      have hgl : wo.heap.size ≤ gl := by
        obtain ⟨b, e1, e2⟩ := HCAP.out
        exact ownB e1 ▸ e2
      have hgw : w.heap.size ≤ gl := Nat.le_trans HB.out.size hgl
      have HI0 : Aside0 (Mid w w2 w2 gl cl l.length (sameF l i 0)) := ⟨⟨by
        have := Kd.R_lower HO.out HB.out.size
        rw [tab_zero] at this
        rw [show tab l.length (sameF l i 0) = tab l.length (fun _ => false) from tab_congr (fun m _ => by simp [sameF])]
        exact this, Kept.refl _ _, below_then HB.out HB.out.size HBM.out⟩⟩
      clear HCAP HO
      go_loopw [9] (fun v9 wr => ∃ k : Nat, k ≤ i ∧ v9 = .int .i64 k ∧ Aside0 (Mid w w2 wr gl cl l.length (sameF l i k))) (fun v9 _ => i - (intOf v9).toNat)
      case atStart => exact ⟨0, by omega, rfl, HI0⟩
      case round =>
        clear HI0
        obtain ⟨k, hk, rfl, HI⟩ := hrel
        by_cases hki : k < i
        · obtain ⟨adk, A2, c2, he, k0, _, _, _⟩ := ek_at HR.out k (by omega)
          injection he with he
          subst he
          have k0 := pw_cell_below HI.out.bel k0
          have i0 := pw_cell_below HI.out.bel HA0.out
          have hkl : k < l.length := by omega
          go_wp2_with fail
          go_quiet (fail)
          have HId := Aside0.mk (HI.out.drew nq)
          have hcf := (HId.out.cell hkl).2
          have hcc := (HId.out.cell hkl).1
          clear k0 i0
          by_cases heq : (ek l k).f0 = (ek l i).f0
          · have hq : ((ek l k).f0 == (ek l i).f0) = true := by simpa using heq
            have HP := Aside0.mk (HId.out.put hgw k true (f' := sameF l i (k + 1)) (fun m hm => by rw [sameF_succ hki]; by_cases hmk : m = k <;> simp [hmk, heq, sameF]))
            go_wp2
            go_roundw
            case rel => exact ⟨k + 1, by omega, by go_num, HP⟩
            case measure => simp [intOf]; omega
          · have hq : ((ek l k).f0 == (ek l i).f0) = false := by simpa using heq
            have HP := Aside0.mk (HId.out.congr (f' := sameF l i (k + 1)) (fun m hm => by rw [sameF_succ hki]; simp [heq]))
            go_wp2
            go_roundw
            case rel => exact ⟨k + 1, by omega, by go_num, HP⟩
            case measure => simp [intOf]; omega
        · obtain rfl : k = i := by omega
          obtain ⟨w3, rfl⟩ : ∃ w3 : World, w3 = wr := ⟨_, rfl⟩
          have HI3 := Aside0.mk (HI.out.congr (f' := afterF l k 0) (fun m hm => by simp [afterF]))
          clear HI
          go_wp2_with fail
          go_loopw [10] (fun v10 wr => ∃ j : Nat, j ≤ (ek l k).f1.length ∧ v10 = .int .i64 j ∧ Aside0 (Mid w w2 wr gl cl l.length (afterF l k j)) ∧ Aside0 (∀ x ∈ (ek l k).f1.take j, 0 ≤ x ∧ x < (k : Int))) (fun v10 _ => (ek l k).f1.length - (intOf v10).toNat)
          case atStart => exact ⟨0, by omega, rfl, HI3, ⟨by simp⟩⟩
          case round =>
            clear HI3
            obtain ⟨j, hj, rfl, HI, HT⟩ := hrel
            have i1 := pw_cell_below HI.out.bel HA1.out
            by_cases hjl : j < (ek l k).f1.length
            · obtain ⟨aa, had, hx⟩ := Kd.at_int (Kd.C_below HC1.out HI.out.bel) j (by omega) (by omega)
              subst had
              rw [Int.toNat_natCast] at hx
              have HAF := Aside0.mk (fun m : Nat => afterF_succ (l := l) (i := k) (m := m) hjl)
              have HTK : Aside0 ((ek l k).f1.take (j + 1) = (ek l k).f1.take j ++ [rd (ek l k).f1 j]) := ⟨by rw [rd_lt hjl]; exact List.take_succ_eq_append_getElem hjl⟩
              have HRD := Aside0.mk (rd_lt hjl)
              have HMEM : Aside0 (rd (ek l k).f1 j ∈ (ek l k).f1) := ⟨rd_mem (by omega) (by omega)⟩
              generalize hx2 : rd (ek l k).f1 (j : Int) = x at *
              clear hx2
              by_cases hx0 : x < 0
              · have HBD : Aside0 (badH n l) := ⟨bad_of hlt (by
                  unfold vldE
                  have : (ek l k).f1.all (fun a => decide (0 ≤ a) && decide (a < (k : Int))) = false := List.all_eq_false.2 ⟨x, HMEM.out, by simp; omega⟩
                  rw [this, Bool.and_false])⟩
                have e0 : decide (x < 0) = true := decide_eq_true hx0
                go_wp2
                go_ret2
                exact ⟨.inl ⟨HBD.out, rfl⟩, HI.out.bel⟩
              by_cases hx1 : (k : Int) ≤ x
              · have HBD : Aside0 (badH n l) := ⟨bad_of hlt (by
                  unfold vldE
                  have : (ek l k).f1.all (fun a => decide (0 ≤ a) && decide (a < (k : Int))) = false := List.all_eq_false.2 ⟨x, HMEM.out, by simp; omega⟩
                  rw [this, Bool.and_false])⟩
                have e0 : decide (x < 0) = false := decide_eq_false hx0
                have e1 : decide ((k : Int) ≤ x) = true := decide_eq_true hx1
                go_wp2
                go_ret2
                exact ⟨.inl ⟨HBD.out, rfl⟩, HI.out.bel⟩
              have e0 : decide (x < 0) = false := decide_eq_false hx0
              have e1 : decide ((k : Int) ≤ x) = false := decide_eq_false hx1
              have hx0' : 0 ≤ x := by omega
              have hxl : x < (l.length : Int) := by omega
              have hxn : x.toNat < l.length := by omega
              have HP := Aside0.mk (HI.out.put hgw x.toNat true (f' := afterF l k (j + 1)) (fun m hm => by
                rw [HAF.out m, ← HRD.out]
                by_cases hmk : m = x.toNat
                · rw [if_pos hmk, show (x == (m : Int)) = true by simp; omega, Bool.or_true]
                · rw [if_neg hmk, show (x == (m : Int)) = false by simp; omega, Bool.or_false]))
              have HT2 : Aside0 (∀ y ∈ (ek l k).f1.take (j + 1), 0 ≤ y ∧ y < (k : Int)) := ⟨fun y hy => by
                rw [HTK.out] at hy
                rcases List.mem_append.1 hy with hy | hy
                · exact HT.out y hy
                · rw [List.mem_singleton.1 hy]; omega⟩
              have hcf := (HI.out.cell hxn).2
              have hcc := (HI.out.cell hxn).1
              clear hx0 hx1
              go_wp2
              go_roundw
              case rel => exact ⟨j + 1, by omega, by go_num, HP, HT2⟩
              case measure => simp [intOf]; omega
            · obtain rfl : j = (ek l k).f1.length := by omega
              have HVK : Aside0 (vldE l n k = true) := ⟨by
                unfold vldE
                have := HT.out
                rw [List.take_length] at this
                rw [decide_eq_true hr0', decide_eq_true hr1', Bool.true_and, Bool.true_and]
                exact List.all_eq_true.2 (fun x hx => by have := this x hx; simp; omega)⟩
              clear HT
              obtain ⟨w4, rfl⟩ : ∃ w4 : World, w4 = wr := ⟨_, rfl⟩
              have hsub : IntKind.i64.wrap ((k : Int) - 1) = (k : Int) - 1 := i64w (by omega) (by omega)
              go_wp2_with fail
              clear hsub i1
              go_loopw [12] (fun v12 wr => ∃ (K : Nat) (z : Int) (f : Nat → Bool), K ≤ k ∧ v12 = .int .i64 z ∧ z = (K : Int) - 1 ∧ Aside0 (Mid w w2 wr gl cl l.length f) ∧ Aside0 (∀ m, m < l.length → dn (aH l k) K f m = dn (aH l k) k (afterF l k (ek l k).f1.length) m)) (fun v12 _ => (intOf v12 + 1).toNat)
              case atStart => exact ⟨k, _, _, by omega, rfl, rfl, HI, ⟨fun _ _ => rfl⟩⟩
              case round =>
                clear HI
                obtain ⟨K, z, f, hK, rfl, hz, HI, HF⟩ := hrel
                obtain ⟨w5, rfl⟩ : ∃ w5 : World, w5 = wr := ⟨_, rfl⟩
                by_cases hz0 : 0 ≤ z
                · obtain ⟨q, rfl⟩ : ∃ q : Nat, z = q := ⟨z.toNat, by omega⟩
                  obtain rfl : K = q + 1 := by omega
                  have hql : q < l.length := by omega
                  clear hz hz0
                  have HI0 := Aside0.mk (HI.out.congr (f' := fun m => f m || (decide (m < 0) && (f q && aH l k q m))) (fun m hm => by simp))
                  have hwq : IntKind.i64.wrap ((q : Int) - 1) = (q : Int) - 1 := i64w (by omega) (by omega)
                  go_wp2_with fail
                  go_loopw [13] (fun v13 wr => ∃ m0 : Nat, m0 ≤ q ∧ v13 = .int .i64 m0 ∧ Aside0 (Mid w w2 wr gl cl l.length (fun m => f m || (decide (m < m0) && (f q && aH l k q m))))) (fun v13 _ => q - (intOf v13).toNat)
                  case atStart => exact ⟨0, by omega, rfl, HI0⟩
                  case round =>
                    clear HI0
                    obtain ⟨m0, hm0, rfl, HJ⟩ := hrel
                    have hcq := (HJ.out.cell hql).1
                    have hcq' : (f q || (decide (q < m0) && (f q && aH l k q q))) = f q := by simp [show ¬ q < m0 by omega]
                    rw [hcq'] at hcq
                    clear hcq'
                    have hOUT : ∀ {b : Bool} {W : World}, (m0 = q ∨ f q = false) → Mid w w2 W gl cl l.length (fun m => f m || (decide (m < m0) && (f q && aH l k q m))) → Mid w w2 W gl cl l.length (fun m => f m || (decide (m < q) && (f q && aH l k q m))) := fun h hM => hM.congr (fun m hm => by
                      rcases h with h | h
                      · rw [h]
                      · simp [h])
                    have HOUT := Aside0.mk (@hOUT true)
                    clear hOUT
                    by_cases hmq : m0 < q
                    · have dm : decide ((m0 : Int) < (q : Int)) = true := decide_eq_true (by omega)
                      by_cases hfq : f q = true
                      · rw [hfq] at hcq
                        have hml : m0 < l.length := by omega
                        have hcm := (HJ.out.cell hml).1
                        have hcf := (HJ.out.cell hml).2
                        have hcm' : (f m0 || (decide (m0 < m0) && (f q && aH l k q m0))) = f m0 := by simp
                        rw [hcm'] at hcm
                        have HMk := Aside0.mk (HM.out.kept HBM.out HJ.out.kpt hgl)
                        obtain ⟨Aa, ca, hva, hca, hCa⟩ := Kd.R_reads HMk.out.row
                        have hrl : ((rowsF l k).map (tab l.length)).length = k := by rw [List.length_map, rowsF_len]
                        obtain ⟨adr, c0r, ad0r, e0r, r1, r2⟩ := rows_at (xs := (rowsF l k).map (tab l.length)) rfl hCa q m0 (by rw [rowsF_len]; omega) hml
                        subst hva e0r
                        rw [hrl] at HMk
                        have g2 := (blk_cell HMk.out.blk 2).trans rfl
                        have HP : ∀ b : Bool, b = (f m0 || aH l k q m0) → Mid w w2 (wr.setCell ⟨gl, m0, none⟩ (.bool b)) gl cl l.length (fun m => f m || (decide (m < m0 + 1) && (f q && aH l k q m))) := fun b hb => HJ.out.put hgw m0 b (fun m hm => by
                          by_cases hmm : m = m0
                          · subst hmm
                            simp [hb, hfq]
                          · rw [if_neg hmm]
                            by_cases hlt2 : m < m0
                            · simp [hlt2, show m < m0 + 1 by omega]
                            · simp [hlt2, show ¬ m < m0 + 1 by omega])
                        have HPA := Aside0.mk HP
                        have hqk : (q : Int) < (k : Int) := by omega
                        have hi64 : IntKind.i64.wrap ((m0 : Int) + 1) = (m0 : Int) + 1 := i64w (by omega) (by omega)
                        clear HP hcm' hrl hCa HOUT
                        obtain ⟨bq, hbq⟩ : ∃ b : Bool, b = aH l k q m0 := ⟨_, rfl⟩
                        replace r2 : wr.cell? (ad0r.add m0) = some (.bool bq) := by rw [hbq]; exact r2
                        by_cases hfm : f m0 = true
                        · rw [hfm] at hcm
                          have HPT := Aside0.mk (HPA.out true (by rw [hfm]; rfl))
                          clear hfm hfq HPA r1 r2 g2 hbq
                          go_wp2
                          go_roundw
                          case rel => exact ⟨m0 + 1, by omega, by go_num, HPT⟩
                          case measure => simp [intOf]; omega
                        · have hfm : f m0 = false := by simpa using hfm
                          rw [hfm] at hcm
                          have HPT := Aside0.mk (HPA.out bq (by rw [hfm, Bool.false_or]; exact hbq))
                          clear hfm hfq HPA hbq
                          go_wp2
                          go_roundw
                          case rel => exact ⟨m0 + 1, by omega, by go_num, HPT⟩
                          case measure => simp [intOf]; omega
                      · have hfq : f q = false := by simpa using hfq
                        rw [hfq] at hcq
                        have HJQ := Aside0.mk (HOUT.out (.inr hfq) HJ.out)
                        have HFN := Aside0.mk (dn_step HF.out)
                        clear hfq HOUT
                        go_wp2
                        go_roundw
                        case rel => exact ⟨q, _, _, by omega, rfl, by omega, HJQ, HFN⟩
                        case measure => simp [intOf]
                    · obtain rfl : m0 = q := by omega
                      have dm : decide ((m0 : Int) < (m0 : Int)) = false := decide_eq_false (by omega)
                      have HJQ := Aside0.mk (HOUT.out (.inl rfl) HJ.out)
                      have HFN := Aside0.mk (dn_step HF.out)
                      clear HOUT
                      go_wp2
                      go_roundw
                      case rel => exact ⟨m0, _, _, by omega, rfl, by omega, HJQ, HFN⟩
                      case measure => simp [intOf]
                · obtain rfl : K = 0 := by omega
                  have HROW := Aside0.mk (HI.out.congr (f' := dn (aH l k) k (afterF l k (ek l k).f1.length)) (fun m hm => HF.out m hm))
                  have HMk := HM.out.kept HBM.out HI.out.kpt hgl
                  have hvl := Kd.Q_lt (Kd.Q_of_R HM.out.row)
                  clear HI HF
                  obtain ⟨Ar, cr, hvr, hcr, _⟩ := Kd.R_reads HMk.rks
                  obtain ⟨Aa, ca, hva, hca, _⟩ := Kd.R_reads HMk.row
                  have hrl : ((rowsF l k).map (tab l.length)).length = k := by rw [List.length_map, rowsF_len]
                  have htl : ((l.take k).map (·.f0)).length = k := by rw [List.length_map, List.length_take]; omega
                  rw [hrl] at hva hca
                  rw [htl] at hvr hcr
                  subst hva hvr
                  have HMk := Aside0.mk HMk
                  have g2 := (blk_cell HMk.out.blk 2).trans rfl
                  have HP : Aside0 (Kd.M (Kd.slice 4 Kd.bool) w5 w.heap.size (fun j => j = gl) (tab l.length (dn (aH l k) k (afterF l k (ek l k).f1.length))) [.slice (some ⟨gl, 0, none⟩) l.length cl]) :=
                    ⟨⟨_, rfl, Kd.R_mono (Kd.R_tight rfl HROW.out.row) (fun j hj => (ownB hj.symm).symm)⟩⟩
                  have HOK : Aside0 (∀ j, j = gl → True ∧ some j ≠ (Value.slice Aa k ca).ownBlock) := ⟨fun j hj => ⟨trivial, fun he => by have := hvl j he.symm; omega⟩⟩
                  have hkl : (((rowsF l k).map (tab l.length)).length + 1) * 24 ≤ 140737488355328 := by rw [hrl]; omega
                  have hbs := HROW.out.bel.size
                  clear hvl hrl htl
                  go_wp2_with (at_builtin; refine Kd.R_append (Kd.slice 4 Kd.bool) (w0 := w) w.heap.size rfl (.tmp 139) (.tmp 141) 42 41 (.slice none 0 0) 24 rfl Try.underlying42 infoBs rfl (by decide) (by decide) (.slice Aa k ca) ((rowsF l k).map (tab l.length)) (tab l.length (dn (aH l k) k (afterF l k (ek l k).f1.length))) [.slice (some ⟨gl, 0, none⟩) l.length cl] (fun _ => True) (fun j => j = gl) rfl rfl HP.out HOK.out (fun _ _ => trivial) HMk.out.row HROW.out.bel hbs hkl ?_; intro v1 w6 ho hbl hgr hat; obtain ⟨A1', c1', hv1, hc1, _⟩ := Kd.R_reads ho; rw [List.length_append, List.length_map, rowsF_len, List.length_singleton] at hv1 hc1; subst hv1; have HRM := Aside0.mk (ref_mid HMk.out ho hbl hgr); have z2 := (blk_cell (blk_grown HMk.out.blk hgr (Kd.R_ne HMk.out.row HMk.out.blk (by decide))) 2).trans rfl; have zf := blk_frozen (blk_grown HMk.out.blk hgr (Kd.R_ne HMk.out.row HMk.out.blk (by decide))) 2; clear ho hbl hgr hat)
                  clear z2 zf g2
                  have HRM := HRM.out
                  generalize w6.setCell ⟨w.heap.size, 2, none⟩ (.slice A1' (k + 1) c1') = W7 at HRM ⊢
                  have HRM := Aside0.mk HRM
                  have g1 := (blk_cell HRM.out.1.blk 1).trans rfl
                  have a0 := pw_cell_below HRM.out.2 HA0.out
                  have g1a := fun o => pw_cell_below (below_alloc (Below.refl W7.heap.size W7) o) g1
                  have a0a := fun o => pw_cell_below (below_alloc (Below.refl W7.heap.size W7) o) a0
                  have hkl2 : (((l.take k).map (·.f0)).length + 1) * 8 ≤ 140737488355328 := by rw [List.length_map, List.length_take]; omega
                  have HNG : Aside0 (some w.heap.size ≠ (Value.slice Ar k cr).ownBlock) := ⟨Kd.R_ne HRM.out.1.rks HRM.out.1.blk (by decide)⟩
                  have htl : ((l.take k).map (·.f0) ++ [(ek l k).f0]).length = k + 1 := by rw [List.length_append, List.length_map, List.length_take, List.length_singleton]; omega
                  have HTL := Aside0.mk htl
                  clear htl
                  go_region_law ((refine Kd.R_append_step (Kd.int .i64) (w0 := w) (W := W7.drew) w.heap.size (by rfl) (.tmp 149) (.tmp 155) 28 3 (.int .i64 0) 8 (by rfl) Try.underlying28 infoI (by rfl) (by decide) (by decide) (.slice Ar k cr) ((l.take k).map (·.f0)) (ek l k).f0 [.int .i64 (ek l k).f0] (fun _ => True) (fun _ => False) (by rfl) (by rfl) (by rfl) (fun _ h => h.elim) (fun _ _ => trivial) (Kd.R_drew HRM.out.1.rks) HRM.out.2.drew HRM.out.2.size hkl2 ?_; intro v2 w8 ho hbl hgr hat; obtain ⟨A2', c2', hv2, hc2, _⟩ := Kd.R_reads ho; rw [HTL.out] at hv2; subst hv2; have BG4 := blk_grown (w := W7.drew) HRM.out.1.blk hgr HNG.out; have cz := (blk_cell BG4 1).trans rfl; have fz := blk_frozen BG4 1; have HEND := Aside0.mk (ref_rank (W := W7.drew) (HRM.out.1.below (below_drew (Below.refl _ _))) ho hbl hgr); clear ho hbl hgr hat BG4))
                  all_goals (
                    clear cz fz g1 g1a a0 a0a
                    have hEND := HEND.out
                    rw [← take_map (l := l) hlt, ← rows_succ (l := l)] at hEND
                    have HEND2 := Aside0.mk hEND
                    have HVN : Aside0 (∀ q, q < k + 1 → vldE l n q = true) := ⟨fun q hq => by
                      rcases Nat.lt_succ_iff_lt_or_eq.1 hq with h | h
                      · exact HV.out q h
                      · rw [h]; exact HVK.out⟩
                    clear hEND
                    go_wp2
                    go_roundw
                    case rel => first | exact ⟨k + 1, _, _, by omega, by go_num, ⟨HEND2.out.1⟩, HVN, ⟨HEND2.out.2⟩⟩ | exact ⟨k + 1, _, _, by omega, by go_num, ⟨HEND2.out.1.below (below_drew (Below.refl _ _))⟩, HVN, ⟨HEND2.out.2.drew⟩⟩
                    case measure => simp [intOf]; omega)
    · obtain rfl : i = l.length := by omega
      have HNB : Aside0 (¬ badH n l) := ⟨by
        rintro (h | h | h | ⟨q, hq, h⟩)
        · omega
        · omega
        · omega
        · rw [HV.out q hq] at h; cases h⟩
      obtain ⟨Ar, cr, rfl, hcr, hCr⟩ := Kd.R_reads HM.out.rks
      obtain ⟨Aa, ca, rfl, hca, hCa⟩ := Kd.R_reads HM.out.row
      have HE : Aside0 (Rr wo w.heap.size n (l.map (·.f0)) ((rowsF l l.length).map (tab l.length))) := ⟨by
        have h1 := HM.out.blk
        rw [List.take_length] at h1 hCr
        exact ⟨Ar, cr, Aa, ca, h1, Nat.le_refl _, hCr, hCa⟩⟩
      clear hCr hCa
      go_wp2
      go_ret2
      exact ⟨.inr ⟨HNB.out, _, rfl, Nat.le_refl _, HE.out⟩, HB.out⟩
end Go.Proofs.Ytnblmjkaieibhaa.HO
