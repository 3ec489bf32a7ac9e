/-
  CONTRACTS BY HAND (paths, 14): the document's stack: Steps: what is answered; what was there stays.
-/
import Derived.Test.YtfmlpcdbllpcaaaRfB
import Derived.Test.YtfmlpcdbllpcaaaPuE
namespace Go.Proofs.Ytfmlpcdbllpcaaa.HQ
open Go.Proofs.Ytfmlpcdbllpcaaa.HD Go.Proofs.Ytfmlpcdbllpcaaa.HU Go.RowKit Go.Proofs.Ytfmlpcdbllpcaaa.HK Go.Proofs.Ytfmlpcdbllpcaaa.HP Go.Proofs.YtfmlpcdbllpcaaaW.PrintWords Go.Proofs.YtfmlpcdbllpcaaaW.PrintLast Go.Proofs.YtfmlpcdbllpcaaaW.PrintMore
set_option linter.unusedVariables false
set_option linter.unusedSimpArgs false
set_option maxHeartbeats 4000000 in
theorem rsteps_ok (base : Nat) (ok : Nat → Prop) (g : Nat) (vp vo va : Value) (ls : List Lv) (w : World) (h : Rf w base ok g vp vo va ls) (hf : ∀ x ∈ ls, Fit x) (hn : ls.length ≤ 2000) :
    Calls Try.prog 18 #[.pointer (some ⟨g, 0, none⟩)] w fun e w' => ∃ v0_, e = .returned v0_ ∧ Kd.R k49 49 w' w.heap.size (fun _ => True) v0_ (ls.map stepOf) ∧ Below w.heap.size w w' := by
  have HS := Aside0.mk h
  have HF := Aside0.mk hf
  obtain ⟨A0, c0, A1, c1, A2, c2, rfl, rfl, rfl, hl0, hl1, hl2⟩ := h.forms
  clear h hf
  go_enter Try.func18, Try.ntmps18
  go_wp2
  go_loopw [3, 4] (fun v3 v4 wr => ∃ i : Nat, i ≤ ls.length ∧ Aside0 (Kd.R k49 49 wr w.heap.size (fun _ => True) v3 ((ls.take i).map stepOf)) ∧ v4 = .int .i64 i ∧ Aside0 (Below w.heap.size w wr)) (fun _ v4 _ => ls.length - (intOf v4).toNat)
  case atStart => exact ⟨0, by omega, ⟨Kd.R_nil _ _ _ _ _⟩, rfl, ⟨Below.refl _ _⟩⟩
  case round =>
    obtain ⟨i, hi, HR, rfl, HB⟩ := hrel
    have HS1 := Aside0.mk (HS.out.below HB.out)
    have hg0 : wr.cell? ⟨g, 0, none⟩ = some (.slice A0 ls.length c0) := (blk_cell HS1.out.blk 0).trans rfl
    by_cases hlt : i < ls.length
    · obtain ⟨x, hx⟩ : ∃ x, ls[i]? = some x := ⟨ls[i], by simp [hlt]⟩
      have HX := Aside0.mk hx
      have HFx := Aside0.mk (HF.out x (List.mem_of_getElem? hx))
      have HT := Aside0.mk (take_snoc hx)
      obtain ⟨bp, op, cp, bo, oo, co, ba, oa, ca, A, c, e0, e1, e2, p0, p1, p2, b0, a0, f0, hlc, hC, _⟩ := HS1.out.lev i x hx
      injection e0 with e0 _ e3
      injection e1 with e1 _ e4
      injection e2 with e2 _ e5
      subst e0 e3 e1 e4 e2 e5
      have hg2 : wr.cell? ⟨g, 2, none⟩ = some (.slice (some ⟨ba, oa, none⟩) ls.length c2) := (blk_cell HS1.out.blk 2).trans rfl
      have HC := Aside0.mk hC
      clear hC f0 hx b0
      have hl8 := Int.toNat_natCast i
      go_wp2_with fail
      go_region_held3 (fun W => W.cell? ⟨g, 0, none⟩ = some (.slice (some ⟨bp, op, none⟩) ls.length c0) ∧ W.cell? ⟨bp, op + i * 3, none⟩ = some (.int .i64 x.f0.f0) ∧ W.cell? ⟨bp, op + i * 3 + 1, none⟩ = some (.int .i64 x.f0.f1)) (go_keep) (fail)
      go_wp2_with fail
      have hb5 : Below wr.heap.size wr (wr.alloc (.cells #[.bool false, .int .i64 x.f0.f0, .int .i64 x.f0.f1, .int .i64 0, .int .i64 0, .int .i64 0, .int .i64 0, .int .i64 0] 49)).drew := below_drew (below_alloc (Below.refl _ _) _)
      have BX := Aside0.mk (show (wr.alloc (.cells #[.bool false, .int .i64 x.f0.f0, .int .i64 x.f0.f1, .int .i64 0, .int .i64 0, .int .i64 0, .int .i64 0, .int .i64 0] 49)).drew.heap[wr.heap.size]? = _ from blk_new wr (.cells #[.bool false, .int .i64 x.f0.f0, .int .i64 x.f0.f1, .int .i64 0, .int .i64 0, .int .i64 0, .int .i64 0, .int .i64 0] 49))
      generalize (wr.alloc (.cells #[.bool false, .int .i64 x.f0.f0, .int .i64 x.f0.f1, .int .i64 0, .int .i64 0, .int .i64 0, .int .i64 0, .int .i64 0] 49)).drew = w5 at hb5 BX ⊢
      have HB5 := Aside0.mk (below_then HB.out HB.out.size hb5)
      have HR5 := Aside0.mk (Kd.R_below (Kd.R_mono (ok' := fun k => k ≠ wr.heap.size) (Kd.R_bound HR.out) (fun k hk => Nat.ne_of_lt hk.2.2.1)) hb5)
      have HC5 := Aside0.mk (Kd.C_below HC.out hb5)
      have hg0 := pw_cell_below hb5 hg0
      have hg2 := pw_cell_below hb5 hg2
      have p2 := pw_cell_below hb5 p2
      have a0 := pw_cell_below hb5 a0
      have HZ5 := Aside0.mk (Nat.le_trans HB.out.size (Nat.le_refl wr.heap.size))
      clear hb5 p0 p1 HR HC HB HS1
      generalize wr.heap.size = n5 at BX HZ5 HR5 ⊢
      have hn5 := blk_lt BX.out
      have hml : ((ls.take i).map stepOf).length ≤ 2000 := by simp; omega
      have hle := HFx.out.le
      by_cases he : x.f2 < (x.f0.f2.length : Int)
      · have hd : decide (x.f2 < (x.f0.f2.length : Int)) = true := by simpa using he
        have HST : Aside0 (stepOf x = ⟨false, x.f0.f0, x.f0.f1, rd_T43 x.f0.f2 x.f2⟩) := ⟨by unfold stepOf; rw [if_neg (by omega)]⟩
        obtain ⟨ad, rfl, d0, d1, d2, d3, d4⟩ := at_T43 HC5.out x.f2 HFx.out.1 (by omega)
        have h0 := HFx.out.1
        generalize rd_T43 x.f0.f2 x.f2 = y at HST d0 d1 d2 d3 d4
        clear hle
        go_quiet (fail)
        go_wp2_with fail
        have b0 := (blk_cell BX.out 0).trans rfl
        have z0 := blk_frozen BX.out 0
        have b1 := (blk_cell BX.out 1).trans rfl
        have z1 := blk_frozen BX.out 1
        have b2 := (blk_cell BX.out 2).trans rfl
        have z2 := blk_frozen BX.out 2
        have b3 := (blk_cell BX.out 3).trans rfl
        have z3 := blk_frozen BX.out 3
        have b4 := (blk_cell BX.out 4).trans rfl
        have z4 := blk_frozen BX.out 4
        have b5 := (blk_cell BX.out 5).trans rfl
        have z5 := blk_frozen BX.out 5
        have b6 := (blk_cell BX.out 6).trans rfl
        have z6 := blk_frozen BX.out 6
        have b7 := (blk_cell BX.out 7).trans rfl
        have z7 := blk_frozen BX.out 7
        go_region
        have HB7 : Aside0 (Below w.heap.size w ((((((w5.drewN (nq + 1)).setCell ⟨n5, 3, none⟩ (.int .i64 y.f0)).setCell ⟨n5, 4, none⟩ (.int .i64 y.f1)).setCell ⟨n5, 5, none⟩ (.int .i64 y.f2)).setCell ⟨n5, 6, none⟩ (.int .i64 y.f3)).setCell ⟨n5, 7, none⟩ (.int .i64 y.f4))) := ⟨((((((pw_below_drewN HB5.out (nq + 1)).setCell (p := ⟨n5, 3, none⟩) HZ5.out _).setCell (p := ⟨n5, 4, none⟩) HZ5.out _).setCell (p := ⟨n5, 5, none⟩) HZ5.out _).setCell (p := ⟨n5, 6, none⟩) HZ5.out _).setCell (p := ⟨n5, 7, none⟩) HZ5.out _)⟩
        have HR7 : Aside0 (Kd.R k49 49 ((((((w5.drewN (nq + 1)).setCell ⟨n5, 3, none⟩ (.int .i64 y.f0)).setCell ⟨n5, 4, none⟩ (.int .i64 y.f1)).setCell ⟨n5, 5, none⟩ (.int .i64 y.f2)).setCell ⟨n5, 6, none⟩ (.int .i64 y.f3)).setCell ⟨n5, 7, none⟩ (.int .i64 y.f4)) w.heap.size (fun k => k ≠ n5) u3 ((ls.take i).map stepOf)) := ⟨Kd.R_far (p := ⟨n5, 7, none⟩) (Kd.R_far (p := ⟨n5, 6, none⟩) (Kd.R_far (p := ⟨n5, 5, none⟩) (Kd.R_far (p := ⟨n5, 4, none⟩) (Kd.R_far (p := ⟨n5, 3, none⟩) (Kd.R_drewN HR5.out (nq + 1)) (fun _ hk => hk) _) (fun _ hk => hk) _) (fun _ hk => hk) _) (fun _ hk => hk) _) (fun _ hk => hk) _⟩
        have BX7 : Aside0 (((((((w5.drewN (nq + 1)).setCell ⟨n5, 3, none⟩ (.int .i64 y.f0)).setCell ⟨n5, 4, none⟩ (.int .i64 y.f1)).setCell ⟨n5, 5, none⟩ (.int .i64 y.f2)).setCell ⟨n5, 6, none⟩ (.int .i64 y.f3)).setCell ⟨n5, 7, none⟩ (.int .i64 y.f4)).heap[n5]? = some (.cells #[.bool false, .int .i64 x.f0.f0, .int .i64 x.f0.f1, .int .i64 y.f0, .int .i64 y.f1, .int .i64 y.f2, .int .i64 y.f3, .int .i64 y.f4] 49 (0, 0))) := ⟨blk_put (cs := #[.bool false, .int .i64 x.f0.f0, .int .i64 x.f0.f1, .int .i64 y.f0, .int .i64 y.f1, .int .i64 y.f2, .int .i64 y.f3, .int .i64 0]) (cs' := #[.bool false, .int .i64 x.f0.f0, .int .i64 x.f0.f1, .int .i64 y.f0, .int .i64 y.f1, .int .i64 y.f2, .int .i64 y.f3, .int .i64 y.f4]) (blk_put (cs := #[.bool false, .int .i64 x.f0.f0, .int .i64 x.f0.f1, .int .i64 y.f0, .int .i64 y.f1, .int .i64 y.f2, .int .i64 0, .int .i64 0]) (cs' := #[.bool false, .int .i64 x.f0.f0, .int .i64 x.f0.f1, .int .i64 y.f0, .int .i64 y.f1, .int .i64 y.f2, .int .i64 y.f3, .int .i64 0]) (blk_put (cs := #[.bool false, .int .i64 x.f0.f0, .int .i64 x.f0.f1, .int .i64 y.f0, .int .i64 y.f1, .int .i64 0, .int .i64 0, .int .i64 0]) (cs' := #[.bool false, .int .i64 x.f0.f0, .int .i64 x.f0.f1, .int .i64 y.f0, .int .i64 y.f1, .int .i64 y.f2, .int .i64 0, .int .i64 0]) (blk_put (cs := #[.bool false, .int .i64 x.f0.f0, .int .i64 x.f0.f1, .int .i64 y.f0, .int .i64 0, .int .i64 0, .int .i64 0, .int .i64 0]) (cs' := #[.bool false, .int .i64 x.f0.f0, .int .i64 x.f0.f1, .int .i64 y.f0, .int .i64 y.f1, .int .i64 0, .int .i64 0, .int .i64 0]) (blk_put (cs := #[.bool false, .int .i64 x.f0.f0, .int .i64 x.f0.f1, .int .i64 0, .int .i64 0, .int .i64 0, .int .i64 0, .int .i64 0]) (cs' := #[.bool false, .int .i64 x.f0.f0, .int .i64 x.f0.f1, .int .i64 y.f0, .int .i64 0, .int .i64 0, .int .i64 0, .int .i64 0]) (BX.out) 3 _ rfl) 4 _ rfl) 5 _ rfl) 6 _ rfl) 7 _ rfl⟩
        clear b0 b1 b2 b3 b4 b5 b6 b7 z0 z1 z2 z3 z4 z5 z6 z7 hg0 hg2 p2 a0
        generalize (((((w5.drewN (nq + 1)).setCell ⟨n5, 3, none⟩ (.int .i64 y.f0)).setCell ⟨n5, 4, none⟩ (.int .i64 y.f1)).setCell ⟨n5, 5, none⟩ (.int .i64 y.f2)).setCell ⟨n5, 6, none⟩ (.int .i64 y.f3)).setCell ⟨n5, 7, none⟩ (.int .i64 y.f4) = w7 at HB7 HR7 BX7 ⊢
        have hn7 := blk_lt BX7.out
        have HFR : Aside0 (∀ k, w7.heap.size ≤ k → k ≠ n5) := ⟨fun k hk => by omega⟩
        have HBS : Aside0 (w.heap.size ≤ w7.heap.size) := ⟨HB7.out.size⟩
        have b0 := (blk_cell BX7.out 0).trans rfl
        have b1 := (blk_cell BX7.out 1).trans rfl
        have b2 := (blk_cell BX7.out 2).trans rfl
        have b3 := (blk_cell BX7.out 3).trans rfl
        have b4 := (blk_cell BX7.out 4).trans rfl
        have b5 := (blk_cell BX7.out 5).trans rfl
        have b6 := (blk_cell BX7.out 6).trans rfl
        have b7 := (blk_cell BX7.out 7).trans rfl
        go_wp2_with (at_builtin; refine Kd.R_append k49 (w0 := w) w.heap.size rfl (.tmp 68) (.tmp 70) 45 49 (.agg #[.bool false, .int .i64 0, .int .i64 0, .int .i64 0, .int .i64 0, .int .i64 0, .int .i64 0, .int .i64 0]) 64 rfl Try.underlying45 infoS rfl (by decide) (by omega) _ ((ls.take i).map stepOf) ((⟨false, x.f0.f0, x.f0.f1, y⟩ : Sp)) [.bool false, .int .i64 x.f0.f0, .int .i64 x.f0.f1, .int .i64 y.f0, .int .i64 y.f1, .int .i64 y.f2, .int .i64 y.f3, .int .i64 y.f4] (fun k => k ≠ n5) (fun _ => False) rfl rfl (k49_mkM _ _ _ ((⟨false, x.f0.f0, x.f0.f1, y⟩ : Sp))) (fun _ h => h.elim) HFR.out HR7.out HB7.out HBS.out (by omega) ?_; intro v1 w1 ho hbl hgr hat)
        go_roundw
        case rel => exact ⟨i + 1, by omega, ⟨by rw [HT.out, List.map_append, List.map_singleton, HST.out]; exact Kd.R_mono ho (fun _ _ => trivial)⟩, by go_num, ⟨hbl⟩⟩
        case measure => simp [intOf]; omega
      · have hd : decide (x.f2 < (x.f0.f2.length : Int)) = false := by simpa using he
        have HST : Aside0 (stepOf x = ⟨true, x.f0.f0, x.f0.f1, z43⟩) := ⟨by unfold stepOf; rw [if_pos (by omega)]⟩
        clear hle
        have b0 := (blk_cell BX.out 0).trans rfl
        have z0 := blk_frozen BX.out 0
        have b1 := (blk_cell BX.out 1).trans rfl
        have z1 := blk_frozen BX.out 1
        have b2 := (blk_cell BX.out 2).trans rfl
        have z2 := blk_frozen BX.out 2
        have b3 := (blk_cell BX.out 3).trans rfl
        have z3 := blk_frozen BX.out 3
        have b4 := (blk_cell BX.out 4).trans rfl
        have z4 := blk_frozen BX.out 4
        have b5 := (blk_cell BX.out 5).trans rfl
        have z5 := blk_frozen BX.out 5
        have b6 := (blk_cell BX.out 6).trans rfl
        have z6 := blk_frozen BX.out 6
        have b7 := (blk_cell BX.out 7).trans rfl
        have z7 := blk_frozen BX.out 7
        go_quiet (fail)
        go_upto_region 9 with (fail)
        have HB7 : Aside0 (Below w.heap.size w ((w5.drewN nq).setCell ⟨n5, 0, none⟩ (.bool true))) := ⟨(pw_below_drewN HB5.out nq).setCell (p := ⟨n5, 0, none⟩) HZ5.out _⟩
        have HR7 : Aside0 (Kd.R k49 49 ((w5.drewN nq).setCell ⟨n5, 0, none⟩ (.bool true)) w.heap.size (fun k => k ≠ n5) u3 ((ls.take i).map stepOf)) := ⟨Kd.R_far (p := ⟨n5, 0, none⟩) (Kd.R_drewN HR5.out nq) (fun _ hk => hk) _⟩
        have BX7 : Aside0 (((w5.drewN nq).setCell ⟨n5, 0, none⟩ (.bool true)).heap[n5]? = some (.cells #[.bool true, .int .i64 x.f0.f0, .int .i64 x.f0.f1, .int .i64 0, .int .i64 0, .int .i64 0, .int .i64 0, .int .i64 0] 49 (0, 0))) := ⟨blk_put (cs := #[.bool false, .int .i64 x.f0.f0, .int .i64 x.f0.f1, .int .i64 0, .int .i64 0, .int .i64 0, .int .i64 0, .int .i64 0]) (cs' := #[.bool true, .int .i64 x.f0.f0, .int .i64 x.f0.f1, .int .i64 0, .int .i64 0, .int .i64 0, .int .i64 0, .int .i64 0]) BX.out 0 _ rfl⟩
        clear b0 b1 b2 b3 b4 b5 b6 b7 z0 z1 z2 z3 z4 z5 z6 z7 hg0 hg2 p2 a0
        generalize (w5.drewN nq).setCell ⟨n5, 0, none⟩ (.bool true) = w7 at HB7 HR7 BX7 ⊢
        have hn7 := blk_lt BX7.out
        have HFR : Aside0 (∀ k, w7.heap.size ≤ k → k ≠ n5) := ⟨fun k hk => by omega⟩
        have HBS : Aside0 (w.heap.size ≤ w7.heap.size) := ⟨HB7.out.size⟩
        have b0 := (blk_cell BX7.out 0).trans rfl
        have b1 := (blk_cell BX7.out 1).trans rfl
        have b2 := (blk_cell BX7.out 2).trans rfl
        have b3 := (blk_cell BX7.out 3).trans rfl
        have b4 := (blk_cell BX7.out 4).trans rfl
        have b5 := (blk_cell BX7.out 5).trans rfl
        have b6 := (blk_cell BX7.out 6).trans rfl
        have b7 := (blk_cell BX7.out 7).trans rfl
        go_wp2_with (at_builtin; refine Kd.R_append k49 (w0 := w) w.heap.size rfl (.tmp 68) (.tmp 70) 45 49 (.agg #[.bool false, .int .i64 0, .int .i64 0, .int .i64 0, .int .i64 0, .int .i64 0, .int .i64 0, .int .i64 0]) 64 rfl Try.underlying45 infoS rfl (by decide) (by omega) _ ((ls.take i).map stepOf) ((⟨true, x.f0.f0, x.f0.f1, z43⟩ : Sp)) [.bool true, .int .i64 x.f0.f0, .int .i64 x.f0.f1, .int .i64 0, .int .i64 0, .int .i64 0, .int .i64 0, .int .i64 0] (fun k => k ≠ n5) (fun _ => False) rfl rfl (k49_mkM _ _ _ ((⟨true, x.f0.f0, x.f0.f1, z43⟩ : Sp))) (fun _ h => h.elim) HFR.out HR7.out HB7.out HBS.out (by omega) ?_; intro v1 w1 ho hbl hgr hat)
        go_roundw
        case rel => exact ⟨i + 1, by omega, ⟨by rw [HT.out, List.map_append, List.map_singleton, HST.out]; exact Kd.R_mono ho (fun _ _ => trivial)⟩, by go_num, ⟨hbl⟩⟩
        case measure => simp [intOf]; omega
    · obtain rfl : i = ls.length := by omega
      go_wp2
      go_ret
      have := HR.out
      rw [List.take_length] at this
      exact ⟨_, rfl, this, HB.out⟩
end Go.Proofs.Ytfmlpcdbllpcaaa.HQ
