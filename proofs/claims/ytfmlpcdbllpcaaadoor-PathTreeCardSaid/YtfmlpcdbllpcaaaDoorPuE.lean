/-
  CONTRACTS BY HAND (paths, 9): Steps, Copy: what is answered; what was there stays.
-/
import Derived.Test.YtfmlpcdbllpcaaaDoorPuD
namespace Go.Proofs.YtfmlpcdbllpcaaaDoor.HQ
open Go.Proofs.YtfmlpcdbllpcaaaDoor.HD Go.Proofs.YtfmlpcdbllpcaaaDoor.HU Go.RowKit Go.Proofs.YtfmlpcdbllpcaaaDoor.HK Go.Proofs.YtfmlpcdbllpcaaaDoor.HP Go.Proofs.YtfmlpcdbllpcaaaDoorW.PrintWords Go.Proofs.YtfmlpcdbllpcaaaDoorW.PrintLast Go.Proofs.YtfmlpcdbllpcaaaDoorW.PrintMore
set_option linter.unusedVariables false
set_option linter.unusedSimpArgs false
theorem infoS : (Tryd.prog.info? 51).map (fun i => (i.zero, i.size, i.bytes)) = some (some (.agg #[.bool false, .int .i64 0, .int .i64 0, .int .i64 0, .int .i64 0, .int .i64 0, .int .i64 0, .int .i64 0]), 8, 64) := by kernel_rfl
theorem step_v (x : Lv) (A : Option Addr) (c : Nat) (w : World) (hr : Kd.C k49 w A x.f0.f2.length x.f0.f2) (hc : x.f0.f2.length ≤ c) (hf : x.f0.f2.length ≤ 1000) (h0 : 0 ≤ x.f2) (h1 : x.f2 ≤ x.f0.f2.length) :
    Calls Tryd.prog 25 #[.agg #[.int .i64 x.f0.f0, .int .i64 x.f0.f1, .slice A x.f0.f2.length c, .bool x.f1, .int .i64 x.f2]] w fun e w' => e = .returned (.agg #[.bool (stepOf x).f0, .int .i64 (stepOf x).f1, .int .i64 (stepOf x).f2, .int .i64 (stepOf x).f3.f0, .int .i64 (stepOf x).f3.f1, .int .i64 (stepOf x).f3.f2, .int .i64 (stepOf x).f3.f3, .int .i64 (stepOf x).f3.f4]) ∧ Below w.heap.size w w' :=
  step_x x A c w hr hc hf h0 h1
theorem Fit.le {x : Lv} (h : Fit x) : x.f2 ≤ x.f0.f2.length := by
  obtain ⟨h0, h1, h2⟩ := h
  unfold manyI at h1
  split at h1 <;> omega
set_option maxHeartbeats 4000000 in
theorem steps_ok (base : Nat) (ok : Nat → Prop) (g : Nat) (v : Value) (ls : List Lv) (w : World) (h : Sq w base ok g v ls) (hf : ∀ x ∈ ls, Fit x) (hn : ls.length ≤ 2000) :
    Calls Tryd.prog 13 #[.pointer (some ⟨g, 0, none⟩)] w fun e w' => ∃ v0_, e = .returned v0_ ∧ Kd.R k51 51 w' w.heap.size (fun _ => True) v0_ (ls.map stepOf) ∧ Below w.heap.size w w' := by
  have HS := Aside0.mk h
  have HF := Aside0.mk hf
  clear h hf
  go_enter Tryd.func13, Tryd.ntmps13
  go_wp2_with fail
  refine (depth_calls base ok g v ls w HS.out).mono ?_
  rintro e w1 ⟨rfl, rfl⟩
  go_wp2
  go_loopw [3, 8] (fun v3 v8 wr => ∃ i : Nat, i ≤ ls.length ∧ Aside0 (Kd.R k51 51 wr w.heap.size (fun _ => True) v3 ((ls.take i).map stepOf)) ∧ v8 = .int .i64 i ∧ Aside0 (Below w.heap.size w wr)) (fun _ v8 _ => ls.length - (intOf v8).toNat)
  case atStart => exact ⟨0, by omega, ⟨Kd.R_nil _ _ _ _ _⟩, rfl, ⟨Below.refl _ _⟩⟩
  case round =>
    obtain ⟨i, hi, HR, rfl, HB⟩ := hrel
    by_cases hlt : i < ls.length
    · obtain ⟨x, hx⟩ : ∃ x, ls[i]? = some x := ⟨ls[i], by simp [hlt]⟩
      have HFx := Aside0.mk (HF.out x (List.mem_of_getElem? hx))
      have HT := Aside0.mk (take_snoc hx)
      obtain ⟨b, o, cap, hv'⟩ := HS.out.form (by omega)
      subst hv'
      have HS1 := Aside0.mk (HS.out.below HB.out)
      obtain ⟨A, c, hbb, hblt, hbg, hn1, hcap, c0, c1, c2, c3, c4, f4, hlc, hC, hset⟩ := Sq_lev HS1.out i x hx
      have hg1 : wr.cell? ⟨g, 1, none⟩ = some (.slice (some ⟨b, o, none⟩) ls.length cap) := (blk_cell HS1.out.blk 1).trans rfl
      have HC := Aside0.mk hC
      clear hset hC f4 hn1 hx hbg
      have hl8 := Int.toNat_natCast i
      go_wp2_with fail
      refine (step_v x A c wr HC.out hlc HFx.out.2.2 HFx.out.1 HFx.out.le).mono ?_
      rintro e w' ⟨rfl, hb⟩
      have HRb := Aside0.mk (Kd.R_below HR.out hb)
      have HB3 := Aside0.mk (below_then HB.out HB.out.size hb)
      have hz := HB3.out.size
      have hml : ((ls.take i).map stepOf).length ≤ 2000 := by simp; omega
      clear c0 c1 c2 c3 c4 hlc hg1 HB hb hblt hbb
      go_wp2_with (at_builtin; refine Kd.R_append k51 (w0 := w) w.heap.size rfl (.tmp 19) (.tmp 22) 22 51 (.agg #[.bool false, .int .i64 0, .int .i64 0, .int .i64 0, .int .i64 0, .int .i64 0, .int .i64 0, .int .i64 0]) 64 rfl Tryd.underlying22 infoS rfl (by decide) (by omega) _ ((ls.take i).map stepOf) (stepOf x) [.bool (stepOf x).f0, .int .i64 (stepOf x).f1, .int .i64 (stepOf x).f2, .int .i64 (stepOf x).f3.f0, .int .i64 (stepOf x).f3.f1, .int .i64 (stepOf x).f3.f2, .int .i64 (stepOf x).f3.f3, .int .i64 (stepOf x).f3.f4] (fun _ => True) (fun _ => False) rfl rfl (k51_mkM _ _ _ (stepOf x)) (fun _ h => h.elim) (fun _ _ => trivial) HRb.out HB3.out hz (by omega) ?_; intro v1 w1 ho hbl hgr hat)
      go_roundw
      case rel => exact ⟨i + 1, by omega, ⟨by rw [HT.out, List.map_append]; exact ho⟩, by go_num, ⟨hbl⟩⟩
      case measure => simp [intOf]; omega
    · obtain rfl : i = ls.length := by omega
      go_wp2
      go_ret
      have := HR.out
      rw [List.take_length] at this
      exact ⟨_, rfl, this, HB.out⟩
end Go.Proofs.YtfmlpcdbllpcaaaDoor.HQ
