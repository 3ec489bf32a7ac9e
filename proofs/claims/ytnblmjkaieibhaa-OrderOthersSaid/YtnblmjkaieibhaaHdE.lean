/-
  CONTRACTS BY HAND (4): clock.Merge: of each rank the greater number, in new memory.
-/
import Derived.Test.YtnblmjkaieibhaaHdC
import Derived.Maps.AppendAt
namespace Go.Proofs.Ytnblmjkaieibhaa.HD
open Go.RowKit Go.Shelf Go.Proofs.YtnblmjkaieibhaaW.PrintWords Go.Proofs.YtnblmjkaieibhaaW.PrintLast Go.Proofs.YtnblmjkaieibhaaW.PrintMore
set_option linter.unusedVariables false
set_option linter.unusedSimpArgs false
attribute [local go_sem] Oper.semAt_some
attribute [local go_sem] max2_int min2_int max_two min_two max_three min_three max_four min_four
theorem infoE : (Try.prog.info? 3).map (fun i => (i.zero, i.size, i.bytes)) = some (some (.int .i64 0), 1, 8) := by kernel_rfl

/-- a box of another type lies as it lay, behind an append and the store into a box at another place -/
theorem bx_after {W w1 : World} {n0 B : Nat} {t e : TypeId} {size : Nat} {v u : Value} {k : Nat} {xs : List Value} {tmp : Obj} (h : Boxed W B t u) (hte : t ≠ e) (hrow : W.ownsRow n0 e size v k xs) (hg : (W.alloc tmp).grownBy w1 v.ownBlock) :
    w1.heap[B]? = W.heap[B]? := (hg.block B (by have := h.lt; simp; omega) (h.not_row hte hrow)).trans (Below.heap_alloc W tmp B h.lt)
def clock_Clock_Merge.f (c d : List Int) : Option (List Int × Int) := some (if fitB c d then (merged (c.zip d), 0) else ([], 2))

set_option maxRecDepth 100000 in
set_option maxHeartbeats 2000000 in
theorem merge_in (A0 : Option Addr) (c0 : Nat) (l0 : List Int) (A1 : Option Addr) (c1 : Nat) (l1 : List Int) (w : World) (hr0 : Kd.C (Kd.int .i64) w A0 l0.length l0) (hc0 : l0.length ≤ c0)
    (hr1 : Kd.C (Kd.int .i64) w A1 l1.length l1) (hc1 : l1.length ≤ c1) (hfit : fitB l0 l1 = true) :
    CallsIn Fence.wide 3 Try.prog 33 #[.slice A0 l0.length c0, .slice A1 l1.length c1] w fun e w' => ∃ v, e = .returned (.tuple #[v, .int .i64 0]) ∧ Kd.R (Kd.int .i64) 3 w' w.heap.size (fun _ => True) v (merged (l0.zip l1)) ∧ Below w.heap.size w w' := by
  have hlen : l0.length = l1.length := by unfold fitB at hfit; simp at hfit; exact hfit.2
  have hle : l0.length ≤ 64 := by unfold fitB mayB at hfit; simp at hfit; omega
  obtain ⟨i0, hi, hz0, hz1, hz2⟩ := info_parts infoE
  have HR0 := Aside0.mk hr0
  have HR1 := Aside0.mk hr1
  have HLEN := Aside0.mk hlen
  have HF := Aside0.mk hfit
  clear hr0 hr1 hlen hfit
  refine callsIn_of_wp_marks Try.func33 rfl trivial ?_ rfl
  simp only [Try.ntmps33, List.size_toArray, List.length_cons, List.length_nil, Nat.reduceAdd, Nat.reduceSub, Array.replicate_succ, Array.replicate_zero, List.push_toArray, List.append_toArray, List.nil_append, List.cons_append]
  gi_wp2_with fail
  refine ⟨trivial, (callsIn_wide.2 (clock_fit.calls A0 c0 l0 A1 c1 l1 true _ HR0.out hc0 HR1.out hc1 (by rw [clock_fit.f, HF.out]))).mono ?_⟩
  rintro e w1 ⟨rfl, hd⟩
  have HB1 := Aside0.mk hd.below
  have HR0' := Aside0.mk (Kd.C_below HR0.out hd.below)
  have HR1' := Aside0.mk (Kd.C_below HR1.out hd.below)
  clear hd
  gi_wp2_with fail
  refine ⟨trivial, (pairs_calls _ _ _ _ _ _ _ _).mono ?_⟩
  rintro e w' ⟨rfl, rfl⟩
  rw [World.size_alloc]
  gi_wp2
  have bO := Boxed.new w1 30 (.slice none 0 0)
  have bC := Boxed.new (w1.alloc (.cells #[.slice none 0 0] 30)) 30 (.slice A0 l0.length c0)
  have bD := Boxed.new ((w1.alloc (.cells #[.slice none 0 0] 30)).alloc (.cells #[.slice A0 l0.length c0] 30)) 30 (.slice A1 l1.length c1)
  rw [World.size_alloc] at bC
  rw [World.size_alloc, World.size_alloc] at bD
  have hB0 : Below w1.heap.size w1 (((w1.alloc (.cells #[.slice none 0 0] 30)).alloc (.cells #[.slice A0 l0.length c0] 30)).alloc (.cells #[.slice A1 l1.length c1] 30)) := (((Below.refl _ w1).alloc (Nat.le_refl _) _).alloc (by simp) _).alloc (by simp; omega) _
  refine wpIn_rangeFunc_ownG rfl (by omega) (gf := 44) (lb := #[.pointer (some ⟨w1.heap.size + 1, 0, none⟩), .pointer (some ⟨w1.heap.size + 1 + 1, 0, none⟩)]) rfl trivial (enters_of Try.func44 (by kernel_rfl) rfl)
    (pairs_stops 2 (by omega) w1 (w1.heap.size + 1) (w1.heap.size + 1 + 1) A0 A1 c0 c1 l0 l1 HLEN.out HR0'.out HR1'.out _ (by simp) (by simp) ⟨hB0, (bC.alloc _).cell, bD.cell⟩) KpP.t (KpP.b (by simp; omega) (by simp) (by simp)) (Below.refl _ _) (fun _ => rfl)
    (fun pre W => (∃ v, Boxed W w1.heap.size 30 v ∧ W.ownsRow w1.heap.size 3 1 v (merged pre).length ((merged pre).map (Value.int .i64)) ∧ (v = .slice none 0 0 ↔ pre = [])) ∧ Boxed W (w1.heap.size + 1) 30 (.slice A0 l0.length c0) ∧ Boxed W (w1.heap.size + 1 + 1) 30 (.slice A1 l1.length c1) ∧ Below w1.heap.size w1 W)
    (fun _ _ _ => False)
    (OwnFrom.and (Own.from (holdsRow_own w1.heap.size w1.heap.size 30 3 1 (fun pre => (merged pre).length) (fun pre => (merged pre).map (Value.int .i64)) (fun pre v => v = .slice none 0 0 ↔ pre = [])) _)
      (OwnFrom.and (Own.from (boxed_own _ _ _) _) (OwnFrom.and (Own.from (boxed_own _ _ _) _) (ownFrom_below (Nat.le_refl _) (by simp; omega)))))
    (fun _ _ _ _ _ hs _ _ => hs)
    ⟨⟨_, (bO.alloc _).alloc _, World.ownsRow_nil _ _ _ _, by simp⟩, bC.alloc _, bD, hB0⟩
    (fun x => { tmps := #[.slice A0 l0.length c0, .slice A1 l1.length c1, undef, undef, .slice none 0 0, .int .i64 0, .pointer (some ⟨w1.heap.size, 0, none⟩), .int .i64 x.1, .int .i64 x.2, .slice A0 l0.length c0, .slice A1 l1.length c1, .bool true, .bool false, .slice A0 l0.length c0, .slice A1 l1.length c1, .func (.func 44) #[] #[.pointer (some ⟨w1.heap.size + 1, 0, none⟩), .pointer (some ⟨w1.heap.size + 1 + 1, 0, none⟩)], .int .i64 x.1, .int .i64 x.2, undef, undef, undef, undef, undef, undef, undef], defers := [] }) ?assign ?body ?done ?stop
  case assign =>
    intro l x W K hK
    gi_wp2
    exact hK
  case body =>
    rintro l pre x W ⟨⟨v, hv, hrow, _⟩, hbc, hbd, hB⟩ hlt
    have hc := hv.cell
    have HPL := Aside0.mk (show (merged pre).length = pre.length by simp [merged])
    have fin : ∀ (u : Value) (W2 : World) {z : Int} {Bq : Nat}, max x.1 x.2 = z → u ≠ .slice none 0 0 → Boxed W2 w1.heap.size 30 u → W2.ownsRow w1.heap.size 3 1 u ((merged pre).length + 1) ((merged pre).map (Value.int .i64) ++ [.int .i64 z]) → KeepsOthers W W2 → Below w1.heap.size W W2 →
        W2.heap[w1.heap.size + 1]? = W.heap[w1.heap.size + 1]? → W2.heap[w1.heap.size + 1 + 1]? = W.heap[w1.heap.size + 1 + 1]? →
        KeepsFrom Bq W W2 ∧ KpP w1.heap.size (w1.heap.size + 1) (w1.heap.size + 1 + 1) W W2 ∧ (∃ v, Boxed W2 w1.heap.size 30 v ∧ W2.ownsRow w1.heap.size 3 1 v (merged (pre ++ [x])).length ((merged (pre ++ [x])).map (Value.int .i64)) ∧ (v = .slice none 0 0 ↔ pre ++ [x] = [])) ∧
          Boxed W2 (w1.heap.size + 1) 30 (.slice A0 l0.length c0) ∧ Boxed W2 (w1.heap.size + 1 + 1) 30 (.slice A1 l1.length c1) ∧ Below w1.heap.size w1 W2 := fun u W2 z Bq hz hu h1 h2 h3 h4 h5 h6 =>
      ⟨h3.from _, ⟨h4, h5, h6⟩, ⟨u, h1, by rw [merged_snoc, hz]; simpa using h2, by simp [hu]⟩, h5.trans hbc, h6.trans hbd, hB.trans h4⟩
    by_cases hx : x.1 < x.2
    · have hd : decide (x.1 < x.2) = true := by simpa using hx
      have hmx : max x.1 x.2 = x.2 := by omega
      have HMX := Aside0.mk hmx
      clear hmx
      gi_wp2_with (gi_at_builtin; refine wpListIn_append_own _ rfl (.tmp 18) (.tmp 22) 30 rfl w1.heap.size 3 i0 (.int .i64 0) 1 8 Try.underlying30 hi hz0 hz1 hz2 rfl (by decide) _ _ _ rfl (hrow.alloc _) ⟨W.heap.size, 0, none⟩ 1 1 [.int .i64 x.2] rfl rfl ?ca1 ?cb1 ?cc1 ?cd1 ?ce1 ?_; rotate_right; intro v' w2 hown' hgrow _; obtain ⟨g', cap', rfl⟩ := ownsRow_succ hown'; obtain ⟨hv1, hv2, hr2, hk2, hb2⟩ := hv.appended (by decide) hrow hB.size (Nat.le_refl _) hown' hgrow; have hc1 := hv1.cell; have hf1 := hv1.frozen)
      all_goals first | exact cell_one_new _ _ _ | (simp [Value.oneCell']; done) | (have := HPL.out; unfold maxLen; omega) | (have := HPL.out; omega) | (have := hB.size; omega) | (have := hB.size; simp; omega) | exact fin _ _ HMX.out (by simp) hv2 hr2 hk2 hb2 ((Below.heap_setCell _ _ _ _ (by show w1.heap.size + 1 ≠ w1.heap.size; omega)).trans (bx_after hbc (by decide) hrow hgrow)) ((Below.heap_setCell _ _ _ _ (by show w1.heap.size + 1 + 1 ≠ w1.heap.size; omega)).trans (bx_after hbd (by decide) hrow hgrow))
    · have hd : decide (x.1 < x.2) = false := by simpa using hx
      have hmx : max x.1 x.2 = x.1 := by omega
      have HMX := Aside0.mk hmx
      clear hmx
      gi_wp2_with (gi_at_builtin; refine wpListIn_append_own _ rfl (.tmp 18) (.tmp 22) 30 rfl w1.heap.size 3 i0 (.int .i64 0) 1 8 Try.underlying30 hi hz0 hz1 hz2 rfl (by decide) _ _ _ rfl (hrow.alloc _) ⟨W.heap.size, 0, none⟩ 1 1 [.int .i64 x.1] rfl rfl ?ca2 ?cb2 ?cc2 ?cd2 ?ce2 ?_; rotate_right; intro v' w2 hown' hgrow _; obtain ⟨g', cap', rfl⟩ := ownsRow_succ hown'; obtain ⟨hv1, hv2, hr2, hk2, hb2⟩ := hv.appended (by decide) hrow hB.size (Nat.le_refl _) hown' hgrow; have hc1 := hv1.cell; have hf1 := hv1.frozen)
      all_goals first | exact cell_one_new _ _ _ | (simp [Value.oneCell']; done) | (have := HPL.out; unfold maxLen; omega) | (have := HPL.out; omega) | (have := hB.size; omega) | (have := hB.size; simp; omega) | exact fin _ _ HMX.out (by simp) hv2 hr2 hk2 hb2 ((Below.heap_setCell _ _ _ _ (by show w1.heap.size + 1 ≠ w1.heap.size; omega)).trans (bx_after hbc (by decide) hrow hgrow)) ((Below.heap_setCell _ _ _ _ (by show w1.heap.size + 1 + 1 ≠ w1.heap.size; omega)).trans (bx_after hbd (by decide) hrow hgrow))
  case done =>
    rintro D ys W hD rfl ⟨⟨v, hv, hrow, _⟩, hbc, hbd, hB⟩ hK
    have hc := hv.cell
    gi_wp2
    refine ⟨by simp, .inl ⟨_, _, rfl, run_takeDeferred hK, ?_⟩⟩
    refine ⟨_, results_tmp2 rfl _ _ _, v, rfl, ?_, (HB1.out.trans (hB.mono HB1.out.size)).trans ((belowK_b (w := w1) (Nat.le_refl _) W D _ _ (by simp at hD; omega) hK rfl rfl).mono HB1.out.size)⟩
    exact Kd.R_of_own (own_weaken (ownsRow_putObj hrow _ hK rfl) HB1.out.size) (fun _ _ => trivial)
  case stop =>
    rintro D c pre W _ _ h _
    exact h.elim

theorem clock_Clock_Merge.calls (A0 : Option Addr) (c0 : Nat) (l0 : List Int) (A1 : Option Addr) (c1 : Nat) (l1 : List Int) (r1 : List Int) (r2 : Int) (w : World) (hr0 : Kd.C (Kd.int .i64) w A0 l0.length l0) (hc0 : l0.length ≤ c0)
    (hr1 : Kd.C (Kd.int .i64) w A1 l1.length l1) (hc1 : l1.length ≤ c1) (h : clock_Clock_Merge.f l0 l1 = some (r1, r2)) :
    Calls Try.prog 33 #[.slice A0 l0.length c0, .slice A1 l1.length c1] w fun e w' => ∃ v0_ : Value, e = .returned (.tuple #[v0_, .int .i64 r2]) ∧ Kd.R (Kd.int .i64) 3 w' w.heap.size (fun _ => True) v0_ r1 ∧ Below w.heap.size w w' := by
  unfold clock_Clock_Merge.f at h
  by_cases hf : fitB l0 l1 = true
  · rw [if_pos hf] at h
    obtain ⟨rfl, rfl⟩ : _ ∧ _ := by simpa using h
    exact callsIn_wide.1 (merge_in A0 c0 l0 A1 c1 l1 w hr0 hc0 hr1 hc1 hf)
  · rw [if_neg hf] at h
    obtain ⟨rfl, rfl⟩ : _ ∧ _ := by simpa using h
    have HF := Aside0.mk (show fitB l0 l1 = false by simpa using hf)
    have HR0 := Aside0.mk hr0
    have HR1 := Aside0.mk hr1
    clear h hf hr0 hr1
    go_enter Try.func33, Try.ntmps33
    go_wp2_with fail
    refine (clock_fit.calls A0 c0 l0 A1 c1 l1 false _ HR0.out hc0 HR1.out hc1 (by rw [clock_fit.f, HF.out])).mono ?_
    rintro e w1 ⟨rfl, hd⟩
    have HB1 := Aside0.mk hd.below
    clear hd
    go_wp2
    go_ret2
    exact ⟨_, rfl, Kd.R_nil _ _ _ _ _, HB1.out⟩
end Go.Proofs.Ytnblmjkaieibhaa.HD
