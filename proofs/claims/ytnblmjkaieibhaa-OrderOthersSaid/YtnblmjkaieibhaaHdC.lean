/-
  CONTRACTS BY HAND (3): clock.pairs, and a range over what it hands back: Merge, Of.
-/
import Derived.Test.YtnblmjkaieibhaaHdA
import Derived.RangeFuncBox
import Derived.RangeFuncLeaves
import Derived.RangeFuncBound
import Derived.RangeFuncNested
import Derived.RangeFuncCalls
import Derived.Shelf.Abstract
import Derived.Shelf.RegionOpen
import Derived.OwnWalkIn
import Derived.TacticsInMore
import Derived.LoopNIn
import Derived.LoopIn
namespace Go.Proofs.Ytnblmjkaieibhaa.HD
open Go.RowKit Go.Shelf Go.Proofs.YtnblmjkaieibhaaW.PrintWords Go.Proofs.YtnblmjkaieibhaaW.PrintLast Go.Proofs.YtnblmjkaieibhaaW.PrintMore
set_option linter.unusedVariables false
set_option linter.unusedSimpArgs false
attribute [local go_sem] Oper.semAt_some

/-- WHAT pairs' CLOSURE READS: the two boxes; the numbers of both clocks, which lie as they lay in w0. -/
structure PairsIn (w0 : World) (bc bd : Nat) (Ac Ad : Option Addr) (cc cd : Nat) (c d : List Int) (W : World) : Prop where
  bel : Below w0.heap.size w0 W
  c0 : W.cell? ⟨bc, 0, none⟩ = some (.slice Ac c.length cc)
  d0 : W.cell? ⟨bd, 0, none⟩ = some (.slice Ad d.length cd)
/-- what a round keeps: whatever lay below n0, and the two boxes -/
def KpP (n0 bc bd : Nat) (A B : World) : Prop := Below n0 A B ∧ B.heap[bc]? = A.heap[bc]? ∧ B.heap[bd]? = A.heap[bd]?
theorem KpP.t {n0 bc bd : Nat} {A B C : World} (h : KpP n0 bc bd A B) (k : KpP n0 bc bd B C) : KpP n0 bc bd A C := ⟨h.1.trans k.1, k.2.1.trans h.2.1, k.2.2.trans h.2.2⟩
theorem KpP.b {n0 bc bd : Nat} {w : World} (hn : n0 ≤ w.heap.size) (hc : bc < w.heap.size) (hd : bd < w.heap.size) (W : World) (l : Nat) (o o' : Obj) (hl : w.heap.size ≤ l) (h : W.heap[l]? = some o) (h1 : o.isCells = false) (h2 : o.isWalk = false) : KpP n0 bc bd W (W.putObj l o') :=
  ⟨belowK_b hn W l o o' hl h h1 h2, World.putObj_heap_other (by omega), World.putObj_heap_other (by omega)⟩
theorem KpP.pairs {w0 : World} {bc bd : Nat} {Ac Ad : Option Addr} {cc cd : Nat} {c d : List Int} {A B : World} (h : KpP w0.heap.size bc bd A B) (k : PairsIn w0 bc bd Ac Ad cc cd c d A) : PairsIn w0 bc bd Ac Ad cc cd c d B :=
  ⟨k.bel.trans h.1, (World.cell?_of_block (a := ⟨bc, 0, none⟩) h.2.1).trans k.c0, (World.cell?_of_block (a := ⟨bd, 0, none⟩) h.2.2).trans k.d0⟩

theorem zip_at (c d : List Int) (k : Nat) (h : k < c.length) (h' : k < d.length) : (c.zip d).take (k + 1) = (c.zip d).take k ++ [(rd c k, rd d k)] := by
  have hz : k < (c.zip d).length := by simp; omega
  rw [List.take_succ_eq_append_getElem hz]
  simp [rd, h, h']

set_option maxRecDepth 100000 in
set_option maxHeartbeats 2000000 in
theorem pairs1_in (n : Nat) (hn : 1 ≤ n) (l : Nat) (w0 : World) (bc bd : Nat) (Ac Ad : Option Addr) (cc cd : Nat) (c d : List Int) (hlen : c.length = d.length) (hc : Kd.C (Kd.int .i64) w0 Ac c.length c) (hd : Kd.C (Kd.int .i64) w0 Ad d.length d) (J Jx : List (Int × Int) → World → Prop)
    (hY : ∀ pre x W, J pre W → pre.length < c.length → YieldAt Fence.wide (n - 1) Try.prog l #[.int .i64 x.1, .int .i64 x.2] W fun e W' =>
      (e = .returned (.bool true) ∧ J (pre ++ [x]) W' ∧ KpP w0.heap.size bc bd W W') ∨ (e = .returned (.bool false) ∧ Jx (pre ++ [x]) W'))
    (W : World) (hP : PairsIn w0 bc bd Ac Ad cc cd c d W) (h0 : J [] W) :
    CallsIn Fence.wide n Try.prog 44 #[.func (.yield l) #[] #[], .pointer (some ⟨bc, 0, none⟩), .pointer (some ⟨bd, 0, none⟩)] W fun e W' => (∃ v, e = .returned v) ∧
      ((∃ ys, ys = c.zip d ∧ J ys W') ∨ (∃ pre, pre <+: c.zip d ∧ Jx pre W')) := by
  have HP := Aside0.mk hP
  have hm := Kd.C_max hc
  have HC := Aside0.mk hc
  have HD := Aside0.mk hd
  clear hc hd
  have e1 := hP.c0
  have HL := Aside0.mk hlen
  have hl2 : d.length ≤ c.length := by omega
  clear hP hlen
  refine callsIn_of_wp Try.func44 rfl trivial ?_ rfl
  simp only [Try.ntmps44, List.size_toArray, List.length_cons, List.length_nil, Nat.reduceAdd, Nat.reduceSub, Array.replicate_succ, Array.replicate_zero, List.push_toArray, List.append_toArray, List.nil_append, List.cons_append]
  gi_wp2
  gi_loopw [8] (fun i wr => ∃ k : Nat, k ≤ c.length ∧ i = .int .i64 k ∧ Aside0 (PairsIn w0 bc bd Ac Ad cc cd c d wr) ∧ J ((c.zip d).take k) wr)
    (fun i _ => c.length - (intOf i).toNat)
  case atStart => exact ⟨0, Nat.zero_le _, rfl, HP, by simpa using h0⟩
  case round =>
    obtain ⟨k, hk, rfl, hPr, hJs⟩ := hrel
    by_cases hlt : k < c.length
    · have hz := zip_at c d k hlt (by have := HL.out; omega)
      have hzl : ((c.zip d).take k).length < c.length := by simp; omega
      obtain ⟨fn, tmps, assign, body, hy, hR⟩ := hY _ (rd c k, rd d k) wr hJs hzl
      dsimp only at hy
      have HZ := Aside0.mk hz
      clear hz
      obtain ⟨ac, hac, hxc⟩ := Kd.at_int (Kd.C_below HC.out hPr.out.bel) k (by omega) (by omega)
      obtain ⟨ad, had, hxd⟩ := Kd.at_int (Kd.C_below HD.out hPr.out.bel) k (by omega) (by have := HL.out; omega)
      subst hac had
      rw [Int.toNat_natCast] at hxc hxd
      have e2 := hPr.out.d0
      have hld : k < d.length := by have := HL.out; omega
      gi_wp2
      refine hR.mono ?_
      rintro e W3 (⟨rfl, hJ3, hk3⟩ | ⟨rfl, hJx3⟩)
      · have HP3 := Aside0.mk (hk3.pairs hPr.out)
        gi_wp2
        go_roundw
        case rel => exact ⟨k + 1, by omega, by go_num, HP3, by rw [HZ.out]; exact hJ3⟩
        case measure => simp [intOf]; omega
      · gi_wp2
        refine bodyPost_ret (results_none rfl _ _ _) rfl ?_
        exact ⟨⟨_, rfl⟩, .inr ⟨_, ⟨(c.zip d).drop (k + 1), by rw [← HZ.out]; exact List.take_append_drop _ _⟩, hJx3⟩⟩
    · obtain rfl : k = c.length := by omega
      gi_wp2
      go_end0
      exact ⟨⟨_, rfl⟩, .inl ⟨_, rfl, by rw [List.take_of_length_le (by simp; omega)] at hJs; exact hJs⟩⟩

/-- the pairs, or a beginning of them: where a round has said 'no more' -/
theorem pairs_stops (n : Nat) (hn : 1 ≤ n) (w0 : World) (bc bd : Nat) (Ac Ad : Option Addr) (cc cd : Nat) (c d : List Int) (hlen : c.length = d.length) (hc : Kd.C (Kd.int .i64) w0 Ac c.length c) (hd : Kd.C (Kd.int .i64) w0 Ad d.length d)
    (w : World) (hbc : bc < w.heap.size) (hbd : bd < w.heap.size) (hP : PairsIn w0 bc bd Ac Ad cc cd c d w) :
    SeqStopsK Fence.wide n Try.prog 44 #[.pointer (some ⟨bc, 0, none⟩), .pointer (some ⟨bd, 0, none⟩)] (fun x : Int × Int => #[Value.int .i64 x.1, Value.int .i64 x.2]) (KpP w0.heap.size bc bd) (fun ys => ys = c.zip d) (fun pre => pre <+: c.zip d) c.length w :=
  fun l J Jx W hW _ _ hY h0 => pairs1_in n hn l w0 bc bd Ac Ad cc cd c d hlen hc hd J Jx hY W
    ⟨hP.bel.trans (hW.mono hP.bel.size), (hW.cell (p := ⟨bc, 0, none⟩) hbc).trans hP.c0, (hW.cell (p := ⟨bd, 0, none⟩) hbd).trans hP.d0⟩ h0

theorem pairs_calls (n : Nat) (Ac Ad : Option Addr) (n1 n2 cc cd : Nat) (w : World) :
    CallsIn Fence.wide n Try.prog 37 #[.slice Ac n1 cc, .slice Ad n2 cd] w fun e w' => e = .returned (.func (.func 44) #[] #[.pointer (some ⟨w.heap.size, 0, none⟩), .pointer (some ⟨w.heap.size + 1, 0, none⟩)]) ∧
      w' = (w.alloc (.cells #[.slice Ac n1 cc] 30)).alloc (.cells #[.slice Ad n2 cd] 30) := by
  refine callsIn_of_wp Try.func37 rfl trivial ?_ rfl
  simp only [Try.ntmps37, List.size_toArray, List.length_cons, List.length_nil, Nat.reduceAdd, Nat.reduceSub, Array.replicate_succ, Array.replicate_zero, List.push_toArray, List.append_toArray, List.nil_append, List.cons_append]
  gi_wp2
  go_ret
  exact ⟨rfl, rfl⟩
/-- what a clock is told of another one, a pair more -/
def tell (t : Int) (x : Int × Int) : Int := let u := if x.1 < x.2 then bits .or .u8 t 1 else t; if x.2 < x.1 then bits .or .u8 u 2 else u
def tells (l : List (Int × Int)) : Int := l.foldl tell 0
theorem tells_snoc (pre : List (Int × Int)) (x : Int × Int) : tells (pre ++ [x]) = tell (tells pre) x := by simp [tells]

def clock_Clock_Of.f (c d : List Int) : Option (Int × Int) := some (if fitB c d then (tells (c.zip d), 0) else (0, 2))

set_option maxRecDepth 100000 in
set_option maxHeartbeats 2000000 in
theorem of_in (A0 : Option Addr) (c0 : Nat) (l0 : List Int) (A1 : Option Addr) (c1 : Nat) (l1 : List Int) (w : World) (hr0 : Kd.C (Kd.int .i64) w A0 l0.length l0) (hc0 : l0.length ≤ c0)
    (hr1 : Kd.C (Kd.int .i64) w A1 l1.length l1) (hc1 : l1.length ≤ c1) (hfit : fitB l0 l1 = true) :
    CallsIn Fence.wide 3 Try.prog 25 #[.slice A0 l0.length c0, .slice A1 l1.length c1] w fun e w' => e = .returned (.tuple #[.int .u8 (tells (l0.zip l1)), .int .i64 0]) ∧ Below w.heap.size w w' := by
  have hlen : l0.length = l1.length := by unfold fitB at hfit; simp at hfit; exact hfit.2
  have HR0 := Aside0.mk hr0
  have HR1 := Aside0.mk hr1
  have HLEN := Aside0.mk hlen
  have HF := Aside0.mk hfit
  clear hr0 hr1 hlen hfit
  refine callsIn_of_wp_marks Try.func25 rfl trivial ?_ rfl
  simp only [Try.ntmps25, List.size_toArray, List.length_cons, List.length_nil, Nat.reduceAdd, Nat.reduceSub, Array.replicate_succ, Array.replicate_zero, List.push_toArray, List.append_toArray, List.nil_append, List.cons_append]
  gi_wp2_with fail
  refine ⟨trivial, (callsIn_wide.2 (clock_fit.calls A0 c0 l0 A1 c1 l1 true _ HR0.out hc0 HR1.out hc1 (by rw [clock_fit.f, HF.out]))).mono ?_⟩
  rintro e w1 ⟨rfl, hd⟩
  have HB1 := Aside0.mk hd.below
  have HR0' := Aside0.mk (Kd.C_below HR0.out hd.below)
  have HR1' := Aside0.mk (Kd.C_below HR1.out hd.below)
  clear hd
  gi_wp2_with fail
  refine ⟨trivial, (pairs_calls _ _ _ _ _ _ _ _).mono ?_⟩
  rintro e w' ⟨rfl, rfl⟩
  rw [World.size_alloc]
  gi_wp2
  have bO := Boxed.new w1 5 (.int .u8 0)
  have bC := Boxed.new (w1.alloc (.cells #[.int .u8 0] 5)) 30 (.slice A0 l0.length c0)
  have bD := Boxed.new ((w1.alloc (.cells #[.int .u8 0] 5)).alloc (.cells #[.slice A0 l0.length c0] 30)) 30 (.slice A1 l1.length c1)
  rw [World.size_alloc] at bC
  rw [World.size_alloc, World.size_alloc] at bD
  have hB0 : Below w1.heap.size w1 (((w1.alloc (.cells #[.int .u8 0] 5)).alloc (.cells #[.slice A0 l0.length c0] 30)).alloc (.cells #[.slice A1 l1.length c1] 30)) := (((Below.refl _ w1).alloc (Nat.le_refl _) _).alloc (by simp) _).alloc (by simp; omega) _
  refine wpIn_rangeFunc_ownG rfl (by omega) (gf := 44) (lb := #[.pointer (some ⟨w1.heap.size + 1, 0, none⟩), .pointer (some ⟨w1.heap.size + 1 + 1, 0, none⟩)]) rfl trivial (enters_of Try.func44 (by kernel_rfl) rfl)
    (pairs_stops 2 (by omega) w1 (w1.heap.size + 1) (w1.heap.size + 1 + 1) A0 A1 c0 c1 l0 l1 HLEN.out HR0'.out HR1'.out _ (by simp) (by simp) ⟨hB0, (bC.alloc _).cell, bD.cell⟩) KpP.t (KpP.b (by simp; omega) (by simp) (by simp)) (Below.refl _ _) (fun _ => rfl)
    (fun pre W => (W.cell? ⟨w1.heap.size, 0, none⟩ = some (.int .u8 (tells pre)) ∧ W.frozen? ⟨w1.heap.size, 0, none⟩ = false) ∧ Below w1.heap.size w1 W)
    (fun _ _ _ => False)
    (OwnFrom.and (Own.from (fun s A B row hs hg hr => ⟨cell_kept hs.1 hg hr, (frozen_kept hs.1 hg hr).trans hs.2⟩) _) (ownFrom_below (Nat.le_refl _) (by simp; omega)))
    (fun _ _ _ _ _ hs _ _ => hs)
    ⟨⟨((bO.alloc _).alloc _).cell, ((bO.alloc _).alloc _).frozen⟩, hB0⟩
    (fun x => { tmps := #[.slice A0 l0.length c0, .slice A1 l1.length c1, undef, undef, .int .u8 0, .int .i64 0, .pointer (some ⟨w1.heap.size, 0, none⟩), .int .i64 x.1, .int .i64 x.2, .slice A0 l0.length c0, .slice A1 l1.length c1, .bool true, .bool false, .slice A0 l0.length c0, .slice A1 l1.length c1, .func (.func 44) #[] #[.pointer (some ⟨w1.heap.size + 1, 0, none⟩), .pointer (some ⟨w1.heap.size + 1 + 1, 0, none⟩)], .int .i64 x.1, .int .i64 x.2, undef, undef, undef, undef, undef, undef, undef, undef, undef, undef, undef], defers := [] }) ?assign ?body ?done ?stop
  case assign =>
    intro l x W K hK
    gi_wp2
    exact hK
  case body =>
    rintro l pre x W ⟨⟨hc, hf⟩, hB⟩ _
    have fin : ∀ u : Int, u = tell (tells pre) x → ownPostG (w1.heap.size + 1 + 1 + 1) (KpP w1.heap.size (w1.heap.size + 1) (w1.heap.size + 1 + 1))
        (fun pre W => (W.cell? ⟨w1.heap.size, 0, none⟩ = some (.int .u8 (tells pre)) ∧ W.frozen? ⟨w1.heap.size, 0, none⟩ = false) ∧ Below w1.heap.size w1 W) (fun _ _ _ => False) (pre ++ [x]) W .normal { tmps := #[], defers := [] }
        (W.setCell ⟨w1.heap.size, 0, none⟩ (.int .u8 u)) := fun u hu =>
      ⟨(KeepsOthers.setCell _ _ _).from _, ⟨(Below.refl w1.heap.size W).setCell (p := ⟨w1.heap.size, 0, none⟩) (Nat.le_refl _) _, Below.heap_setCell _ _ _ _ (by show w1.heap.size + 1 ≠ w1.heap.size; omega), Below.heap_setCell _ _ _ _ (by show w1.heap.size + 1 + 1 ≠ w1.heap.size; omega)⟩,
        ⟨by rw [tells_snoc, hu]; exact World.cell?_setCell_same' _ _ _ (by rw [hc]; rfl), by rw [World.frozen?_setCell]; exact hf⟩, hB.setCell (p := ⟨w1.heap.size, 0, none⟩) (Nat.le_refl _) _⟩
    by_cases h1 : x.1 < x.2
    · have h2 : ¬ x.2 < x.1 := by omega
      have hu : bits .or .u8 (tells pre) 1 = tell (tells pre) x := by simp [tell, h1, h2]
      have HF2 := Aside0.mk (fin _ hu)
      clear fin hu
      gi_wp2
      exact HF2.out
    · by_cases h2 : x.2 < x.1
      · have hu : bits .or .u8 (tells pre) 2 = tell (tells pre) x := by simp [tell, h1, h2]
        have HF2 := Aside0.mk (fin _ hu)
        clear fin hu
        gi_wp2
        exact HF2.out
      · have hu : tells pre = tell (tells pre) x := by simp [tell, h1, h2]
        have HU := Aside0.mk hu
        clear fin hu
        gi_wp2
        exact ⟨(KeepsOthers.refl _).from _, ⟨Below.refl _ _, rfl, rfl⟩, ⟨by rw [tells_snoc, ← HU.out]; exact hc, hf⟩, hB⟩
  case done =>
    rintro D ys W hD rfl ⟨⟨hc, _⟩, hB⟩ hK
    gi_wp2
    refine ⟨by simp, .inl ⟨_, _, rfl, run_takeDeferred hK, ?_⟩⟩
    exact ⟨_, results_tmp2 rfl _ _ _, rfl, (HB1.out.trans (hB.mono HB1.out.size)).trans ((belowK_b (w := w1) (Nat.le_refl _) W D _ _ (by simp at hD; omega) hK rfl rfl).mono HB1.out.size)⟩
  case stop =>
    rintro D c pre W _ _ h _
    exact h.elim

theorem clock_Clock_Of.calls (A0 : Option Addr) (c0 : Nat) (l0 : List Int) (A1 : Option Addr) (c1 : Nat) (l1 : List Int) (r1 r2 : Int) (w : World) (hr0 : Kd.C (Kd.int .i64) w A0 l0.length l0) (hc0 : l0.length ≤ c0)
    (hr1 : Kd.C (Kd.int .i64) w A1 l1.length l1) (hc1 : l1.length ≤ c1) (h : clock_Clock_Of.f l0 l1 = some (r1, r2)) :
    Calls Try.prog 25 #[.slice A0 l0.length c0, .slice A1 l1.length c1] w fun e w' => e = .returned (.tuple #[.int .u8 r1, .int .i64 r2]) ∧ Below w.heap.size w w' := by
  unfold clock_Clock_Of.f at h
  by_cases hf : fitB l0 l1 = true
  · rw [if_pos hf] at h
    obtain ⟨rfl, rfl⟩ : _ ∧ _ := by simpa using h
    exact callsIn_wide.1 (of_in A0 c0 l0 A1 c1 l1 w hr0 hc0 hr1 hc1 hf)
  · rw [if_neg hf] at h
    obtain ⟨rfl, rfl⟩ : _ ∧ _ := by simpa using h
    have HF := Aside0.mk (show fitB l0 l1 = false by simpa using hf)
    have HR0 := Aside0.mk hr0
    have HR1 := Aside0.mk hr1
    clear h hf hr0 hr1
    go_enter Try.func25, Try.ntmps25
    go_wp2_with fail
    refine (clock_fit.calls A0 c0 l0 A1 c1 l1 false _ HR0.out hc0 HR1.out hc1 (by rw [clock_fit.f, HF.out])).mono ?_
    rintro e w1 ⟨rfl, hd⟩
    have HB1 := Aside0.mk hd.below
    clear hd
    go_wp2
    go_ret2
    exact ⟨rfl, HB1.out⟩

/-- the greater ones of both -/
def merged (l : List (Int × Int)) : List Int := l.map fun x => max x.1 x.2
theorem merged_snoc (pre : List (Int × Int)) (x : Int × Int) : merged (pre ++ [x]) = merged pre ++ [max x.1 x.2] := by simp [merged]
end Go.Proofs.Ytnblmjkaieibhaa.HD
