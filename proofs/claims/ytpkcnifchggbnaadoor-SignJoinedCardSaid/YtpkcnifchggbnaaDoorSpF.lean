/-
  CONTRACTS BY HAND (sign, 24): SplitSeq's iterator over a text without the separator.
-/
import Derived.Test.YtpkcnifchggbnaaDoorSpE
import Derived.RangeFuncNested
import Derived.RangeFuncBound
import Derived.RangeFuncCalls
import Derived.RangeFuncLeaves
import Derived.Shelf.Abstract
import Derived.Shelf.RegionOpen
import Derived.WalkKit
import Derived.OwnWalkIn
import Derived.TacticsInMore
import Derived.LoopNIn
import Derived.LoopIn
namespace Go.Proofs.YtpkcnifchggbnaaDoor.HI
open Go.RowKit Go.Shelf Go.Proofs.YtpkcnifchggbnaaDoor.HD Go.Proofs.YtpkcnifchggbnaaDoor.HK Go.Proofs.YtpkcnifchggbnaaDoor.HU Go.Proofs.YtpkcnifchggbnaaDoorW.PrintWords Go.Proofs.YtpkcnifchggbnaaDoorW.PrintLast Go.Proofs.YtpkcnifchggbnaaDoorW.PrintMore
set_option linter.unusedVariables false
set_option linter.unusedSimpArgs false
attribute [local go_sem] Oper.semAt_some
theorem cellw_new (W : World) (v : Value) (t : TypeId) : (W.alloc (.cells #[v] t)).cell? ⟨W.heap.size, 0, none⟩ = some v ∧ (W.alloc (.cells #[v] t)).frozen? ⟨W.heap.size, 0, none⟩ = false :=
  ⟨by have := blk_new W (.cells #[v] t); simp only [World.cell?, this]; rfl, blk_frozen (blk_new W (.cells #[v] t)) 0⟩
theorem cellw_alloc {W : World} {a : Addr} {v : Value} (o : Obj) (h : W.cell? a = some v) : (W.alloc o).cell? a = some v := ((below_alloc (Below.refl W.heap.size W) o).cell (World.block_lt_of_cell? _ _ h)).trans h
theorem frzw_alloc {W : World} {a : Addr} {v : Value} (o : Obj) (h : W.cell? a = some v) (hf : W.frozen? a = false) : (W.alloc o).frozen? a = false := ((below_alloc (Below.refl W.heap.size W) o).frozen (World.block_lt_of_cell? _ _ h)).trans hf
theorem keeps_below {W W' : World} (h : Below W.heap.size W W') : KeepsOthers W W' := ⟨h.size, fun k o hk _ => (h.block k (blk_lt hk)).trans hk⟩
set_option maxHeartbeats 4000000 in
set_option maxRecDepth 100000 in
theorem split1_in (n : Nat) (hn : 1 ≤ n) (l b1 b2 b3 : Nat) (s : ByteArray) (hs : Lib.indexByte s.data.toList 32 = -1) (J Jx : List {x : ByteArray // x = s} → World → Prop)
    (hY : ∀ pre x W, J pre W → pre.length < 1 → YieldAt Fence.wide (n - 1) Tryd.prog l #[.string x.1] W fun e W' =>
      (e = .returned (.bool true) ∧ J (pre ++ [x]) W' ∧ True) ∨ (e = .returned (.bool false) ∧ Jx (pre ++ [x]) W'))
    (W : World) (h1 : W.cell? ⟨b1, 0, none⟩ = some (.string ⟨#[32]⟩)) (h2 : W.cell? ⟨b2, 0, none⟩ = some (.string s)) (h0 : J [] W) :
    CallsIn Fence.wide n Tryd.prog 78 #[.func (.yield l) #[] #[], .pointer (some ⟨b1, 0, none⟩), .pointer (some ⟨b2, 0, none⟩), .pointer (some ⟨b3, 0, none⟩)] W fun e W' => (∃ v, e = .returned v) ∧
      ((∃ ys, ys = [⟨s, rfl⟩] ∧ J ys W') ∨ (∃ pre, pre = [⟨s, rfl⟩] ∧ Jx pre W')) := by
  refine callsIn_of_wp Tryd.func78 rfl trivial ?_ rfl
  simp only [Tryd.ntmps78, List.size_toArray, List.length_cons, List.length_nil, Nat.reduceAdd, Nat.reduceSub, Array.replicate_succ, Array.replicate_zero, List.push_toArray, List.append_toArray, List.nil_append, List.cons_append]
  gi_wp2
  gi_loopw [7] (fun v7 wr => wr = W) (fun _ _ => 0)
  case atStart => rfl
  case round =>
    subst hrel
    have HIX : Calls Tryd.prog 80 #[.string s, .string ⟨#[32]⟩] wr fun e w' => e = .returned (.int .i64 (-1)) ∧ w' = wr := by
      rw [← hs]
      exact Tryd.strings_Index_one s 32 wr
    obtain ⟨fn, tmps, assign, body, hy, hR⟩ := hY [] ⟨s, rfl⟩ wr h0 (Nat.zero_lt_one)
    gi_wp2_with (refine ⟨trivial, ?_⟩; gi_at_call 80; refine (callsIn_wide.2 HIX).mono ?_; rintro e w' ⟨rfl, rfl⟩)
    refine hR.mono ?_
    rintro e W3 (⟨rfl, hJ3, _⟩ | ⟨rfl, hJx3⟩)
    · gi_wp2
      go_end0
      exact ⟨⟨_, rfl⟩, .inl ⟨_, rfl, hJ3⟩⟩
    · gi_wp2
      go_end0
      exact ⟨⟨_, rfl⟩, .inr ⟨_, rfl, hJx3⟩⟩
theorem splitSeq_c (s sep : ByteArray) (w : World) :
    Calls Tryd.prog 61 #[.string s, .string sep, .int .i64 0] w fun e w' => (∃ b1 b2 b3, e = .returned (.func (.func 78) #[] #[.pointer (some ⟨b1, 0, none⟩), .pointer (some ⟨b2, 0, none⟩), .pointer (some ⟨b3, 0, none⟩)]) ∧ w'.cell? ⟨b1, 0, none⟩ = some (.string sep) ∧ w'.cell? ⟨b2, 0, none⟩ = some (.string s)) ∧ Below w.heap.size w w' := by
  go_enter Tryd.func61, Tryd.ntmps61
  go_wp2_with fail
  go_ret
  have k0 := cellw_new w (.string s) 9
  have k1 := cellw_new (w.alloc (.cells #[.string s] 9)) (.string sep) 9
  simp only [World.size_alloc] at k1
  exact ⟨⟨_, _, _, rfl, cellw_alloc _ k1.1, cellw_alloc _ (cellw_alloc _ k0.1)⟩, below_alloc (below_alloc (below_alloc (Below.refl _ _) _) _) _⟩
theorem SplitSeq_c (s sep : ByteArray) (w : World) :
    Calls Tryd.prog 38 #[.string s, .string sep] w fun e w' => (∃ b1 b2 b3, e = .returned (.func (.func 78) #[] #[.pointer (some ⟨b1, 0, none⟩), .pointer (some ⟨b2, 0, none⟩), .pointer (some ⟨b3, 0, none⟩)]) ∧ w'.cell? ⟨b1, 0, none⟩ = some (.string sep) ∧ w'.cell? ⟨b2, 0, none⟩ = some (.string s)) ∧ Below w.heap.size w w' := by
  go_enter Tryd.func38, Tryd.ntmps38
  go_wp2_with fail
  refine (splitSeq_c s sep w).mono ?_
  rintro e w1 ⟨⟨b1, b2, b3, rfl, h1, h2⟩, hb⟩
  go_wp2
  go_ret
  exact ⟨⟨b1, b2, b3, rfl, h1, h2⟩, hb⟩
set_option maxHeartbeats 4000000 in
set_option maxRecDepth 100000 in
theorem parse_bad1 (s : ByteArray) (w : World) (hs : s.size ≤ 1000000) (hd' : s.toList ≠ [45]) (hi : Lib.indexByte s.data.toList 32 = -1) (hn : (numL s).length ≠ 5) :
    Calls Tryd.prog 17 #[.string s] w fun e w' => e = .returned (.tuple #[.slice none 0 0, .int .i64 240]) ∧ Below w.heap.size w w' := by
  refine (callsIn_wide (n := 5)).1 ?_
  refine callsIn_of_wp_marks Tryd.func17 rfl trivial ?_ rfl
  simp only [Tryd.ntmps17, List.size_toArray, List.length_cons, List.length_nil, Nat.reduceAdd, Nat.reduceSub, Array.replicate_succ, Array.replicate_zero, List.push_toArray, List.append_toArray, List.nil_append, List.cons_append]
  have HSP := SplitSeq_c s ⟨#[32]⟩
  have hd : (s.toList == [45]) = false := by simpa using hd'
  gi_wp2_with (refine ⟨trivial, ?_⟩; gi_at_call 38; refine (callsIn_wide.2 (HSP _)).mono ?_; rintro e wl ⟨⟨b1, b2, b3, rfl, h1, h2⟩, hb⟩)
  have k0 := cellw_new w (.slice none 0 0) 22
  have k1 := cellw_new (w.alloc (.cells #[.slice none 0 0] 22)) (.int .i64 0) 27
  simp only [World.size_alloc] at k1
  have c0 := (hb.cell (p := ⟨w.heap.size, 0, none⟩) (by simp; omega)).trans (cellw_alloc _ (cellw_alloc _ k0.1))
  have c1 := (hb.cell (p := ⟨w.heap.size + 1, 0, none⟩) (by simp)).trans (cellw_alloc _ k1.1)
  have f0 := (hb.frozen (p := ⟨w.heap.size, 0, none⟩) (by simp; omega)).trans (frzw_alloc _ (cellw_alloc _ k0.1) (frzw_alloc _ k0.1 k0.2))
  have f1 := (hb.frozen (p := ⟨w.heap.size + 1, 0, none⟩) (by simp)).trans (frzw_alloc _ k1.1 k1.2)
  have hB : Below w.heap.size w wl := below_then (below_alloc (below_alloc (below_alloc (Below.refl _ _) _) _) _) (by simp; omega) hb
  have hz : w.heap.size + 3 ≤ wl.heap.size := by have := hb.size; simp at this; omega
  clear hb k0 k1
  refine wpIn_rangeFunc_ownF (F := Fence.wide) rfl (by decide) (gf := 78) (lb := #[.pointer (some ⟨b1, 0, none⟩), .pointer (some ⟨b2, 0, none⟩), .pointer (some ⟨b3, 0, none⟩)]) rfl trivial (enters_of Tryd.func78 (by kernel_rfl) rfl)
    (α := {x : ByteArray // x = s}) (encs := fun x => #[.string x.1]) (Kp := fun _ _ => True) (S := fun xs => xs = [⟨s, rfl⟩]) (Sp := fun xs => xs = [⟨s, rfl⟩]) (N := 1) (w0 := wl)
    (fun l J Jx W hW _ _ hY hJ => split1_in 4 (by decide) l b1 b2 b3 s hi J Jx hY W ((hW.cell (p := ⟨b1, 0, none⟩) (World.block_lt_of_cell? _ _ h1)).trans h1) ((hW.cell (p := ⟨b2, 0, none⟩) (World.block_lt_of_cell? _ _ h2)).trans h2) hJ)
    (fun _ _ => trivial) (fun _ _ _ _ _ _ _ _ => trivial) (Below.refl _ _) (fun _ => rfl)
    (fun pre W => pre = [] ∧ (W.cell? ⟨w.heap.size, 0, none⟩ = some (.slice none 0 0) ∧ W.cell? ⟨w.heap.size + 1, 0, none⟩ = some (.int .i64 0) ∧ W.frozen? ⟨w.heap.size, 0, none⟩ = false ∧ W.frozen? ⟨w.heap.size + 1, 0, none⟩ = false) ∧ Below w.heap.size w W)
    (fun c pre W => c = .ret ∧ (W.cell? ⟨w.heap.size, 0, none⟩ = some (.slice none 0 0) ∧ W.cell? ⟨w.heap.size + 1, 0, none⟩ = some (.int .i64 240)) ∧ Below w.heap.size w W)
    ?hI ?hIx ⟨rfl, ⟨c0, c1, f0, f1⟩, hB⟩
    (fun x => { tmps := #[.string s, undef, .pointer (some ⟨w.heap.size, 0, none⟩), .pointer (some ⟨w.heap.size + 1, 0, none⟩), .pointer (some ⟨w.heap.size + 1 + 1, 0, none⟩), .string x.1, undef, undef, undef, .string s, .bool true, .string s, .func (.func 78) #[] #[.pointer (some ⟨b1, 0, none⟩), .pointer (some ⟨b2, 0, none⟩), .pointer (some ⟨b3, 0, none⟩)], .string x.1, undef, undef, undef, undef, undef, undef, undef, undef, undef, undef, undef, undef, undef, undef, undef, undef, undef, undef, undef, undef, undef, undef, undef, undef, undef, undef, undef, undef, undef, undef, undef, undef, undef, undef, undef, undef, undef], defers := [] }) ?assign ?body ?done ?stop
  case assign =>
    intro l x W K hK
    gi_wp2
    exact hK
  case hI =>
    exact OwnFrom.and (Own.from (fun s A B row hs hg hr => hs) _) (OwnFrom.and (Own.from (fun s A B row hs hg hr => ⟨cell_kept hs.1 hg hr, cell_kept hs.2.1 hg hr, (frozen_kept hs.1 hg hr).trans hs.2.2.1, (frozen_kept hs.2.1 hg hr).trans hs.2.2.2⟩) _) (ownFrom_below (Nat.le_refl _) hB.size))
  case hIx =>
    exact fun c => OwnFrom.and (Own.from (fun s A B row hs hg hr => hs) _) (OwnFrom.and (Own.from (fun s A B row hs hg hr => ⟨cell_kept hs.1 hg hr, cell_kept hs.2 hg hr⟩) _) (ownFrom_below (Nat.le_refl _) hB.size))
  case body =>
    rintro l pre ⟨x, hxs⟩ W ⟨rfl, ⟨e0, e1, g0, g1⟩, hBW⟩ hlt
    subst hxs
    have HNC := numbers_c x W hs
    have HNN := Aside0.mk hn
    gi_wp2_with (refine ⟨trivial, ?_⟩; gi_at_call 39; refine (CallsIn.inRound l (callsIn_wide.2 HNC)).mono ?_; rintro e W2 ⟨v, rfl, hR, hb⟩; obtain ⟨Av, cv, rfl, hlc, _⟩ := Kd.R_reads hR; have hn5 : ((numL x).length : Int) ≠ 5 := (by have := HNN.out; omega); have e0' := (hb.cell (p := ⟨w.heap.size, 0, none⟩) (World.block_lt_of_cell? _ _ e0)).trans e0; have e1' := (hb.cell (p := ⟨w.heap.size + 1, 0, none⟩) (World.block_lt_of_cell? _ _ e1)).trans e1; have g0' := (hb.frozen (p := ⟨w.heap.size, 0, none⟩) (World.block_lt_of_cell? _ _ e0)).trans g0; have g1' := (hb.frozen (p := ⟨w.heap.size + 1, 0, none⟩) (World.block_lt_of_cell? _ _ e1)).trans g1)
    · refine ⟨((keeps_below hb).trans (KeepsOthers.setCell _ _ _)).trans (KeepsOthers.setCell _ _ _), rfl, ⟨?_, ?_⟩, below_set (below_set (below_then hBW hBW.size hb) (Nat.le_refl _)) (Nat.le_succ _)⟩
      · exact (World.cell?_of_block (Below.heap_setCell _ _ _ _ (by simp))).trans (World.cell?_setCell_same' W2 ⟨w.heap.size, 0, none⟩ _ (by rw [e0']; rfl))
      · exact World.cell?_setCell_same' _ _ _ (by rw [World.cell?_of_block (w := W2) (Below.heap_setCell _ _ _ _ (by simp)), e1']; rfl)
  case done =>
    rintro D ys W hlt rfl ⟨h, _⟩ hK
    cases h
  case stop =>
    rintro D c pre W hDlt hpre ⟨rfl, ⟨e0, e1⟩, hBW⟩ hK
    gi_wp2
    refine ⟨by simp, .inl ⟨_, _, rfl, run_takeDeferred hK, ?_⟩⟩
    have hc0 := Go.cell_kept e0 (grownBy_putObj' _ D (.deferred none)) (fun r e => by cases e; exact ⟨_, hK, rfl⟩)
    have hc1 := Go.cell_kept e1 (grownBy_putObj' _ D (.deferred none)) (fun r e => by cases e; exact ⟨_, hK, rfl⟩)
    refine ⟨.tuple #[.slice none 0 0, .int .i64 240], ?_, rfl, hBW.trans (belowK_b (w := w) (Nat.le_refl _) W D _ _ (by omega) hK rfl rfl)⟩
    simp [results, Tryd.f17, go_sem, hc0, hc1]
end Go.Proofs.YtpkcnifchggbnaaDoor.HI
