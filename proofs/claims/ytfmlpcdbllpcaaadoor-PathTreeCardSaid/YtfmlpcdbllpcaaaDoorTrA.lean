/-
  CONTRACTS BY HAND (trees, 1): a point of so many values.
-/
import Derived.Test.YtfmlpcdbllpcaaaDoorPuE
import Derived.Test.YtfmlpcdbllpcaaaDoorPlB
import Derived.Test.YtfmlpcdbllpcaaaDoorTxA
namespace Go.Proofs.YtfmlpcdbllpcaaaDoor.HX
open Go.Proofs.YtfmlpcdbllpcaaaDoor.HD Go.Proofs.YtfmlpcdbllpcaaaDoor.HU Go.RowKit Go.Proofs.YtfmlpcdbllpcaaaDoor.HK Go.Proofs.YtfmlpcdbllpcaaaDoor.HP Go.Proofs.YtfmlpcdbllpcaaaDoorW.PrintWords Go.Proofs.YtfmlpcdbllpcaaaDoorW.PrintLast Go.Proofs.YtfmlpcdbllpcaaaDoorW.PrintMore
set_option linter.unusedVariables false
set_option linter.unusedSimpArgs false
def chL (r q : Int) (m : Nat) : List Ch := (List.range m).map (fun i : Nat => ⟨r, q, (i : Int), 0, 0⟩)
theorem chL_len (r q : Int) (m : Nat) : (chL r q m).length = m := by simp [chL]
theorem chL_succ (r q : Int) (m : Nat) : chL r q (m + 1) = chL r q m ++ [⟨r, q, (m : Int), 0, 0⟩] := by simp [chL, List.range_succ]
theorem infoCh : (Tryd.prog.info? 49).map (fun i => (i.zero, i.size, i.bytes)) = some (some (.agg #[.int .i64 0, .int .i64 0, .int .i64 0, .int .i64 0, .int .i64 0]), 5, 40) := by kernel_rfl
theorem E43p : ∀ q, q ∈ 49 :: (k49).E → q ≠ 38 := by decide
set_option maxHeartbeats 4000000 in
theorem point_c (r q : Int) (m : Nat) (hm : m ≤ 100) (w : World) :
    Calls Tryd.prog 15 #[.int .i64 r, .int .i64 q, .int .i64 m] w fun e w' => ∃ A c, e = .returned (.agg #[.int .i64 r, .int .i64 q, .slice A m c]) ∧ m ≤ c ∧ Kd.C k49 w' A m (chL r q m) ∧ Below w.heap.size w w' := by
  go_enter Tryd.func15, Tryd.ntmps15
  go_wp2_with fail
  have B6 := Aside0.mk (blk_alloc (blk_new w (.cells #[.int .i64 0, .int .i64 0, .slice none 0 0] 38)) (.cells #[.int .i64 r, .int .i64 q, .slice none 0 0] 38))
  have B7 := Aside0.mk (blk_second w (.cells #[.int .i64 0, .int .i64 0, .slice none 0 0] 38) (.cells #[.int .i64 r, .int .i64 q, .slice none 0 0] 38))
  have HL0 := Aside0.mk (below_alloc2 w (.cells #[.int .i64 0, .int .i64 0, .slice none 0 0] 38) (.cells #[.int .i64 r, .int .i64 q, .slice none 0 0] 38))
  have HZ0 : Aside0 (w.heap.size + 2 ≤ ((w.alloc (.cells #[.int .i64 0, .int .i64 0, .slice none 0 0] 38)).alloc (.cells #[.int .i64 r, .int .i64 q, .slice none 0 0] 38)).heap.size) := ⟨by rw [World.size_alloc, World.size_alloc]; omega⟩
  generalize (w.alloc (.cells #[.int .i64 0, .int .i64 0, .slice none 0 0] 38)).alloc (.cells #[.int .i64 r, .int .i64 q, .slice none 0 0] 38) = w1 at B6 B7 HL0 HZ0 ⊢
  go_loopw [8] (fun v8 wr => ∃ (i : Nat) (v : Value), i ≤ m ∧ v8 = .int .i64 i ∧ Aside0 (wr.heap[w.heap.size]? = some (.cells #[.int .i64 0, .int .i64 0, .slice none 0 0] 38 (0, 0))) ∧ Aside0 (wr.heap[w.heap.size + 1]? = some (.cells #[.int .i64 r, .int .i64 q, v] 38 (0, 0))) ∧ Aside0 (Kd.R k49 49 wr (w.heap.size + 2) (fun _ => True) v (chL r q i)) ∧ Aside0 (Below w.heap.size w wr) ∧ Aside0 (w.heap.size + 2 ≤ wr.heap.size)) (fun v8 _ => m - (intOf v8).toNat)
  case atStart => exact ⟨0, _, by omega, rfl, B6, B7, ⟨Kd.R_nil _ _ _ _ _⟩, HL0, HZ0⟩
  case round =>
    clear B6 B7 HL0 HZ0
    obtain ⟨i, v, hi, rfl, B6, B7, HR, HL, HZ⟩ := hrel
    obtain ⟨w2, rfl⟩ : ∃ w2 : World, w2 = wr := ⟨_, rfl⟩
    have p0 := (blk_cell B7.out 0).trans rfl
    have p1 := (blk_cell B7.out 1).trans rfl
    have p2 := (blk_cell B7.out 2).trans rfl
    have f2 := blk_frozen B7.out 2
    have z0 := (blk_cell B6.out 0).trans rfl
    have z1 := (blk_cell B6.out 1).trans rfl
    have z2 := (blk_cell B6.out 2).trans rfl
    by_cases him : i < m
    · have hi64 : IntKind.i64.wrap ((i : Int) + 1) = (i : Int) + 1 := i64w (by omega) (by omega)
      have hcl := chL_len r q i
      have hk : ((chL r q i).length + 1) * 40 ≤ 140737488355328 := by omega
      have hz := HZ.out
      clear hcl z0 z1 z2
      go_wp2_with (at_builtin; refine Kd.R_append k49 (w0 := w2) (w.heap.size + 2) rfl (.tmp 18) (.tmp 23) 36 49 (.agg #[.int .i64 0, .int .i64 0, .int .i64 0, .int .i64 0, .int .i64 0]) 40 rfl Tryd.underlying36 infoCh rfl (by decide) (by decide) v (chL r q i) ⟨r, q, (i : Int), 0, 0⟩ [.int .i64 r, .int .i64 q, .int .i64 i, .int .i64 0, .int .i64 0] (fun _ => True) (fun _ => False) rfl rfl (k49_mkM _ _ _ ⟨r, q, (i : Int), 0, 0⟩) (fun _ h => h.elim) (fun _ _ => trivial) HR.out (Below.refl _ _) hz hk ?_; intro v1 w5 ho hbl hgr hat; rw [← chL_succ] at ho; obtain ⟨An, cn, hv1, hcn, _⟩ := Kd.R_reads ho; subst hv1; have B65 := Aside0.mk ((hbl.block _ (by omega)).trans B6.out); have B75 := Aside0.mk ((hbl.block _ (by omega)).trans B7.out); have q2 := (blk_cell B75.out 2).trans rfl; have g2 := blk_frozen B75.out 2; have HO := Aside0.mk ho; have HS5 := Aside0.mk hbl.size; have HL5 := Aside0.mk (HL.out.trans (hbl.mono (Nat.le_add_right _ 2))); clear ho hbl hgr hat)
      refine ⟨⟨i + 1, .slice An (chL r q (i + 1)).length cn, by omega, by go_num, ⟨blk_far B65.out (p := ⟨w.heap.size + 1, 2, none⟩) (by show w.heap.size ≠ w.heap.size + 1; omega) _⟩, ⟨blk_put B75.out 2 _ rfl⟩, ⟨Kd.R_set HO.out B75.out E43p 2 _⟩, ⟨HL5.out.setCell (p := ⟨w.heap.size + 1, 2, none⟩) (Nat.le_succ _) _⟩, ⟨by have := HS5.out; rw [World.size_setCell]; omega⟩⟩, ?_⟩
      simp [intOf]
      omega
    · obtain rfl : i = m := by omega
      obtain ⟨An, cn, hv1, hcn, hC⟩ := Kd.R_reads HR.out
      subst hv1
      have HC := Aside0.mk hC
      have g0 := blk_frozen B6.out 0
      have g1 := blk_frozen B6.out 1
      have g2 := blk_frozen B6.out 2
      rw [chL_len] at hcn HC
      have hcl := chL_len r q i
      clear hC
      go_wp2
      have E1 := blk_put (cs' := #[.int .i64 r, .int .i64 0, .slice none 0 0]) B6.out 0 (.int .i64 r) rfl
      have E2 := blk_put (cs' := #[.int .i64 r, .int .i64 q, .slice none 0 0]) E1 1 (.int .i64 q) rfl
      have E3 := blk_put (cs' := #[.int .i64 r, .int .i64 q, .slice An i cn]) E2 2 (.slice An i cn) rfl
      have R3 := Kd.R_set (Kd.R_set (Kd.R_set HR.out B6.out E43p 0 (.int .i64 r)) E1 E43p 1 (.int .i64 q)) E2 E43p 2 (.slice An i cn)
      have hC3 := (Kd.R_reads' R3).2.2
      rw [chL_len] at hC3
      have HL3 := (((HL.out.setCell (p := ⟨w.heap.size, 0, none⟩) (Nat.le_refl _) (.int .i64 r)).setCell (p := ⟨w.heap.size, 1, none⟩) (Nat.le_refl _) (.int .i64 q)).setCell (p := ⟨w.heap.size, 2, none⟩) (Nat.le_refl _) (.slice An i cn))
      refine bodyPost_ret (results_single rfl (.cell w.heap.size 38 _ (0, 0) _ rfl E3 Tryd.underlying38 rfl (by kernel_rfl) .nil)) rfl ?_
      exact ⟨An, cn, rfl, hcn, hC3, HL3⟩
end Go.Proofs.YtfmlpcdbllpcaaaDoor.HX
