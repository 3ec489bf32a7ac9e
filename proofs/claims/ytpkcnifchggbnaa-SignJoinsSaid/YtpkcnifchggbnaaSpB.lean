/-
  CONTRACTS BY HAND (sign, 20): slices.Insert at a row of choices: whatever its capacity.
-/
import Derived.Test.YtpkcnifchggbnaaSpA
import Derived.Shelf.RegionOpenPlain
import Derived.Lib.AppendZerosOnto
import Derived.Lib.AppendZeros
import Derived.Lib.Overlaps
import Derived.Lib.Walk
import Derived.Lib.SliceRun
import Derived.Laws.Externs
namespace Go.Proofs.Ytpkcnifchggbnaa.HI
open Go.RowKit Go.Shelf Go.Proofs.Ytpkcnifchggbnaa.HK Go.Proofs.Ytpkcnifchggbnaa.HU Go.Proofs.YtpkcnifchggbnaaW.PrintWords Go.Proofs.YtpkcnifchggbnaaW.PrintLast Go.Proofs.YtpkcnifchggbnaaW.PrintMore
set_option linter.unusedVariables false
set_option linter.unusedSimpArgs false
theorem infoCh : (Try.prog.info? 24).map (fun i => (i.zero, i.size, i.bytes)) = some (some (.agg #[.int .i64 0, .int .i64 0, .int .i64 0, .int .i64 0, .int .i64 0]), 5, 40) := by kernel_rfl
theorem sizeCh : (Try.prog.info? 24).map (·.size) = some 5 := by kernel_rfl
theorem grow_list (A Z T e B : List Value) (p : Nat) (hA : A.length = p) (he : e.length = 5) (hZ : Z.length = 5 + B.length) :
    ((A ++ Z ++ T).take p ++ e ++ (A ++ Z ++ T).drop (p + e.length)).take (p + 5) ++ B ++ ((A ++ Z ++ T).take p ++ e ++ (A ++ Z ++ T).drop (p + e.length)).drop (p + 5 + B.length) = A ++ e ++ B ++ T := by
  have t1 : (A ++ Z ++ T).take p = A := by rw [List.append_assoc]; exact List.take_left' hA
  have t2 : (A ++ Z ++ T).drop (p + 5) = Z.drop 5 ++ T := by
    rw [List.append_assoc, List.drop_append, List.drop_eq_nil_of_le (by omega), List.nil_append, hA, show p + 5 - p = 5 by omega, List.drop_append_of_le_length (by omega)]
  rw [t1, he, t2]
  have t3 : (A ++ e ++ (Z.drop 5 ++ T)).take (p + 5) = A ++ e := List.take_left' (by rw [List.length_append]; omega)
  have t4 : (A ++ e ++ (Z.drop 5 ++ T)).drop (p + 5 + B.length) = T := by
    rw [← List.append_assoc]
    exact List.drop_left' (by rw [List.length_append, List.length_append, List.length_drop]; omega)
  rw [t3, t4]
theorem blk_cells {W : World} {b : Nat} {xs : List Cho} {sp : List Value} (h : Blk W b xs sp) (k : Nat) : W.cell? ⟨b, k, none⟩ = (flat xs ++ sp)[k]? := by
  rw [blk_cell h]
  simp
theorem flat_cell {W : World} {b : Nat} {xs : List Cho} {sp : List Value} (h : Blk W b xs sp) {k : Nat} {v : Value} (hk : (flat xs)[k]? = some v) : W.cell? ⟨b, k, none⟩ = some v := by
  rw [blk_cells h, List.getElem?_append_left (List.getElem?_eq_some_iff.1 hk).1]
  exact hk
set_option maxHeartbeats 8000000 in
set_option maxRecDepth 100000 in
/-- there is room, within the row: in place -/
theorem insert_shift (b c vb i : Nat) (xs : List Cho) (x : Cho) (sp : List Value) (w : World) (hi : i < xs.length) (hroom : xs.length + 1 ≤ c) (hc : c ≤ maxLen) (hs : xs.length * 5 + sp.length = c * 5) (hB : Blk w b xs sp) (hV : w.heap[vb]? = some (.cells (encC x).toArray 24 (0, 0))) (hne : vb ≠ b) :
    Calls Try.prog 37 #[.slice (some ⟨b, 0, none⟩) xs.length c, .int .i64 i, .slice (some ⟨vb, 0, none⟩) 1 1] w fun e w' => e = .returned (.slice (some ⟨b, 0, none⟩) (xs.length + 1) c) ∧ Blk w' b (xs.take i ++ x :: xs.drop i) (sp.drop 5) ∧ Kept w w' (fun k => k = b) ∧ Below b w w' := by
  have hmx : maxLen = 9223372036854775807 := rfl
  have hsp : 5 ≤ sp.length := by omega
  have hdl : (flat (xs.drop i)).length = (xs.length - i) * 5 := by rw [flat_len, List.length_drop]
  have hfl := flat_len xs
  have hov : ∀ lb cb, (callFunc 47 #[.slice (some ⟨vb, 0, none⟩) 1 1, .slice (some ⟨b, (i + 1) * 5, none⟩) lb cb]).run Try.prog w = .ok (.value (.bool false)) w := fun lb cb => by
    rw [run_callFunc_extern Try.func47 (by kernel_rfl) (by kernel_rfl) (by kernel_rfl) (e := Extern.SlicesOverlaps.overlaps #[22, 22] #[4]) (by kernel_rfl)]
    rw [Lib.run_overlaps_apart w 22 4 24 Try.underlying22 5 (by intro w; kernel_rfl) ⟨vb, 0, none⟩ ⟨b, (i + 1) * 5, none⟩ 1 1 lb cb hne _ _ _ _ (by simp [World.shape?, hV]; exact ⟨rfl, rfl⟩) (by unfold Blk at hB; simp [World.shape?, hB]; exact ⟨rfl, rfl⟩) (by omega) (blk_frozen hV _) (blk_frozen hV _)]
    rfl
  obtain ⟨c1, hc1⟩ : ∃ c1, c1 = (flat xs ++ sp).take ((i + 1) * 5) ++ flat (xs.drop i) ++ (flat xs ++ sp).drop ((i + 1) * 5 + (flat (xs.drop i)).length) := ⟨_, rfl⟩
  have hc1l : c1.length = (flat xs ++ sp).length := by
    rw [hc1]
    simp only [List.length_append, List.length_take, List.length_drop, hdl, hfl]
    omega
  have hfin := shift_cells xs x sp i hi hsp
  rw [← hc1] at hfin
  have hB1 : (w.drew.setRow b c1.toArray).heap[b]? = some (.cells c1.toArray 24 (0, 0)) := setRow_heap w.drew b _ _ _ _ hB
  have hV1 : (w.drew.setRow b c1.toArray).heap[vb]? = some (.cells (encC x).toArray 24 (0, 0)) := (setRow_other w.drew b vb _ hne).trans hV
  have hcp1 : ∀ ty nd dc ns sc, min ns nd = xs.length - i → (Builtin.copy_ #[22, 22] ty #[.slice (some ⟨b, (i + 1) * 5, none⟩) nd dc, .slice (some ⟨b, i * 5, none⟩) ns sc]).run Try.prog w.drew = .ok (goInt (xs.length - i : Nat)) (w.drew.setRow b c1.toArray) := fun ty nd dc ns sc hmin => by
    have h := run_copy_at (P := Try.prog) w.drew 22 22 ty 24 5 b ((i + 1) * 5) nd dc ⟨b, i * 5, none⟩ ns sc (xs.length - i) _ _ (flat (xs.drop i)) Try.underlying22 sizeCh hB hmin hdl (fun j v hj => by
      rw [Addr.add_lit]
      refine flat_cell hB ?_
      rw [← flat_drop xs i (by omega), List.getElem?_drop] at hj
      exact hj) (by simp [hfl, hdl]; omega) (flat_one _)
    rw [hc1]
    simpa using h
  have hcp2 : ∀ ty nd dc, 0 < nd → (Builtin.copy_ #[22, 22] ty #[.slice (some ⟨b, i * 5, none⟩) nd dc, .slice (some ⟨vb, 0, none⟩) 1 1]).run Try.prog (w.drew.setRow b c1.toArray) = .ok (goInt (1 : Nat)) ((w.drew.setRow b c1.toArray).setRow b (flat (xs.take i ++ x :: xs.drop i) ++ sp.drop 5).toArray) := fun ty nd dc hnd => by
    have h := run_copy_at (P := Try.prog) (w.drew.setRow b c1.toArray) 22 22 ty 24 5 b (i * 5) nd dc ⟨vb, 0, none⟩ 1 1 1 _ _ (encC x) Try.underlying22 sizeCh hB1 (by omega) rfl (fun j v hj => by
      rw [add_plain, blk_cell hV1]
      simpa using hj) (by
        have : (encC x).length = 5 := rfl
        rw [this, List.size_toArray, hc1l, List.length_append, hfl]
        omega) (flat_one [x])
    rw [h, List.toList_toArray, hfin]
  have hcell : ∀ W : World, W = (w.drew.setRow b c1.toArray).setRow b (flat (xs.take i ++ x :: xs.drop i) ++ sp.drop 5).toArray → Blk W b (xs.take i ++ x :: xs.drop i) (sp.drop 5) ∧ Kept w W (fun k => k = b) ∧ Below b w W := fun W hW => by
    subst hW
    refine ⟨setRow_heap _ b _ _ _ _ hB1, ⟨?_, fun k _ hk => ?_⟩, below_setRow (below_setRow (below_drew (Below.refl b w)) (Nat.le_refl _) _) (Nat.le_refl _) _⟩
    · simp [World.setRow]
    · exact (setRow_other _ b k _ hk).trans (setRow_other w.drew b k _ hk)
  clear hfin hc1l hB1 hV1 hc1
  generalize flat (xs.take i ++ x :: xs.drop i) ++ sp.drop 5 = c2 at hcp2 hcell
  have hw1 : IntKind.i64.wrap ((i : Int) + 1) = (i : Int) + 1 := i64w (by omega) (by omega)
  have hw2 : IntKind.i64.wrap ((xs.length : Int) + 1) = (xs.length : Int) + 1 := i64w (by omega) (by omega)
  have hb1 : (0 : Int) ≤ (i : Int) + 1 := by omega
  have hb5 : (0 : Int) ≤ (xs.length : Int) + 1 := by omega
  have htn : ((i : Int) + 1).toNat = i + 1 := by omega
  have htm : ((xs.length : Int) + 1).toNat = xs.length + 1 := by omega
  have hb2 : ¬ (c = i + 1) := by omega
  have hb3 : (i : Int) ≤ (xs.length : Int) + 1 := by omega
  have hb4 : ¬ (c = i) := by omega
  have hb6 : (i : Int) ≤ (xs.length : Int) := by omega
  have hb7 : (xs.length : Int) + 1 ≤ (c : Int) := by omega
  have hb8 : (i : Int) + 1 ≤ (xs.length : Int) + 1 := by omega
  have hz2 : ¬ ((i : Int) = (xs.length : Int)) := by omega
  have hz9 : ((i : Int) == (xs.length : Int)) = false := beq_eq_false_iff_ne.2 hz2
  have hz3 : ¬ ((c : Int) < (xs.length : Int) + 1) := by omega
  have mixed : Try.prog.follows .mixedOrders = true := by kernel_rfl
  go_enter Try.func37, Try.ntmps37
  go_wp2_with (simp only [hov])
  go_region_law_o (refine step_copy_runC rfl _ _ 22 22 rfl (.slice (some ⟨b, (i + 1) * 5, none⟩) (xs.length + 1 - (i + 1)) (c - (i + 1))) (.slice (some ⟨b, i * 5, none⟩) (xs.length + 1 - i) (c - i)) (by simp [Act.eval, Act.put]) (by simp [Act.eval, Act.put]) (hcp1 _ _ _ _ _ (by omega)) ?_)
  have hcp3 := fun ty dc => hcp2 ty (xs.length + 1 - i) dc (by omega)
  go_wp2_with (simp only [hcp3])
  go_ret
  exact ⟨rfl, hcell _ rfl⟩
theorem zero_len (n : Nat) : (Builtin.zeroCells (Value.agg #[.int .i64 0, .int .i64 0, .int .i64 0, .int .i64 0, .int .i64 0]).cells n).toList.length = n * 5 := by
  simp [Builtin.zeroCells, Value.cells]
set_option maxHeartbeats 8000000 in
set_option maxRecDepth 100000 in
/-- there is no room, within the row: a new row -/
theorem insert_grow (b c vb i : Nat) (xs : List Cho) (x : Cho) (sp : List Value) (w : World) (hi : i < xs.length) (hcn : xs.length ≤ c) (hroom : c < xs.length + 1) (hl : xs.length ≤ 100000) (hB : Blk w b xs sp) (hV : w.heap[vb]? = some (.cells (encC x).toArray 24 (0, 0))) :
    Calls Try.prog 37 #[.slice (some ⟨b, 0, none⟩) xs.length c, .int .i64 i, .slice (some ⟨vb, 0, none⟩) 1 1] w fun e w' => ∃ (G : Nat) (tl : List Value), e = .returned (.slice (some ⟨w.heap.size, 0, none⟩) (xs.length + 1) G) ∧ Blk w' w.heap.size (xs.take i ++ x :: xs.drop i) tl ∧ G ≤ maxLen ∧ (xs.length + 1) * 5 + tl.length = G * 5 ∧ Below w.heap.size w w' := by
  have hmx : maxLen = 9223372036854775807 := rfl
  have hdl : (flat (xs.drop i)).length = (xs.length - i) * 5 := by rw [flat_len, List.length_drop]
  have htk : (flat (xs.take i)).length = i * 5 := by rw [flat_len, List.length_take, Nat.min_eq_left (by omega)]
  obtain ⟨i0, hi0, hzz⟩ := Option.map_eq_some_iff.1 infoCh
  simp only [Prod.mk.injEq] at hzz
  obtain ⟨hz0, hzs, hzb⟩ := hzz
  have hbw := blk_lt hB
  have hvw := blk_lt hV
  have hik : i + (xs.length + 1 - i) = xs.length + 1 := by omega
  have hkk : (xs.length : Int) + 1 - (i : Int) = ((xs.length + 1 - i : Nat) : Int) := by omega
  have hold : (Builtin.firstCells i0.size i (.slice (some ⟨b, 0, none⟩) i c)).run Try.prog w.drew = .ok (flat (xs.take i)).toArray w.drew := by
    rw [hzs]
    exact run_firstCells_some w.drew 5 i ⟨b, 0, none⟩ i c (flat (xs.take i)) htk (fun j v hj => by
      rw [add_plain]
      refine flat_cell (W := w) hB ?_
      rw [← flat_take xs i (by omega), List.getElem?_take] at hj
      split at hj
      · exact hj
      · cases hj)
  obtain ⟨G, hG⟩ : ∃ G, G = grownCap w (xs.length + 1) c 24 := ⟨_, rfl⟩
  obtain ⟨Z, hZ⟩ : ∃ Z, Z = (Builtin.zeroCells (Value.agg #[.int .i64 0, .int .i64 0, .int .i64 0, .int .i64 0, .int .i64 0]).cells (xs.length + 1 - i)).toList := ⟨_, rfl⟩
  obtain ⟨T, hT⟩ : ∃ T, T = (Builtin.zeroCells (Value.agg #[.int .i64 0, .int .i64 0, .int .i64 0, .int .i64 0, .int .i64 0]).cells (G - (xs.length + 1))).toList := ⟨_, rfl⟩
  have hZl : Z.length = (xs.length + 1 - i) * 5 := by rw [hZ]; exact zero_len _
  have hTl : T.length = (G - (xs.length + 1)) * 5 := by rw [hT]; exact zero_len _
  have hrz : ∀ ty, (Builtin.append_ #[22, 3] ty #[.slice (some ⟨b, 0, none⟩) i c, .int .i64 ((xs.length : Int) + 1 - (i : Int))]).run Try.prog w =
      .ok (.slice (some ⟨w.heap.size, 0, none⟩) (xs.length + 1) G) (w.drew.alloc (.cells (flat (xs.take i) ++ Z ++ T).toArray 24)) := fun ty => by
    have h := Lib.run_append_grow_zeros w 22 3 ty 24 i0 _ .i64 .i64 Try.underlying22 Try.underlying3 hi0 hz0 (some ⟨b, 0, none⟩) i c (flat (xs.take i)) hold (xs.length + 1 - i) (by omega) (by omega) (by omega) (by omega) (by rw [hzb]; omega) (by rw [hzb, hik]; exact growslice_fits hroom (by omega))
    rw [hik, ← hG] at h
    rw [hkk, h]
    congr 3
    rw [hZ, hT]
    simp
  have hGn : xs.length + 1 ≤ G := by rw [hG]; exact grownCap_ge w _ _ _
  have hG63 : G ≤ maxLen := by rw [hG]; exact grownCap_le_maxLen w _ _ _ (by omega)
  have hall := grow_list (flat (xs.take i)) Z T (encC x) (flat (xs.drop i)) (i * 5) htk rfl (by rw [hZl, hdl]; omega)
  obtain ⟨ROW, hROW⟩ : ∃ ROW, ROW = flat (xs.take i) ++ Z ++ T := ⟨_, rfl⟩
  have hRl : ROW.length = G * 5 := by rw [hROW]; simp only [List.length_append, htk, hZl, hTl]; omega
  rw [← hROW] at hrz hall
  obtain ⟨c1, hc1⟩ : ∃ c1, c1 = ROW.take (i * 5) ++ encC x ++ ROW.drop (i * 5 + (encC x).length) := ⟨_, rfl⟩
  have he5 : (encC x).length = 5 := rfl
  have hc1l : c1.length = G * 5 := by
    rw [hc1]
    simp only [List.length_append, List.length_take, List.length_drop, he5, hRl]
    omega
  rw [← hc1] at hall
  have hN : (w.drew.alloc (.cells ROW.toArray 24)).heap[w.heap.size]? = some (.cells ROW.toArray 24 (0, 0)) := blk_new w.drew _
  have hcpA : ∀ ty nd dc, 0 < nd → (Builtin.copy_ #[22, 22] ty #[.slice (some ⟨w.heap.size, i * 5, none⟩) nd dc, .slice (some ⟨vb, 0, none⟩) 1 1]).run Try.prog (w.drew.alloc (.cells ROW.toArray 24)) = .ok (goInt (1 : Nat)) ((w.drew.alloc (.cells ROW.toArray 24)).setRow w.heap.size c1.toArray) := fun ty nd dc hnd => by
    have h := run_copy_at (P := Try.prog) (w.drew.alloc (.cells ROW.toArray 24)) 22 22 ty 24 5 w.heap.size (i * 5) nd dc ⟨vb, 0, none⟩ 1 1 1 _ _ (encC x) Try.underlying22 sizeCh hN (by omega) rfl (fun j v hj => by
      rw [add_plain, blk_cell (blk_alloc (w := w.drew) hV _)]
      simpa using hj) (by rw [he5, List.size_toArray, hRl]; omega) (flat_one [x])
    rw [h, List.toList_toArray, ← hc1]
  have hN1 : (((w.drew.alloc (.cells ROW.toArray 24)).setRow w.heap.size c1.toArray).drew).heap[w.heap.size]? = some (.cells c1.toArray 24 (0, 0)) := setRow_heap (w.drew.alloc (.cells ROW.toArray 24)) w.heap.size _ _ _ _ hN
  have hB1 : Blk (((w.drew.alloc (.cells ROW.toArray 24)).setRow w.heap.size c1.toArray).drew) b xs sp := (setRow_other (w.drew.alloc (.cells ROW.toArray 24)) w.heap.size b _ (by omega)).trans (blk_alloc (w := w.drew) hB _)
  have hcpB : ∀ ty nd dc ns sc, min ns nd = xs.length - i → (Builtin.copy_ #[22, 22] ty #[.slice (some ⟨w.heap.size, (i + 1) * 5, none⟩) nd dc, .slice (some ⟨b, i * 5, none⟩) ns sc]).run Try.prog (((w.drew.alloc (.cells ROW.toArray 24)).setRow w.heap.size c1.toArray).drew) = .ok (goInt (xs.length - i : Nat)) ((((w.drew.alloc (.cells ROW.toArray 24)).setRow w.heap.size c1.toArray).drew).setRow w.heap.size (flat (xs.take i ++ x :: xs.drop i) ++ T).toArray) := fun ty nd dc ns sc hmin => by
    have h := run_copy_at (P := Try.prog) (((w.drew.alloc (.cells ROW.toArray 24)).setRow w.heap.size c1.toArray).drew) 22 22 ty 24 5 w.heap.size ((i + 1) * 5) nd dc ⟨b, i * 5, none⟩ ns sc (xs.length - i) _ _ (flat (xs.drop i)) Try.underlying22 sizeCh hN1 hmin hdl (fun j v hj => by
      rw [Addr.add_lit]
      refine flat_cell hB1 ?_
      rw [← flat_drop xs i (by omega), List.getElem?_drop] at hj
      exact hj) (by rw [hdl, List.size_toArray, hc1l]; omega) (flat_one _)
    rw [h, List.toList_toArray, show (i + 1) * 5 = i * 5 + 5 by omega, hall, flat_app]
    congr 4
    show _ = flat (xs.take i) ++ (encC x ++ flat (xs.drop i))
    simp only [List.append_assoc]
  have hfin : ∀ W : World, W = (((w.drew.alloc (.cells ROW.toArray 24)).setRow w.heap.size c1.toArray).drew).setRow w.heap.size (flat (xs.take i ++ x :: xs.drop i) ++ T).toArray → Blk W w.heap.size (xs.take i ++ x :: xs.drop i) T ∧ Below w.heap.size w W := fun W hW => by
    subst hW
    exact ⟨setRow_heap _ w.heap.size _ _ _ _ hN1, below_setRow (below_drew (below_setRow (below_alloc (below_drew (Below.refl _ _)) _) (Nat.le_refl _) _)) (Nat.le_refl _) _⟩
  have hTG : (xs.length + 1) * 5 + T.length = G * 5 := by rw [hTl]; omega
  clear hold hall hc1 hROW hZ hT hG hN hN1 hB1 hc1l hRl he5 hZl hTl hkk hik hi0 hz0 hzs hzb htk
  generalize flat (xs.take i ++ x :: xs.drop i) ++ T = c2 at hcpB hfin
  have hw1 : IntKind.i64.wrap ((i : Int) + 1) = (i : Int) + 1 := i64w (by omega) (by omega)
  have hw2 : IntKind.i64.wrap ((xs.length : Int) + 1) = (xs.length : Int) + 1 := i64w (by omega) (by omega)
  have hw3 : IntKind.i64.wrap ((xs.length : Int) + 1 - (i : Int)) = (xs.length : Int) + 1 - (i : Int) := i64w (by omega) (by omega)
  have hb1 : (0 : Int) ≤ (i : Int) + 1 := by omega
  have htn : ((i : Int) + 1).toNat = i + 1 := by omega
  have hb2 : ¬ (G = i + 1) := by omega
  have hb3 : ¬ (G = i) := by omega
  have hb4 : ¬ (c = i) := by omega
  have hb6 : (i : Int) ≤ (xs.length : Int) := by omega
  have hb7 : (i : Int) ≤ (xs.length : Int) + 1 := by omega
  have hb8 : (i : Int) + 1 ≤ (xs.length : Int) + 1 := by omega
  have hz2 : ¬ ((i : Int) = (xs.length : Int)) := by omega
  have hz9 : ((i : Int) == (xs.length : Int)) = false := beq_eq_false_iff_ne.2 hz2
  have hz3 : (c : Int) < (xs.length : Int) + 1 := by omega
  have mixed : Try.prog.follows .mixedOrders = true := by kernel_rfl
  have hcpA1 : ∀ ty dc, (Builtin.copy_ #[22, 22] ty #[.slice (some ⟨w.heap.size, i * 5, none⟩) (xs.length + 1 - i) dc, .slice (some ⟨vb, 0, none⟩) 1 1]).run Try.prog ((w.alloc (.cells ROW.toArray 24)).drew) = .ok (goInt (1 : Nat)) ((w.drew.alloc (.cells ROW.toArray 24)).setRow w.heap.size c1.toArray) := fun ty dc => hcpA ty (xs.length + 1 - i) dc (by omega)
  go_enter Try.func37, Try.ntmps37
  go_wp2_with (first
    | (at_builtin; refine Lib.wpList_append_run _ rfl _ _ _ _ rfl _ _ rfl rfl _ _ (hrz _) ?_)
    | simp only [hcpA1])
  go_region_law_o (refine step_copy_runC rfl _ _ 22 22 rfl (.slice (some ⟨w.heap.size, (i + 1) * 5, none⟩) (xs.length + 1 - (i + 1)) (G - (i + 1))) (.slice (some ⟨b, i * 5, none⟩) (xs.length - i) (c - i)) (by simp [Act.eval, Act.put]) (by simp [Act.eval, Act.put]) (hcpB _ _ _ _ _ (by omega)) ?_)
  go_wp2
  go_ret
  exact ⟨G, T, rfl, (hfin _ rfl).1, hG63, hTG, (hfin _ rfl).2⟩
theorem one_C {w : World} {vb : Nat} {x : Cho} (hV : w.heap[vb]? = some (.cells (encC x).toArray 24 (0, 0))) : Kd.C k24 w (some ⟨vb, 0, none⟩) 1 [x] := by
  refine ⟨rfl, by decide, fun _ => ⟨⟨vb, 0, none⟩, rfl, fun j p hj => ?_⟩⟩
  cases j with
  | zero =>
    obtain rfl : x = p := by simpa using hj
    refine ⟨encC x, rfl, k24_mk w x, fun i u hu => ?_⟩
    rw [add_plain, blk_cell hV]
    simpa using hu
  | succ n => simp at hj
set_option maxHeartbeats 8000000 in
set_option maxRecDepth 100000 in
/-- at the end -/
theorem insert_end (base vb : Nat) (v : Value) (xs : List Cho) (x : Cho) (w : World) (hR : Kd.R k24 24 w base (fun _ => True) v xs) (hb : base ≤ w.heap.size) (hl : xs.length ≤ 100000) (hV : w.heap[vb]? = some (.cells (encC x).toArray 24 (0, 0))) :
    Calls Try.prog 37 #[v, .int .i64 xs.length, .slice (some ⟨vb, 0, none⟩) 1 1] w fun e w' => ∃ v', e = .returned v' ∧ Kd.R k24 24 w' base (fun _ => True) v' (xs ++ [x]) ∧ Below base w w' := by
  have HR := Aside0.mk hR
  have HV := Aside0.mk (one_C hV)
  have hz9 : ((xs.length : Int) == (xs.length : Int)) = true := by simp
  rcases R_block hR with ⟨hv, hx0⟩ | ⟨b, c, sp, hv, _, _, _, hcn, hcm, _⟩
  · subst hv
    subst hx0
    clear hR hV hz9
    go_enter Try.func37, Try.ntmps37
    go_wp2_with (at_builtin; refine Kd.R_append_rows k24 (w0 := w) base rfl (.tmp 23) (.tmp 24) 22 24 (.agg #[.int .i64 0, .int .i64 0, .int .i64 0, .int .i64 0, .int .i64 0]) 40 rfl Try.underlying22 infoCh rfl (by decide) (by decide) (.slice none 0 0) [] [x] (some ⟨vb, 0, none⟩) 1 1 (fun _ => True) (fun _ => False) rfl rfl HR.out HV.out (fun _ _ h => h) (fun _ h => h.elim) (fun _ _ => trivial) (Below.refl _ _) hb (by simp) ?_; intro v1 w1 ho hb1 hg hat; have HO := Aside0.mk ho; have HB := Aside0.mk hb1; clear ho hb1 hg hat)
    go_ret
    exact ⟨_, rfl, HO.out, HB.out⟩
  · subst hv
    clear hR hV
    have hmx : maxLen = 9223372036854775807 := rfl
    by_cases hce : c = xs.length
    · subst hce
      go_enter Try.func37, Try.ntmps37
      go_wp2_with (at_builtin; refine Kd.R_append_rows k24 (w0 := w) base rfl (.tmp 23) (.tmp 24) 22 24 (.agg #[.int .i64 0, .int .i64 0, .int .i64 0, .int .i64 0, .int .i64 0]) 40 rfl Try.underlying22 infoCh rfl (by decide) (by decide) (.slice (some ⟨b, 0, none⟩) xs.length xs.length) xs [x] (some ⟨vb, 0, none⟩) 1 1 (fun _ => True) (fun _ => False) rfl rfl HR.out HV.out (fun _ _ h => h) (fun _ h => h.elim) (fun _ _ => trivial) (Below.refl _ _) hb (by omega) ?_; intro v1 w1 ho hb1 hg hat; have HO := Aside0.mk ho; have HB := Aside0.mk hb1; clear ho hb1 hg hat)
      go_ret
      exact ⟨_, rfl, HO.out, HB.out⟩
    · go_enter Try.func37, Try.ntmps37
      go_wp2_with (at_builtin; refine Kd.R_append_rows k24 (w0 := w) base rfl (.tmp 23) (.tmp 24) 22 24 (.agg #[.int .i64 0, .int .i64 0, .int .i64 0, .int .i64 0, .int .i64 0]) 40 rfl Try.underlying22 infoCh rfl (by decide) (by decide) (.slice (some ⟨b, 0, none⟩) xs.length c) xs [x] (some ⟨vb, 0, none⟩) 1 1 (fun _ => True) (fun _ => False) rfl rfl HR.out HV.out (fun _ _ h => h) (fun _ h => h.elim) (fun _ _ => trivial) (Below.refl _ _) hb (by omega) ?_; intro v1 w1 ho hb1 hg hat; have HO := Aside0.mk ho; have HB := Aside0.mk hb1; clear ho hb1 hg hat)
      go_ret
      exact ⟨_, rfl, HO.out, HB.out⟩
/-- Insert, wherever, whatever the capacity -/
theorem insert_c (base vb i : Nat) (v : Value) (xs : List Cho) (x : Cho) (w : World) (hi : i ≤ xs.length) (hR : Kd.R k24 24 w base (fun _ => True) v xs) (hb : base ≤ w.heap.size) (hl : xs.length ≤ 100000) (hV : w.heap[vb]? = some (.cells (encC x).toArray 24 (0, 0))) (hne : v.ownBlock ≠ some vb) :
    Calls Try.prog 37 #[v, .int .i64 i, .slice (some ⟨vb, 0, none⟩) 1 1] w fun e w' => ∃ v', e = .returned v' ∧ Kd.R k24 24 w' base (fun _ => True) v' (xs.take i ++ x :: xs.drop i) ∧ Below base w w' := by
  by_cases he : i = xs.length
  · subst he
    rw [List.take_length, List.drop_length]
    exact insert_end base vb v xs x w hR hb hl hV
  · rcases R_block hR with ⟨hv, hx0⟩ | ⟨b, c, sp, hv, hB, hbb, _, hcn, hcm, hs⟩
    · subst hx0
      simp at hi
      subst hi
      exact absurd rfl he
    · subst hv
      have hlen : (xs.take i ++ x :: xs.drop i).length = xs.length + 1 := by
        rw [List.length_append, List.length_cons, List.length_take, List.length_drop, Nat.min_eq_left hi]
        omega
      by_cases hroom : xs.length + 1 ≤ c
      · refine (insert_shift b c vb i xs x sp w (by omega) hroom hcm hs hB hV (fun h => hne (by rw [h]; rfl))).mono ?_
        rintro e w' ⟨rfl, hB', hk, hbl⟩
        have := R_of_block (c := c) (ok := fun _ => True) hB' hbb trivial hcm (by rw [hlen, List.length_drop]; omega)
        rw [hlen] at this
        exact ⟨_, rfl, this, hbl.mono hbb⟩
      · refine (insert_grow b c vb i xs x sp w (by omega) hcn (by omega) hl hB hV).mono ?_
        rintro e w' ⟨G, tl, rfl, hB', hG, ht, hbl⟩
        have := R_of_block (c := G) (ok := fun _ => True) hB' hb trivial hG (by rw [hlen]; exact ht)
        rw [hlen] at this
        exact ⟨_, rfl, this, hbl.mono hb⟩
end Go.Proofs.Ytpkcnifchggbnaa.HI
