/-
  CONTRACTS BY HAND (sign, 40): points as the sort asks for it; slices.SortFunc over a row of choices.
-/
import Derived.Test.YtpkcnifchggbnaaSpC
import Derived.Test.YtpkcnifchggbnaaSort
import Derived.Shelf.SlSortCmp.NoneTotal
import Derived.Deep.RegionHeld3
import Derived.Deep.LoopGhost
namespace Go.Proofs.Ytpkcnifchggbnaa.HT
open Go.Proofs Go.Shelf Go.RowKit Go.Lib Go.Sort Go.Proofs.Ytpkcnifchggbnaa.HD Go.Proofs.Ytpkcnifchggbnaa.HI Go.Proofs.Ytpkcnifchggbnaa.HK Go.Proofs.Ytpkcnifchggbnaa.HU Go.Proofs.YtpkcnifchggbnaaW.PrintWords Go.Proofs.YtpkcnifchggbnaaW.PrintLast Go.Proofs.YtpkcnifchggbnaaW.PrintMore
set_option linter.unusedVariables false
set_option linter.unusedSimpArgs false
set_option linter.unusedSectionVars false
instance : Inhabited Cho := ⟨⟨0, 0, 0, 0, 0⟩⟩
theorem nan_g (x : Int) (w : World) : Calls Try.prog 49 #[.int .i64 x] w fun e w' => e = .returned (.bool false) ∧ w = w' := by
  go_enter Try.func49, Try.ntmps49
  have h : (x != x) = false := by simp
  go_wp2
  go_ret
  exact ⟨rfl, rfl⟩
theorem compare_g (x y : Int) (w : World) : Calls Try.prog 41 #[.int .i64 x, .int .i64 y] w fun e w' => e = .returned (.int .i64 (compareInt x y)) ∧ w = w' := by
  go_enter Try.func41, Try.ntmps41
  go_wp2_with fail
  refine (nan_g x w).mono ?_
  rintro e w1 ⟨rfl, rfl⟩
  go_wp2_with fail
  refine (nan_g y w).mono ?_
  rintro e w1 ⟨rfl, rfl⟩
  by_cases h1 : x < y
  · have e1 : compareInt x y = -1 := by unfold compareInt; rw [if_pos h1]
    go_wp2
    go_ret
    exact ⟨by rw [e1]; rfl, rfl⟩
  · by_cases h2 : y < x
    · have e1 : compareInt x y = 1 := by unfold compareInt; rw [if_neg h1, if_pos h2]
      go_wp2
      go_ret
      exact ⟨by rw [e1]; rfl, rfl⟩
    · have e1 : compareInt x y = 0 := by unfold compareInt; rw [if_neg h1, if_neg h2]
      go_wp2
      go_ret
      exact ⟨by rw [e1]; rfl, rfl⟩
def orG (a b : Int) : Int := if a = 0 then b else a
theorem or_g (b : Nat) (x y : Int) (w : World) (h0 : w.cell? ⟨b, 0, none⟩ = some (.int .i64 x)) (h1 : w.cell? ⟨b, 1, none⟩ = some (.int .i64 y)) : Calls Try.prog 40 #[.slice (some ⟨b, 0, none⟩) 2 2] w fun e w' => e = .returned (.int .i64 (orG x y)) ∧ w = w' := by
  go_enter Try.func40, Try.ntmps40
  go_wp2
  go_loopw [8] (fun s8 wr => ∃ i : Nat, s8 = .int .i64 i ∧ i ≤ 2 ∧ (0 < i → x = 0) ∧ (1 < i → y = 0) ∧ wr = w) (fun s8 _ => 2 - (intOf s8).toNat)
  case atStart => exact ⟨0, rfl, by omega, by omega, by omega, rfl⟩
  case round =>
    obtain ⟨i, rfl, hi, hx, hy, rfl⟩ := hrel
    rcases (by omega : i = 0 ∨ i = 1 ∨ i = 2) with rfl | rfl | rfl
    · by_cases hx0 : x = 0
      · subst hx0
        go_wp2
        go_roundw
        case rel => exact ⟨1, by go_num, by omega, by simp, by omega, by first | rfl | trivial⟩
        case measure => simp [intOf]
      · have e1 : (x != 0) = true := by simpa using hx0
        have e2 : orG x y = x := by unfold orG; rw [if_neg hx0]
        clear hx hy
        go_wp2
        go_ret
        exact ⟨by rw [e2]; rfl, rfl⟩
    · obtain rfl := hx (by omega)
      by_cases hy0 : y = 0
      · subst hy0
        go_wp2
        go_roundw
        case rel => exact ⟨2, by go_num, by omega, by simp, by simp, by first | rfl | trivial⟩
        case measure => simp [intOf]
      · have e1 : (y != 0) = true := by simpa using hy0
        have e2 : orG 0 y = y := by unfold orG; rw [if_pos rfl]
        clear hx hy
        go_wp2
        go_ret
        exact ⟨by rw [e2]; rfl, rfl⟩
    · obtain rfl := hx (by omega)
      obtain rfl := hy (by omega)
      go_wp2
      go_ret
      exact ⟨rfl, rfl⟩
def cfP (x y : Cho) : Int := orG (compareInt x.f0 y.f0) (compareInt x.f1 y.f1)
theorem add_three (W : World) (a b c : Obj) : (((W.alloc a).alloc b).alloc c).drew = grow (W.drewN 1) #[a, b, c] := by
  rw [alloc_eq_grow, alloc_eq_grow, alloc_eq_grow, grow_grow, grow_grow, drew_grow]
  rfl
set_option maxHeartbeats 4000000 in
theorem points_g (x y : Cho) (W : World) : Calls Try.prog 23 #[.agg (encC x).toArray, .agg (encC y).toArray] W fun e w' => e = .returned (.int .i64 (cfP x y)) ∧ ∃ q os', w' = grow (W.drewN q) os' := by
  obtain ⟨c1, k1, r1, i1, j1⟩ := x
  obtain ⟨c2, k2, r2, i2, j2⟩ := y
  unfold encC cfP
  dsimp only
  have b0 := blk_alloc (blk_new W (.cells #[.int .i64 c1, .int .i64 k1, .int .i64 r1, .int .i64 i1, .int .i64 j1] 24)) (.cells #[.int .i64 c2, .int .i64 k2, .int .i64 r2, .int .i64 i2, .int .i64 j2] 24)
  have b1 := blk_second W (.cells #[.int .i64 c1, .int .i64 k1, .int .i64 r1, .int .i64 i1, .int .i64 j1] 24) (.cells #[.int .i64 c2, .int .i64 k2, .int .i64 r2, .int .i64 i2, .int .i64 j2] 24)
  go_enter Try.func23, Try.ntmps23
  have HEND := Aside0.mk (fun o => add_three W (.cells #[.int .i64 c1, .int .i64 k1, .int .i64 r1, .int .i64 i1, .int .i64 j1] 24) (.cells #[.int .i64 c2, .int .i64 k2, .int .i64 r2, .int .i64 i2, .int .i64 j2] 24) o)
  have p0 := (blk_cell b0 0).trans (show _ = some (Value.int .i64 c1) from rfl)
  have p1 := (blk_cell b0 1).trans (show _ = some (Value.int .i64 k1) from rfl)
  have q0 := (blk_cell b1 0).trans (show _ = some (Value.int .i64 c2) from rfl)
  have q1 := (blk_cell b1 1).trans (show _ = some (Value.int .i64 k2) from rfl)
  clear b0 b1
  go_wp2_with fail
  generalize (W.alloc (.cells #[.int .i64 c1, .int .i64 k1, .int .i64 r1, .int .i64 i1, .int .i64 j1] 24)).alloc (.cells #[.int .i64 c2, .int .i64 k2, .int .i64 r2, .int .i64 i2, .int .i64 j2] 24) = w1 at p0 p1 q0 q1 HEND ⊢
  generalize W.heap.size = b at p0 p1 q0 q1
  have o0 : (w1.alloc (.cells #[.int .i64 (compareInt c1 c2), .int .i64 (compareInt k1 k2)] 3)).drew.cell? ⟨w1.heap.size, 0, none⟩ = some (.int .i64 (compareInt c1 c2)) := (blk_cell (blk_new w1 (.cells #[.int .i64 (compareInt c1 c2), .int .i64 (compareInt k1 k2)] 3)) 0).trans rfl
  have o1 : (w1.alloc (.cells #[.int .i64 (compareInt c1 c2), .int .i64 (compareInt k1 k2)] 3)).drew.cell? ⟨w1.heap.size, 1, none⟩ = some (.int .i64 (compareInt k1 k2)) := (blk_cell (blk_new w1 (.cells #[.int .i64 (compareInt c1 c2), .int .i64 (compareInt k1 k2)] 3)) 1).trans rfl
  have HOR := Aside0.mk (or_g _ _ _ _ o0 o1)
  clear o0 o1
  go_region_held3 (fun W => W.cell? ⟨b, 0, none⟩ = some (.int .i64 c1) ∧ W.cell? ⟨b, 1, none⟩ = some (.int .i64 k1) ∧ W.cell? ⟨b + 1, 0, none⟩ = some (.int .i64 c2) ∧ W.cell? ⟨b + 1, 1, none⟩ = some (.int .i64 k2))
    (first | exact ⟨p0, p1, q0, q1⟩ | exact ⟨cell_alloc1 p0 _, cell_alloc1 p1 _, cell_alloc1 q0 _, cell_alloc1 q1 _⟩ | go_keep)
    (first
      | (go_at_call 41; with_reducible refine (compare_g c1 c2 _).mono ?_; rintro e w2 ⟨rfl, rfl⟩)
      | (go_at_call 41; with_reducible refine (compare_g k1 k2 _).mono ?_; rintro e w2 ⟨rfl, rfl⟩)
      | (go_at_call 40; with_reducible refine HOR.out.mono ?_; rintro e w2 ⟨rfl, rfl⟩))
  all_goals (
    go_wp2
    go_ret
    exact ⟨rfl, 1, _, HEND.out _⟩)
/-! ### the row, sorted -/
theorem ltP (x y : Cho) : ltOf cfP x y = decide (Less x y) := by
  unfold ltOf
  rw [decide_eq_decide]
  unfold cfP orG compareInt Less
  split <;> split <;> (try split) <;> (try split) <;> omega
theorem swoP : SWO (ltOf cfP) where
  irrefl x := by rw [ltP]; simp only [decide_eq_false_iff_not]; unfold Less; omega
  trans x y z h1 h2 := by rw [ltP] at *; simp only [decide_eq_true_eq] at *; unfold Less at *; omega
  ntrans x y z h1 h2 := by rw [ltP] at *; simp only [decide_eq_false_iff_not] at *; unfold Less at *; omega
theorem flatK_flat (ys : List Cho) : flatK encC 5 ys.toArray = (flat ys).toArray := by
  refine ext_get! (by simp [flat_len]) fun t ht => ?_
  have ht' : t < ys.length * 5 := by simpa using ht
  rw [get_flatK _ _ _ _ (by simpa using ht')]
  have hj : t / 5 < ys.length := by omega
  have hg := flat_get ys (t / 5) ys[t / 5] (List.getElem?_eq_getElem hj)
  have h1 : (ys.toArray)[t / 5]! = ys[t / 5] := by rw [getElem!_pos _ _ (by simpa using hj), List.getElem_toArray]
  have h2 : (flat ys)[t]? = (encC ys[t / 5])[t % 5]? := by
    rw [← hg, List.getElem?_take, if_pos (by omega), List.getElem?_drop]
    congr 1
    omega
  have h3 : t < (flat ys).length := by rw [flat_len]; exact ht'
  have h4 : t % 5 < (encC ys[t / 5]).length := by show t % 5 < 5; omega
  have h5 : (encC ys[t / 5])[t % 5]! = (encC ys[t / 5])[t % 5] := getElem!_pos (encC ys[t / 5]) (t % 5) h4
  have h6 : ((flat ys).toArray)[t]! = (flat ys)[t] := by rw [getElem!_pos (flat ys).toArray t (by simpa using h3), List.getElem_toArray]
  rw [h1, h5, h6]
  rw [List.getElem?_eq_getElem h3, List.getElem?_eq_getElem h4] at h2
  exact (Option.some.inj h2).symm
theorem holds_of_blk {W : World} {b : Nat} {xs : List Cho} {sp : List Value} (h : Blk W b xs sp) : HoldsK encC 5 W b 0 xs.toArray := by
  intro t ht
  rw [flatK_flat] at ht ⊢
  have ht' : t < (flat xs).length := by simpa using ht
  refine ⟨?_, blk_frozen h _⟩
  rw [Nat.zero_add, blk_cells h, List.getElem?_append_left ht', List.getElem?_eq_getElem ht', getElem!_pos _ _ (by simpa using ht'), List.getElem_toArray]
  rfl
theorem blk_sorted {W : World} {b n : Nat} {xs ys : List Cho} {sp : List Value} {os : Array Obj} (h : Blk W b xs sp) (hl : ys.length = xs.length) : Blk (sortWorldK encC 5 W b 0 n ys.toArray os) b ys sp := by
  have hlt := blk_lt h
  unfold Blk sortWorldK putRowK putRow mapBlock
  rw [Go.Sort.heap_grow_old _ _ (by simpa [Sort.ahead] using hlt)]
  show ((Sort.ahead W n).heap.modify b _)[b]? = _
  rw [Array.getElem?_modify, if_pos rfl, show (Sort.ahead W n).heap[b]? = _ from h]
  simp only [Option.map_some, onCells]
  congr 2
  rw [flatK_flat]
  unfold putCells
  refine Array.ext (by simp [flat_len, hl]) fun i h1 h2 => ?_
  simp only [Array.getElem_mapIdx, Nat.zero_le, true_and, Nat.zero_add, Nat.sub_zero, List.size_toArray, List.getElem_toArray, id]
  split
  · rename_i hi
    rw [getElem!_pos _ _ (by simpa using hi), List.getElem_toArray, List.getElem_append_left hi]
  · rename_i hi
    have e1 : (flat xs).length = (flat ys).length := by rw [flat_len, flat_len, hl]
    rw [List.getElem_append_right (by omega), List.getElem_append_right (by omega)]
    congr 1
    omega
theorem swk_keep {W : World} {b n B : Nat} {ys : List Cho} {os : Array Obj} (hB : B ≤ b) (hb : b < W.heap.size) : Below B W (sortWorldK encC 5 W b 0 n ys.toArray os) := by
  have hz : W.heap.size ≤ (sortWorldK encC 5 W b 0 n ys.toArray os).heap.size := size_sortWorldK_c encC 5 W b 0 n ys.toArray os
  refine ⟨rfl, rfl, rfl, hz, fun k hk => ?_⟩
  unfold sortWorldK putRowK putRow mapBlock
  rw [Go.Sort.heap_grow_old _ _ (by simp [Sort.ahead]; omega)]
  show ((Sort.ahead W n).heap.modify b _)[k]? = _
  rw [Array.getElem?_modify, if_neg (by omega)]
  rfl
theorem permIn_list {xs : List Cho} {d' : Array Cho} (h : PermIn 0 xs.toArray.size xs.toArray d') : d'.toList.Perm xs := by
  obtain ⟨h1, _, h3⟩ := h
  have e1 : d'.extract 0 xs.toArray.size = d' := by rw [← h1]; exact Array.extract_size
  have e2 : xs.toArray.extract 0 xs.toArray.size = xs.toArray := Array.extract_size
  rw [e1, e2] at h3
  exact h3
theorem sortedIn_list {d' : Array Cho} {n : Nat} (hn : d'.size = n) (h : SortedIn (ltOf cfP) 0 n d') : d'.toList.Pairwise (fun x y => ¬ Less y x) := by
  rw [List.pairwise_iff_getElem]
  intro i j hi hj hij
  have hi' : i < d'.size := by simpa using hi
  have hj' : j < d'.size := by simpa using hj
  have h0 := h i j (Nat.zero_le _) hij (by omega)
  rw [ltP, getElem!_pos d' i hi', getElem!_pos d' j hj'] at h0
  simpa using h0
theorem sort_r {W : World} {base : Nat} {ok : Nat → Prop} {v : Value} {xs : List Cho} (h : Kd.R k24 24 W base ok v xs) (hl : xs.length < 1000000) :
    Calls Try.prog 35 #[v, .func (.func 23) #[] #[]] W fun e w' => e = .returned (.tuple #[]) ∧ ∃ ys : List Cho, ys.Perm xs ∧ ys.Pairwise (fun x y => ¬ Less y x) ∧ Kd.R k24 24 w' base ok v ys ∧ Below base W w' := by
  rcases R_block h with ⟨rfl, rfl⟩ | ⟨b, c, sp, rfl, hB, hbb, hok, hc, hcm, hs⟩
  · refine (AnyF.slices_SortFunc_none Try.sortF none 0 (.func (.func 23) #[] #[]) W).mono ?_
    rintro e w' ⟨rfl, rfl⟩
    exact ⟨rfl, [], List.Perm.refl _, List.Pairwise.nil, h, Below.refl _ _⟩
  · have hcon := AnyQ.slices_SortFunc Try.sortF 5 Try.isAgg24 Try.sizeOf24 encC (fun _ => rfl) (fun x v hv => by
      simp only [encC, List.mem_cons, List.not_mem_nil, or_false] at hv
      rcases hv with rfl | rfl | rfl | rfl | rfl <;> rfl) cfP swoP 23 #[] b 0 c xs.toArray W (enters_of Try.func23 (by kernel_rfl) rfl) (fun _ _ _ _ x y => points_g x y _) (holds_of_blk hB) (blk_lt hB) (by rw [List.size_toArray]; omega)
    rw [List.size_toArray] at hcon
    refine Calls.mono hcon ?_
    rintro e w' ⟨rfl, d', n, os, hp, hso, rfl⟩
    have hpl := permIn_list (by rw [List.size_toArray]; exact hp)
    have hd : d' = d'.toList.toArray := by simp
    have hlen : d'.toList.length = xs.length := hpl.length_eq
    have hb2 := blk_sorted (n := n) (os := os) hB hlen
    rw [← hd] at hb2
    refine ⟨rfl, d'.toList, hpl, sortedIn_list hp.1 hso, ?_, ?_⟩
    · have := R_of_block hb2 hbb hok hcm (by rw [hlen]; exact hs)
      rw [hlen] at this
      exact this
    · rw [hd]
      exact swk_keep hbb (blk_lt hB)
end Go.Proofs.Ytpkcnifchggbnaa.HT
