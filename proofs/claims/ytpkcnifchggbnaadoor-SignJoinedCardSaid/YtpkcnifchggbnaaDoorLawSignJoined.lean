/- SignJoined: whatever comes in, the law answers true, and what came in reads as it did; the tables that it lists are tied to the program's text. No condition. -/
import Derived.Test.YtpkcnifchggbnaaDoorSpC
import Derived.Test.YtpkcnifchggbnaaDoorSort
import Derived.Shelf.SlSortCmp.NoneTotal
import Derived.Deep.RegionHeld3
import Derived.Deep.LoopGhost
import Derived.Deep.QuietTactic
import Derived.BigQuiet
import Derived.Test.YtpkcnifchggbnaaDoorSpJ
import Derived.Test.YtpkcnifchggbnaaDoorSpG
import Derived.Test.YtpkcnifchggbnaaDoorSpH
import Derived.Test.YtpkcnifchggbnaaDoorHRk
import Derived.Test.YtpkcnifchggbnaaDoorRows
import Derived.Test.YtpkcnifchggbnaaDoorTie
import Derived.Test.YtpkcnifchggbnaaDoorCards
import Derived.WalkKit
import Derived.ProofKit
import Derived.OpenShut
import Derived.ShutString
import Derived.ChangeOld
import Derived.Below
import Derived.SizedLaws
import Derived.Lib.SmallJoins
import Derived.LaidMore
import Derived.Lay
import Derived.Stop.Joined
import Derived.SevenTiedAt
namespace Go.Proofs.YtpkcnifchggbnaaDoor.HT
open Go.Proofs Go.Shelf Go.RowKit Go.Lib Go.Sort Go.Proofs.YtpkcnifchggbnaaDoor.HD Go.Proofs.YtpkcnifchggbnaaDoor.HI Go.Proofs.YtpkcnifchggbnaaDoor.HK Go.Proofs.YtpkcnifchggbnaaDoor.HU Go.Proofs.YtpkcnifchggbnaaDoorW.PrintWords Go.Proofs.YtpkcnifchggbnaaDoorW.PrintLast Go.Proofs.YtpkcnifchggbnaaDoorW.PrintMore
set_option linter.unusedVariables false
set_option linter.unusedSimpArgs false
set_option linter.unusedSectionVars false
instance : Inhabited Cho := ⟨⟨0, 0, 0, 0, 0⟩⟩
theorem nan_g (x : Int) (w : World) : Calls Tryd.prog 64 #[.int .i64 x] w fun e w' => e = .returned (.bool false) ∧ w = w' := by
  go_enter Tryd.func64, Tryd.ntmps64
  have h : (x != x) = false := by simp
  go_wp2
  go_ret
  exact ⟨rfl, rfl⟩
theorem compare_g (x y : Int) (w : World) : Calls Tryd.prog 48 #[.int .i64 x, .int .i64 y] w fun e w' => e = .returned (.int .i64 (compareInt x y)) ∧ w = w' := by
  go_enter Tryd.func48, Tryd.ntmps48
  go_wp2_with fail
  refine (nan_g x w).mono ?_
  rintro e w1 ⟨rfl, rfl⟩
  go_wp2_with fail
  refine (nan_g y w).mono ?_
  rintro e w1 ⟨rfl, rfl⟩
  by_cases h1 : x < y
  · have e1 : compareInt x y = -1 := by unfold compareInt; rw [if_pos h1]
    go_wp2
    go_ret
    exact ⟨by rw [e1]; rfl, rfl⟩
  · by_cases h2 : y < x
    · have e1 : compareInt x y = 1 := by unfold compareInt; rw [if_neg h1, if_pos h2]
      go_wp2
      go_ret
      exact ⟨by rw [e1]; rfl, rfl⟩
    · have e1 : compareInt x y = 0 := by unfold compareInt; rw [if_neg h1, if_neg h2]
      go_wp2
      go_ret
      exact ⟨by rw [e1]; rfl, rfl⟩
def orG (a b : Int) : Int := if a = 0 then b else a
theorem or_g (b : Nat) (x y : Int) (w : World) (h0 : w.cell? ⟨b, 0, none⟩ = some (.int .i64 x)) (h1 : w.cell? ⟨b, 1, none⟩ = some (.int .i64 y)) : Calls Tryd.prog 47 #[.slice (some ⟨b, 0, none⟩) 2 2] w fun e w' => e = .returned (.int .i64 (orG x y)) ∧ w = w' := by
  go_enter Tryd.func47, Tryd.ntmps47
  go_wp2
  go_loopw [8] (fun s8 wr => ∃ i : Nat, s8 = .int .i64 i ∧ i ≤ 2 ∧ (0 < i → x = 0) ∧ (1 < i → y = 0) ∧ wr = w) (fun s8 _ => 2 - (intOf s8).toNat)
  case atStart => exact ⟨0, rfl, by omega, by omega, by omega, rfl⟩
  case round =>
    obtain ⟨i, rfl, hi, hx, hy, rfl⟩ := hrel
    rcases (by omega : i = 0 ∨ i = 1 ∨ i = 2) with rfl | rfl | rfl
    · by_cases hx0 : x = 0
      · subst hx0
        go_wp2
        go_roundw
        case rel => exact ⟨1, by go_num, by omega, by simp, by omega, by first | rfl | trivial⟩
        case measure => simp [intOf]
      · have e1 : (x != 0) = true := by simpa using hx0
        have e2 : orG x y = x := by unfold orG; rw [if_neg hx0]
        clear hx hy
        go_wp2
        go_ret
        exact ⟨by rw [e2]; rfl, rfl⟩
    · obtain rfl := hx (by omega)
      by_cases hy0 : y = 0
      · subst hy0
        go_wp2
        go_roundw
        case rel => exact ⟨2, by go_num, by omega, by simp, by simp, by first | rfl | trivial⟩
        case measure => simp [intOf]
      · have e1 : (y != 0) = true := by simpa using hy0
        have e2 : orG 0 y = y := by unfold orG; rw [if_pos rfl]
        clear hx hy
        go_wp2
        go_ret
        exact ⟨by rw [e2]; rfl, rfl⟩
    · obtain rfl := hx (by omega)
      obtain rfl := hy (by omega)
      go_wp2
      go_ret
      exact ⟨rfl, rfl⟩
def cfP (x y : Cho) : Int := orG (compareInt x.f0 y.f0) (compareInt x.f1 y.f1)
theorem add_three (W : World) (a b c : Obj) : (((W.alloc a).alloc b).alloc c).drew = grow (W.drewN 1) #[a, b, c] := by
  rw [alloc_eq_grow, alloc_eq_grow, alloc_eq_grow, grow_grow, grow_grow, drew_grow]
  rfl
set_option maxHeartbeats 4000000 in
theorem points_g (x y : Cho) (W : World) : Calls Tryd.prog 22 #[.agg (encC x).toArray, .agg (encC y).toArray] W fun e w' => e = .returned (.int .i64 (cfP x y)) ∧ ∃ q os', w' = grow (W.drewN q) os' := by
  obtain ⟨c1, k1, r1, i1, j1⟩ := x
  obtain ⟨c2, k2, r2, i2, j2⟩ := y
  unfold encC cfP
  dsimp only
  have b0 := blk_alloc (blk_new W (.cells #[.int .i64 c1, .int .i64 k1, .int .i64 r1, .int .i64 i1, .int .i64 j1] 40)) (.cells #[.int .i64 c2, .int .i64 k2, .int .i64 r2, .int .i64 i2, .int .i64 j2] 40)
  have b1 := blk_second W (.cells #[.int .i64 c1, .int .i64 k1, .int .i64 r1, .int .i64 i1, .int .i64 j1] 40) (.cells #[.int .i64 c2, .int .i64 k2, .int .i64 r2, .int .i64 i2, .int .i64 j2] 40)
  go_enter Tryd.func22, Tryd.ntmps22
  have HEND := Aside0.mk (fun o => add_three W (.cells #[.int .i64 c1, .int .i64 k1, .int .i64 r1, .int .i64 i1, .int .i64 j1] 40) (.cells #[.int .i64 c2, .int .i64 k2, .int .i64 r2, .int .i64 i2, .int .i64 j2] 40) o)
  have p0 := (blk_cell b0 0).trans (show _ = some (Value.int .i64 c1) from rfl)
  have p1 := (blk_cell b0 1).trans (show _ = some (Value.int .i64 k1) from rfl)
  have q0 := (blk_cell b1 0).trans (show _ = some (Value.int .i64 c2) from rfl)
  have q1 := (blk_cell b1 1).trans (show _ = some (Value.int .i64 k2) from rfl)
  clear b0 b1
  go_wp2_with fail
  generalize (W.alloc (.cells #[.int .i64 c1, .int .i64 k1, .int .i64 r1, .int .i64 i1, .int .i64 j1] 40)).alloc (.cells #[.int .i64 c2, .int .i64 k2, .int .i64 r2, .int .i64 i2, .int .i64 j2] 40) = w1 at p0 p1 q0 q1 HEND ⊢
  generalize W.heap.size = b at p0 p1 q0 q1
  have o0 : (w1.alloc (.cells #[.int .i64 (compareInt c1 c2), .int .i64 (compareInt k1 k2)] 3)).drew.cell? ⟨w1.heap.size, 0, none⟩ = some (.int .i64 (compareInt c1 c2)) := (blk_cell (blk_new w1 (.cells #[.int .i64 (compareInt c1 c2), .int .i64 (compareInt k1 k2)] 3)) 0).trans rfl
  have o1 : (w1.alloc (.cells #[.int .i64 (compareInt c1 c2), .int .i64 (compareInt k1 k2)] 3)).drew.cell? ⟨w1.heap.size, 1, none⟩ = some (.int .i64 (compareInt k1 k2)) := (blk_cell (blk_new w1 (.cells #[.int .i64 (compareInt c1 c2), .int .i64 (compareInt k1 k2)] 3)) 1).trans rfl
  have HOR := Aside0.mk (or_g _ _ _ _ o0 o1)
  clear o0 o1
  go_region_held3 (fun W => W.cell? ⟨b, 0, none⟩ = some (.int .i64 c1) ∧ W.cell? ⟨b, 1, none⟩ = some (.int .i64 k1) ∧ W.cell? ⟨b + 1, 0, none⟩ = some (.int .i64 c2) ∧ W.cell? ⟨b + 1, 1, none⟩ = some (.int .i64 k2))
    (first | exact ⟨p0, p1, q0, q1⟩ | exact ⟨cell_alloc1 p0 _, cell_alloc1 p1 _, cell_alloc1 q0 _, cell_alloc1 q1 _⟩ | go_keep)
    (first
      | (go_at_call 48; with_reducible refine (compare_g c1 c2 _).mono ?_; rintro e w2 ⟨rfl, rfl⟩)
      | (go_at_call 48; with_reducible refine (compare_g k1 k2 _).mono ?_; rintro e w2 ⟨rfl, rfl⟩)
      | (go_at_call 47; with_reducible refine HOR.out.mono ?_; rintro e w2 ⟨rfl, rfl⟩))
  all_goals (
    go_wp2
    go_ret
    exact ⟨rfl, 1, _, HEND.out _⟩)
/-! ### the row, sorted -/
theorem ltP (x y : Cho) : ltOf cfP x y = decide (Less x y) := by
  unfold ltOf
  rw [decide_eq_decide]
  unfold cfP orG compareInt Less
  split <;> split <;> (try split) <;> (try split) <;> omega
theorem swoP : SWO (ltOf cfP) where
  irrefl x := by rw [ltP]; simp only [decide_eq_false_iff_not]; unfold Less; omega
  trans x y z h1 h2 := by rw [ltP] at *; simp only [decide_eq_true_eq] at *; unfold Less at *; omega
  ntrans x y z h1 h2 := by rw [ltP] at *; simp only [decide_eq_false_iff_not] at *; unfold Less at *; omega
theorem flatK_flat (ys : List Cho) : flatK encC 5 ys.toArray = (flat ys).toArray := by
  refine ext_get! (by simp [flat_len]) fun t ht => ?_
  have ht' : t < ys.length * 5 := by simpa using ht
  rw [get_flatK _ _ _ _ (by simpa using ht')]
  have hj : t / 5 < ys.length := by omega
  have hg := flat_get ys (t / 5) ys[t / 5] (List.getElem?_eq_getElem hj)
  have h1 : (ys.toArray)[t / 5]! = ys[t / 5] := by rw [getElem!_pos _ _ (by simpa using hj), List.getElem_toArray]
  have h2 : (flat ys)[t]? = (encC ys[t / 5])[t % 5]? := by
    rw [← hg, List.getElem?_take, if_pos (by omega), List.getElem?_drop]
    congr 1
    omega
  have h3 : t < (flat ys).length := by rw [flat_len]; exact ht'
  have h4 : t % 5 < (encC ys[t / 5]).length := by show t % 5 < 5; omega
  have h5 : (encC ys[t / 5])[t % 5]! = (encC ys[t / 5])[t % 5] := getElem!_pos (encC ys[t / 5]) (t % 5) h4
  have h6 : ((flat ys).toArray)[t]! = (flat ys)[t] := by rw [getElem!_pos (flat ys).toArray t (by simpa using h3), List.getElem_toArray]
  rw [h1, h5, h6]
  rw [List.getElem?_eq_getElem h3, List.getElem?_eq_getElem h4] at h2
  exact (Option.some.inj h2).symm
theorem holds_of_blk {W : World} {b : Nat} {xs : List Cho} {sp : List Value} (h : Blk W b xs sp) : HoldsK encC 5 W b 0 xs.toArray := by
  intro t ht
  rw [flatK_flat] at ht ⊢
  have ht' : t < (flat xs).length := by simpa using ht
  refine ⟨?_, blk_frozen h _⟩
  rw [Nat.zero_add, blk_cells h, List.getElem?_append_left ht', List.getElem?_eq_getElem ht', getElem!_pos _ _ (by simpa using ht'), List.getElem_toArray]
  rfl
theorem blk_sorted {W : World} {b n : Nat} {xs ys : List Cho} {sp : List Value} {os : Array Obj} (h : Blk W b xs sp) (hl : ys.length = xs.length) : Blk (sortWorldK encC 5 W b 0 n ys.toArray os) b ys sp := by
  have hlt := blk_lt h
  unfold Blk sortWorldK putRowK putRow mapBlock
  rw [Go.Sort.heap_grow_old _ _ (by simpa [Sort.ahead] using hlt)]
  show ((Sort.ahead W n).heap.modify b _)[b]? = _
  rw [Array.getElem?_modify, if_pos rfl, show (Sort.ahead W n).heap[b]? = _ from h]
  simp only [Option.map_some, onCells]
  congr 2
  rw [flatK_flat]
  unfold putCells
  refine Array.ext (by simp [flat_len, hl]) fun i h1 h2 => ?_
  simp only [Array.getElem_mapIdx, Nat.zero_le, true_and, Nat.zero_add, Nat.sub_zero, List.size_toArray, List.getElem_toArray, id]
  split
  · rename_i hi
    rw [getElem!_pos _ _ (by simpa using hi), List.getElem_toArray, List.getElem_append_left hi]
  · rename_i hi
    have e1 : (flat xs).length = (flat ys).length := by rw [flat_len, flat_len, hl]
    rw [List.getElem_append_right (by omega), List.getElem_append_right (by omega)]
    congr 1
    omega
theorem swk_keep {W : World} {b n B : Nat} {ys : List Cho} {os : Array Obj} (hB : B ≤ b) (hb : b < W.heap.size) : Below B W (sortWorldK encC 5 W b 0 n ys.toArray os) := by
  have hz : W.heap.size ≤ (sortWorldK encC 5 W b 0 n ys.toArray os).heap.size := size_sortWorldK_c encC 5 W b 0 n ys.toArray os
  refine ⟨rfl, rfl, rfl, hz, fun k hk => ?_⟩
  unfold sortWorldK putRowK putRow mapBlock
  rw [Go.Sort.heap_grow_old _ _ (by simp [Sort.ahead]; omega)]
  show ((Sort.ahead W n).heap.modify b _)[k]? = _
  rw [Array.getElem?_modify, if_neg (by omega)]
  rfl
theorem permIn_list {xs : List Cho} {d' : Array Cho} (h : PermIn 0 xs.toArray.size xs.toArray d') : d'.toList.Perm xs := by
  obtain ⟨h1, _, h3⟩ := h
  have e1 : d'.extract 0 xs.toArray.size = d' := by rw [← h1]; exact Array.extract_size
  have e2 : xs.toArray.extract 0 xs.toArray.size = xs.toArray := Array.extract_size
  rw [e1, e2] at h3
  exact h3
theorem sortedIn_list {d' : Array Cho} {n : Nat} (hn : d'.size = n) (h : SortedIn (ltOf cfP) 0 n d') : d'.toList.Pairwise (fun x y => ¬ Less y x) := by
  rw [List.pairwise_iff_getElem]
  intro i j hi hj hij
  have hi' : i < d'.size := by simpa using hi
  have hj' : j < d'.size := by simpa using hj
  have h0 := h i j (Nat.zero_le _) hij (by omega)
  rw [ltP, getElem!_pos d' i hi', getElem!_pos d' j hj'] at h0
  simpa using h0
theorem sort_r {W : World} {base : Nat} {ok : Nat → Prop} {v : Value} {xs : List Cho} (h : Kd.R k40 40 W base ok v xs) (hl : xs.length < 1000000) :
    Calls Tryd.prog 29 #[v, .func (.func 22) #[] #[]] W fun e w' => e = .returned (.tuple #[]) ∧ ∃ ys : List Cho, ys.Perm xs ∧ ys.Pairwise (fun x y => ¬ Less y x) ∧ Kd.R k40 40 w' base ok v ys ∧ Below base W w' := by
  rcases R_block h with ⟨rfl, rfl⟩ | ⟨b, c, sp, rfl, hB, hbb, hok, hc, hcm, hs⟩
  · refine (AnyF.slices_SortFunc_none Tryd.sortF none 0 (.func (.func 22) #[] #[]) W).mono ?_
    rintro e w' ⟨rfl, rfl⟩
    exact ⟨rfl, [], List.Perm.refl _, List.Pairwise.nil, h, Below.refl _ _⟩
  · have hcon := AnyQ.slices_SortFunc Tryd.sortF 5 Tryd.isAgg40 Tryd.sizeOf40 encC (fun _ => rfl) (fun x v hv => by
      simp only [encC, List.mem_cons, List.not_mem_nil, or_false] at hv
      rcases hv with rfl | rfl | rfl | rfl | rfl <;> rfl) cfP swoP 22 #[] b 0 c xs.toArray W (enters_of Tryd.func22 (by kernel_rfl) rfl) (fun _ _ _ _ x y => points_g x y _) (holds_of_blk hB) (blk_lt hB) (by rw [List.size_toArray]; omega)
    rw [List.size_toArray] at hcon
    refine Calls.mono hcon ?_
    rintro e w' ⟨rfl, d', n, os, hp, hso, rfl⟩
    have hpl := permIn_list (by rw [List.size_toArray]; exact hp)
    have hd : d' = d'.toList.toArray := by simp
    have hlen : d'.toList.length = xs.length := hpl.length_eq
    have hb2 := blk_sorted (n := n) (os := os) hB hlen
    rw [← hd] at hb2
    refine ⟨rfl, d'.toList, hpl, sortedIn_list hp.1 hso, ?_, ?_⟩
    · have := R_of_block hb2 hbb hok hcm (by rw [hlen]; exact hs)
      rw [hlen] at this
      exact this
    · rw [hd]
      exact swk_keep hbb (blk_lt hB)
end Go.Proofs.YtpkcnifchggbnaaDoor.HT

namespace Go.Proofs.YtpkcnifchggbnaaDoor.HI
open Go.RowKit Go.Proofs.YtpkcnifchggbnaaDoor.HD Go.Proofs.YtpkcnifchggbnaaDoor.HK Go.Proofs.YtpkcnifchggbnaaDoor.HU Go.Proofs.YtpkcnifchggbnaaDoorW.PrintWords Go.Proofs.YtpkcnifchggbnaaDoorW.PrintLast Go.Proofs.YtpkcnifchggbnaaDoorW.PrintMore
set_option linter.unusedVariables false
set_option linter.unusedSimpArgs false
set_option maxHeartbeats 4000000 in
set_option maxRecDepth 100000 in
theorem grow_c (n : Nat) (w : World) (hn : n ≤ 1000) :
    Calls Tryd.prog 50 #[.slice none 0 0, .int .i64 (n : Int)] w fun e w' => ∃ v, e = .returned v ∧ Kd.R k40 40 w' w.heap.size (fun _ => True) v [] ∧ Below w.heap.size w w' := by
  rcases Nat.eq_zero_or_pos n with rfl | hp
  · go_enter Tryd.func50, Tryd.ntmps50
    go_wp2
    go_ret
    exact ⟨_, rfl, Kd.R_nil _ _ _ _ _, Below.refl _ _⟩
  · obtain ⟨i0, hi0, hz0, hz1, hz2⟩ := info_parts infoCh
    obtain ⟨G, hG⟩ : ∃ G, G = grownCap w n 0 40 := ⟨_, rfl⟩
    obtain ⟨Z, hZ⟩ : ∃ Z, Z = (Builtin.zeroCells (Value.agg #[.int .i64 0, .int .i64 0, .int .i64 0, .int .i64 0, .int .i64 0]).cells n ++ Builtin.zeroCells (Value.agg #[.int .i64 0, .int .i64 0, .int .i64 0, .int .i64 0, .int .i64 0]).cells (G - n)).toList := ⟨_, rfl⟩
    have hGn : n ≤ G := by rw [hG]; exact grownCap_ge w _ _ _
    have hGm : G ≤ maxLen := by rw [hG]; exact grownCap_le_maxLen w _ _ _ (by simp only [maxLen]; omega)
    have hZl : Z.length = G * 5 := by
      rw [hZ, Array.toList_append, List.length_append, zero_len, zero_len]
      omega
    have hrz : ∀ ty, (Builtin.append_ #[22, 3] ty #[.slice none 0 0, .int .i64 (n : Int)]).run Tryd.prog w =
        .ok (.slice (some ⟨w.heap.size, 0, none⟩) n G) (w.drew.alloc (.cells Z.toArray 40)) := fun ty => by
      have h := Lib.run_append_nil_zeros w 22 3 ty 40 i0 _ .i64 .i64 Tryd.underlying22 Tryd.underlying3 hi0 hz0 n hp (by rw [hz1]; decide) (by omega) (by rw [hz2]; omega)
      rw [← hG] at h
      rw [h]
      congr 3
      rw [hZ]
    have HB := Aside0.mk (show Kd.R k40 40 (w.drew.alloc (.cells Z.toArray 40)) w.heap.size (fun _ => True) (.slice (some ⟨w.heap.size, 0, none⟩) 0 G) [] from
      R_of_block (xs := []) (sp := Z) (blk_new w.drew (.cells Z.toArray 40)) (Nat.le_refl _) trivial hGm (by simp [hZl]))
    clear hZ hG hZl hi0 hz0 hz1 hz2 hGm
    have hw1 : IntKind.i64.wrap (n : Int) = (n : Int) := i64w (by omega) (by omega)
    go_enter Tryd.func50, Tryd.ntmps50
    go_wp2_with (at_builtin; refine Lib.wpList_append_run _ rfl _ _ _ _ rfl _ _ rfl rfl _ _ (hrz _) ?_)
    go_ret
    exact ⟨_, rfl, HB.out, below_alloc (below_drew (Below.refl _ _)) _⟩
set_option maxHeartbeats 4000000 in
set_option maxRecDepth 100000 in
theorem concat_c (g : Nat) (A0 : Option Addr) (c0 : Nat) (a : List Cho) (A1 : Option Addr) (c1 : Nat) (b : List Cho) (w : World) (hg : w.heap[g]? = some (.cells #[.slice A0 a.length c0, .slice A1 b.length c1] 22 (0, 0))) (h0 : Kd.C k40 w A0 a.length a) (h1 : Kd.C k40 w A1 b.length b) (hl0 : a.length ≤ 500) (hl1 : b.length ≤ 500) :
    Calls Tryd.prog 28 #[.slice (some ⟨g, 0, none⟩) 2 2] w fun e w' => ∃ v, e = .returned v ∧ Kd.R k40 40 w' w.heap.size (fun _ => True) v (a ++ b) ∧ Below w.heap.size w w' := by
  have HG := Aside0.mk hg
  have HA := Aside0.mk h0
  have HB := Aside0.mk h1
  have p0 := (blk_cell hg 0).trans (show _ = some (Value.slice A0 a.length c0) from rfl)
  have p1 := (blk_cell hg 1).trans (show _ = some (Value.slice A1 b.length c1) from rfl)
  have hsum : IntKind.i64.wrap ((a.length : Int) + (b.length : Int)) = (a.length : Int) + (b.length : Int) := i64w (by omega) (by omega)
  have hs0 : (0 : Int) ≤ (a.length : Int) + (b.length : Int) := by omega
  have hs1 : (a.length : Int) + (b.length : Int) = ((a.length + b.length : Nat) : Int) := by omega
  have HS1 := Aside0.mk hs1
  clear hg h0 h1 hs1
  go_enter Tryd.func28, Tryd.ntmps28
  go_wp2
  go_loopw [3, 11] (fun v3 v11 wr => wr = w ∧ ((v11 = .int .i64 0 ∧ v3 = .int .i64 0) ∨ (v11 = .int .i64 1 ∧ v3 = .int .i64 (a.length : Int)) ∨ (v11 = .int .i64 2 ∧ v3 = .int .i64 ((a.length : Int) + (b.length : Int))))) (fun _ v11 _ => 2 - (intOf v11).toNat)
  case atStart => exact ⟨rfl, .inl ⟨rfl, rfl⟩⟩
  case round =>
    obtain ⟨hww, hrel⟩ := hrel
    obtain ⟨W, rfl⟩ : ∃ W : World, W = wr := ⟨_, rfl⟩
    subst hww
    obtain ⟨rfl, rfl⟩ | ⟨rfl, rfl⟩ | ⟨rfl, rfl⟩ := hrel
    · go_wp2
      go_roundw
      case rel => exact ⟨by first | rfl | trivial, .inr (.inl ⟨rfl, rfl⟩)⟩
      case measure => simp [intOf]
    · go_wp2
      go_roundw
      case rel => exact ⟨by first | rfl | trivial, .inr (.inr ⟨rfl, rfl⟩)⟩
      case measure => simp [intOf]
    · rw [HS1.out]
      have HGC := Aside0.mk (grow_c (a.length + b.length) W (by omega))
      go_wp2_with fail
      refine HGC.out.mono ?_
      rintro e w1 ⟨v, rfl, hR, hb⟩
      have HR1 := Aside0.mk hR
      have HB1 := Aside0.mk hb
      clear hR hb HGC hsum hs0
      go_wp2
      go_loopw [6, 27] (fun v6 v27 wq => Aside0 (Below W.heap.size W wq) ∧ ((v27 = .int .i64 0 ∧ Aside0 (Kd.R k40 40 wq W.heap.size (fun _ => True) v6 [])) ∨ (v27 = .int .i64 1 ∧ Aside0 (Kd.R k40 40 wq W.heap.size (fun _ => True) v6 a)) ∨ (v27 = .int .i64 2 ∧ Aside0 (Kd.R k40 40 wq W.heap.size (fun _ => True) v6 (a ++ b))))) (fun _ v27 _ => 2 - (intOf v27).toNat)
      case atStart => exact ⟨HB1, .inl ⟨rfl, HR1⟩⟩
      case round =>
        obtain ⟨HB2, ⟨rfl, HR2⟩ | ⟨rfl, HR2⟩ | ⟨rfl, HR2⟩⟩ := hrel
        · have q0 := (HB2.out.cell (p := ⟨g, 0, none⟩) (World.block_lt_of_cell? _ _ p0)).trans p0
          go_wp2_with (at_builtin; refine Kd.R_append_rows k40 (w0 := W) W.heap.size rfl (.tmp 31) (.tmp 32) 22 40 (.agg #[.int .i64 0, .int .i64 0, .int .i64 0, .int .i64 0, .int .i64 0]) 40 rfl Tryd.underlying22 infoCh rfl (by decide) (by omega) u6 [] a A0 a.length c0 (fun _ => True) (fun _ => False) rfl rfl HR2.out (Kd.C_below HA.out HB2.out) (fun x cs h => by obtain rfl := k40_open h; exact k40_mkM _ _ _ x) (fun _ h => h.elim) (fun _ _ => trivial) HB2.out HB2.out.size (by first | omega | (simp; omega)) ?_; intro v3 w3 ho hbl hgr hat; have HO := Aside0.mk ho; have HBO := Aside0.mk hbl; clear ho hbl hgr hat)
          go_roundw
          case rel => exact ⟨HBO, .inr (.inl ⟨rfl, ⟨by simpa using HO.out⟩⟩)⟩
          case measure => simp [intOf]
        · have q1 := (HB2.out.cell (p := ⟨g, 1, none⟩) (World.block_lt_of_cell? _ _ p1)).trans p1
          go_wp2_with (at_builtin; refine Kd.R_append_rows k40 (w0 := W) W.heap.size rfl (.tmp 31) (.tmp 32) 22 40 (.agg #[.int .i64 0, .int .i64 0, .int .i64 0, .int .i64 0, .int .i64 0]) 40 rfl Tryd.underlying22 infoCh rfl (by decide) (by omega) u6 a b A1 b.length c1 (fun _ => True) (fun _ => False) rfl rfl HR2.out (Kd.C_below HB.out HB2.out) (fun x cs h => by obtain rfl := k40_open h; exact k40_mkM _ _ _ x) (fun _ h => h.elim) (fun _ _ => trivial) HB2.out HB2.out.size (by first | omega | (simp; omega)) ?_; intro v3 w3 ho hbl hgr hat; have HO := Aside0.mk ho; have HBO := Aside0.mk hbl; clear ho hbl hgr hat)
          go_roundw
          case rel => exact ⟨HBO, .inr (.inr ⟨rfl, HO⟩)⟩
          case measure => simp [intOf]
        · go_wp2
          go_ret
          exact ⟨_, rfl, HR2.out, HB2.out⟩
end Go.Proofs.YtpkcnifchggbnaaDoor.HI

namespace Go.Proofs.YtpkcnifchggbnaaDoor.HI
open Go.RowKit Go.Proofs.YtpkcnifchggbnaaDoor.HD Go.Proofs.YtpkcnifchggbnaaDoor.HK Go.Proofs.YtpkcnifchggbnaaDoor.HU Go.Proofs.YtpkcnifchggbnaaDoorW.PrintWords Go.Proofs.YtpkcnifchggbnaaDoorW.PrintLast Go.Proofs.YtpkcnifchggbnaaDoorW.PrintMore
set_option linter.unusedVariables false
set_option linter.unusedSimpArgs false
/-- the first m ones, each but where it is as the one ahead of it -/
def dp (l : List Cho) : Nat → List Cho
  | 0 => []
  | m + 1 => if h : 0 < m ∧ m < l.length then (if eqC (l[m - 1]'(by omega)) l[m] = true then dp l m else dp l m ++ [l[m]]) else dp l m ++ (l.drop m).take 1
theorem dp_dup {l : List Cho} {m : Nat} (h : m < l.length) (h0 : 0 < m) (he : l[m - 1]'(by omega) = l[m]) : dp l (m + 1) = dp l m := by
  rw [dp, dif_pos ⟨h0, h⟩, if_pos (eqC_iff.2 he)]
theorem dp_new {l : List Cho} {m : Nat} (h : m < l.length) (h0 : 0 < m) (he : l[m - 1]'(by omega) ≠ l[m]) : dp l (m + 1) = dp l m ++ [l[m]] := by
  rw [dp, dif_pos ⟨h0, h⟩, if_neg (fun e => he (eqC_iff.1 e))]
theorem dp_one (l : List Cho) : dp l 1 = l.take 1 := by
  rw [dp, dif_neg (by omega)]
  simp [dp]
theorem set_five (P S : List Value) (a b c d e v0 v1 v2 v3 v4 : Value) (n : Nat) (hn : P.length = n) :
    (((((P ++ ([a, b, c, d, e] ++ S)).set n v0).set (n + 1) v1).set (n + 2) v2).set (n + 3) v3).set (n + 4) v4 = P ++ ([v0, v1, v2, v3, v4] ++ S) := by
  subst hn
  simp [List.set_append_right]
theorem flat_set (ys : List Cho) (k : Nat) (x : Cho) (hk : k < ys.length) : flat ys = flat (ys.take k) ++ (encC ys[k] ++ flat (ys.drop (k + 1))) ∧ flat (ys.set k x) = flat (ys.take k) ++ (encC x ++ flat (ys.drop (k + 1))) := by
  constructor
  · conv => lhs; rw [← List.take_append_drop k ys, List.drop_eq_getElem_cons hk]
    rw [flat_app]
    rfl
  · rw [List.set_eq_take_append_cons_drop, if_pos hk, flat_app]
    rfl
theorem blk_five {W : World} {b : Nat} {ys : List Cho} {sp : List Value} (h : Blk W b ys sp) (k : Nat) (hk : k < ys.length) (x : Cho) :
    Blk (((((W.setCell ⟨b, k * 5, none⟩ (.int .i64 x.f0)).setCell ⟨b, k * 5 + 1, none⟩ (.int .i64 x.f1)).setCell ⟨b, k * 5 + 2, none⟩ (.int .i64 x.f2)).setCell ⟨b, k * 5 + 3, none⟩ (.int .i64 x.f3)).setCell ⟨b, k * 5 + 4, none⟩ (.int .i64 x.f4)) b (ys.set k x) sp := by
  obtain ⟨e1, e2⟩ := flat_set ys k x hk
  unfold Blk at h ⊢
  have h1 := blk_put (blk_put (blk_put (blk_put (blk_put h (k * 5) (.int .i64 x.f0) rfl) (k * 5 + 1) (.int .i64 x.f1) rfl) (k * 5 + 2) (.int .i64 x.f2) rfl) (k * 5 + 3) (.int .i64 x.f3) rfl) (k * 5 + 4) (.int .i64 x.f4) rfl
  rw [h1]
  have hl : (flat (ys.take k)).length = k * 5 := by rw [flat_len, List.length_take, Nat.min_eq_left (by omega)]
  have h5 := set_five (flat (ys.take k)) (flat (ys.drop (k + 1)) ++ sp) (.int .i64 ys[k].f0) (.int .i64 ys[k].f1) (.int .i64 ys[k].f2) (.int .i64 ys[k].f3) (.int .i64 ys[k].f4) (.int .i64 x.f0) (.int .i64 x.f1) (.int .i64 x.f2) (.int .i64 x.f3) (.int .i64 x.f4) (k * 5) hl
  have e3 : flat ys ++ sp = flat (ys.take k) ++ ([.int .i64 ys[k].f0, .int .i64 ys[k].f1, .int .i64 ys[k].f2, .int .i64 ys[k].f3, .int .i64 ys[k].f4] ++ (flat (ys.drop (k + 1)) ++ sp)) := by
    rw [e1]
    simp only [encC, List.append_assoc]
  have e4 : flat (ys.set k x) ++ sp = flat (ys.take k) ++ ([.int .i64 x.f0, .int .i64 x.f1, .int .i64 x.f2, .int .i64 x.f3, .int .i64 x.f4] ++ (flat (ys.drop (k + 1)) ++ sp)) := by
    rw [e2]
    simp only [encC, List.append_assoc]
  rw [e3, e4, ← h5]
  simp only [List.setIfInBounds_toArray]
/-- clear(s[k:]), s a row of choices -/
theorem run_clear {W : World} {b k n : Nat} {ys : List Cho} {sp : List Value} (h : Blk W b ys sp) (hn : ys.length = n) (hk : k ≤ n) :
    ∃ W' sp', (∀ ty c', (Builtin.clear_ #[22] ty #[.slice (some ⟨b, k * 5, none⟩) (n - k) c']).run Tryd.prog W = .ok (.tuple #[]) W') ∧ Blk W' b (ys.take k) sp' ∧ (ys.take k).length * 5 + sp'.length = ys.length * 5 + sp.length ∧ ∀ B w0, Below B w0 W → B ≤ b → Below B w0 W' := by
  subst hn
  rcases Nat.lt_or_ge k ys.length with hlt | hge
  · obtain ⟨m, hm⟩ : ∃ m, ys.length - k = m + 1 := ⟨ys.length - k - 1, by omega⟩
    have hzl : (Builtin.zeroCells (Value.agg #[.int .i64 0, .int .i64 0, .int .i64 0, .int .i64 0, .int .i64 0]).cells (m + 1)).toList.length = (m + 1) * 5 := zero_len _
    have hz1 : ∀ v ∈ (Builtin.zeroCells (Value.agg #[.int .i64 0, .int .i64 0, .int .i64 0, .int .i64 0, .int .i64 0]).cells (m + 1)).toList, v.oneCell' = true := by
      intro v hv
      simp only [Builtin.zeroCells, Array.toList_map, List.mem_map] at hv
      obtain ⟨i, _, rfl⟩ := hv
      have h5 : i % 5 < 5 := Nat.mod_lt _ (by decide)
      rcases (by omega : i % 5 = 0 ∨ i % 5 = 1 ∨ i % 5 = 2 ∨ i % 5 = 3 ∨ i % 5 = 4) with h | h | h | h | h <;> simp [Value.cells, h, Value.oneCell']
    generalize hZ : (Builtin.zeroCells (Value.agg #[.int .i64 0, .int .i64 0, .int .i64 0, .int .i64 0, .int .i64 0]).cells (m + 1)).toList = Z at hzl hz1
    have hst := run_storeCells_at Tryd.prog b (k * 5) 40 Z 0 _ W h (by simp [flat_len, hzl]; omega) hz1
    simp only [Nat.add_zero, List.toList_toArray] at hst
    have hall : (flat ys ++ sp).take (k * 5) ++ Z ++ (flat ys ++ sp).drop (k * 5 + Z.length) = flat (ys.take k) ++ (Z ++ sp) := by
      rw [List.take_append_of_le_length (by rw [flat_len]; omega), flat_take ys k (by omega), List.drop_append, List.drop_eq_nil_of_le (by rw [flat_len, hzl]; omega), List.nil_append, List.append_assoc]
      congr 2
      rw [flat_len, hzl, show k * 5 + (m + 1) * 5 - ys.length * 5 = 0 by omega, List.drop_zero]
    rw [hall] at hst
    refine ⟨_, Z ++ sp, fun ty c' => ?_, setRow_heap W b _ _ _ _ h, by rw [List.length_take, List.length_append, hzl]; omega, fun B w0 hb hB => below_setRow hb hB _⟩
    rw [hm]
    simp [Builtin.clear_, run_underlying Tryd.underlying22, Tryd.zeroValue40, hZ, hst]
  · have hk0 : ys.length - k = 0 := by omega
    have ht : ys.take k = ys := List.take_of_length_le hge
    refine ⟨W, sp, fun ty c' => ?_, by rw [ht]; exact h, by rw [ht], fun B w0 hb _ => hb⟩
    rw [hk0]
    simp [Builtin.clear_, run_underlying Tryd.underlying22]
attribute [local go_sem high] Qsbase.eqA40
theorem eqB {x y : Cho} (h : x = y) : (x.f0 == y.f0 && (x.f1 == y.f1 && (x.f2 == y.f2 && (x.f3 == y.f3 && x.f4 == y.f4)))) = true := by
  subst h
  simp
theorem neB {x y : Cho} (h : x ≠ y) : (x.f0 == y.f0 && (x.f1 == y.f1 && (x.f2 == y.f2 && (x.f3 == y.f3 && x.f4 == y.f4)))) = false := by
  cases hb : (x.f0 == y.f0 && (x.f1 == y.f1 && (x.f2 == y.f2 && (x.f3 == y.f3 && x.f4 == y.f4)))) with
  | false => rfl
  | true =>
    simp only [Bool.and_eq_true, beq_iff_eq] at hb
    obtain ⟨h0, h1, h2, h3, h4⟩ := hb
    exact absurd (ch_ext h0 h1 h2 h3 h4) h
theorem blk_C {W : World} {b : Nat} {ys : List Cho} {sp : List Value} (h : Blk W b ys sp) (hm : ys.length ≤ maxLen) : Kd.C k40 W (some ⟨b, 0, none⟩) ys.length ys :=
  ⟨rfl, hm, fun _ => ⟨_, rfl, fun j p hj => by
    obtain ⟨hj1, rfl⟩ := List.getElem?_eq_some_iff.1 hj
    refine ⟨encC ys[j], rfl, k40_mk W ys[j], fun i u hu => ?_⟩
    have hi : i < 5 := by
      rcases Nat.lt_or_ge i 5 with h1 | h1
      · exact h1
      · rw [List.getElem?_eq_none (by simpa [encC] using h1)] at hu; cases hu
    rw [add_plain, blk_cells h]
    have hg := flat_get ys j ys[j] (List.getElem?_eq_getElem hj1)
    have hlt : j * 5 + i < (flat ys).length := by rw [flat_len]; omega
    show (flat ys ++ sp)[j * 5 + i]? = some u
    rw [List.getElem?_append_left hlt, ← hu, ← hg, List.getElem?_take, if_pos hi, List.getElem?_drop]⟩⟩
/-- an element's five cells -/
theorem five_at {W : World} {b : Nat} {ys : List Cho} {sp : List Value} (h : Blk W b ys sp) (k : Nat) (hk : k < ys.length) (x : Cho) (hx : ys[k] = x) :
    W.cell? ⟨b, k * 5, none⟩ = some (.int .i64 x.f0) ∧ W.cell? ⟨b, k * 5 + 1, none⟩ = some (.int .i64 x.f1) ∧ W.cell? ⟨b, k * 5 + 2, none⟩ = some (.int .i64 x.f2) ∧ W.cell? ⟨b, k * 5 + 3, none⟩ = some (.int .i64 x.f3) ∧ W.cell? ⟨b, k * 5 + 4, none⟩ = some (.int .i64 x.f4) := by
  subst hx
  have hg := flat_get ys k ys[k] (List.getElem?_eq_getElem hk)
  have hc : ∀ i, i < 5 → W.cell? ⟨b, k * 5 + i, none⟩ = (encC ys[k])[i]? := fun i hi => by
    rw [blk_cells h, List.getElem?_append_left (by rw [flat_len]; omega), ← hg, List.getElem?_take, if_pos hi, List.getElem?_drop]
  exact ⟨hc 0 (by decide), hc 1 (by decide), hc 2 (by decide), hc 3 (by decide), hc 4 (by decide)⟩
theorem five_free {W : World} {b : Nat} {ys : List Cho} {sp : List Value} (h : Blk W b ys sp) (k : Nat) : W.frozen? ⟨b, k, none⟩ = false := blk_frozen h k
theorem blk_drewN {W : World} {b : Nat} {ys : List Cho} {sp : List Value} (h : Blk W b ys sp) (q : Nat) : Blk (W.drewN q) b ys sp := h
theorem add_pos (b i : Nat) : (⟨b, 0, none⟩ : Addr).add i = ⟨b, i, none⟩ := by
  rw [add_plain]
theorem below5' {B b : Nat} {w0 w : World} {o0 o1 o2 o3 o4 : Nat} {v0 v1 v2 v3 v4 : Value} (h : Below B w0 w) (hb : B ≤ b) : Below B w0 (((((w.setCell ⟨b, o0, none⟩ v0).setCell ⟨b, o1, none⟩ v1).setCell ⟨b, o2, none⟩ v2).setCell ⟨b, o3, none⟩ v3).setCell ⟨b, o4, none⟩ v4) :=
  ((((h.setCell (p := ⟨b, o0, none⟩) hb _).setCell (p := ⟨b, o1, none⟩) hb _).setCell (p := ⟨b, o2, none⟩) hb _).setCell (p := ⟨b, o3, none⟩) hb _).setCell (p := ⟨b, o4, none⟩) hb _
set_option maxHeartbeats 8000000 in
set_option maxRecDepth 100000 in
theorem compact_c {W : World} {base : Nat} {ok : Nat → Prop} {v : Value} {xs : List Cho} (h : Kd.R k40 40 W base ok v xs) (hl : xs.length ≤ 1000) :
    Calls Tryd.prog 30 #[v] W fun e w' => ∃ v', e = .returned v' ∧ Kd.R k40 40 w' base ok v' (dp xs xs.length) ∧ Below base W w' := by
  have HR := Aside0.mk h
  obtain ⟨A, c, hv, hc, _⟩ := Kd.R_reads h
  by_cases h2 : xs.length < 2
  · have hd : dp xs xs.length = xs := by
      rcases (by omega : xs.length = 0 ∨ xs.length = 1) with h0 | h0
      · rw [h0]
        exact (List.eq_nil_of_length_eq_zero h0).symm
      · rw [h0, dp_one, List.take_of_length_le (by omega)]
    have HD := Aside0.mk hd
    clear hd h
    subst hv
    go_enter Tryd.func30, Tryd.ntmps30
    go_wp2
    go_ret
    exact ⟨_, rfl, by rw [HD.out]; exact HR.out, Below.refl _ _⟩
  · rcases R_block h with ⟨_, h0⟩ | ⟨b, c2, sp, hv2, hB, hbb, hok, hc2, hcm, hsp⟩
    · rw [h0] at h2; simp at h2
    · obtain ⟨n, hn⟩ : ∃ n, n = xs.length := ⟨_, rfl⟩
      have HN := Aside0.mk hn
      have HB0 := Aside0.mk hB
      have HF := Aside0.mk (And.intro hbb (And.intro hok (And.intro hcm hsp)))
      clear h hv hc HR
      subst hv2
      rw [← hn] at h2 hl hc2 ⊢
      clear hn hB hsp hcm hok
      go_enter Tryd.func30, Tryd.ntmps30
      go_wp2
      go_loopw [3] (fun v3 wr => ∃ k : Nat, v3 = .int .i64 (k : Int) ∧ 1 ≤ k ∧ k ≤ n ∧ Aside0 (dp xs k = xs.take k) ∧ Aside0 (Blk wr b xs sp) ∧ Aside0 (Below base W wr)) (fun v3 _ => n - (intOf v3).toNat)
      case atStart => exact ⟨1, rfl, by omega, by omega, ⟨dp_one xs⟩, HB0, ⟨Below.refl _ _⟩⟩
      case round =>
        obtain ⟨k, rfl, hk1, hkn, HD, HB, HBL⟩ := hrel
        obtain ⟨w1, rfl⟩ : ∃ w1 : World, w1 = wr := ⟨_, rfl⟩
        clear HB0
        by_cases hlt : k < n
        · have hxk : k < xs.length := by have := HN.out; omega
          have hxk' : k - 1 < xs.length := by omega
          have hi1 : IntKind.i64.wrap ((k : Int) - 1) = (k : Int) - 1 := i64w (by omega) (by omega)
          have hi2 : (0 : Int) ≤ (k : Int) - 1 := by omega
          have hi3 : (k : Int) - 1 < (n : Int) := by omega
          have hi4 : ((k : Int) - 1).toNat = k - 1 := by omega
          have hi5 : IntKind.i64.wrap ((k : Int) + 1) = (k : Int) + 1 := i64w (by omega) (by omega)
          obtain ⟨x0, x1, x2, x3, x4⟩ := five_at HB.out k hxk xs[k] rfl
          obtain ⟨y0, y1, y2, y3, y4⟩ := five_at HB.out (k - 1) hxk' xs[k - 1] rfl
          by_cases hxy : xs[k - 1] = xs[k]
          · have HDP := Aside0.mk (dp_dup hxk hk1 hxy)
            have hE := eqB hxy.symm
            rw [hxy] at y0 y1 y2 y3 y4 hE
            have hE2 : xs[k].f0 == xs[k].f0 := by simp
            clear hxy
            clear hE hE2
            generalize xs[k] = x at x0 x1 x2 x3 x4 y0 y1 y2 y3 y4
            have hck : ¬ (c2 = k) := by omega
            have hkz : (k : Int) ≤ (n : Int) := by omega
            go_wp2_with fail
            go_quiet (fail)
            have HB2 := Aside0.mk (blk_drewN HB.out nq)
            have HL2 := Aside0.mk (pw_below_drewN HBL.out nq)
            clear x0 x1 x2 x3 x4 y0 y1 y2 y3 y4 HB HBL
            generalize w1.drewN nq = w2 at HB2 HL2 ⊢
            go_wp2
            go_loopw [3, 5] (fun v3 v5 wr => ∃ (j i : Nat) (ys : List Cho), v5 = .int .i64 (j : Int) ∧ v3 = .int .i64 (i : Int) ∧ 1 ≤ j ∧ k + j ≤ n ∧ i ≤ k + j - 1 ∧ Aside0 (ys.length = n) ∧ Aside0 (ys.take i = dp xs (k + j)) ∧ Aside0 (∀ t, k + j - 1 ≤ t → ys[t]? = xs[t]?) ∧ Aside0 (Blk wr b ys sp) ∧ Aside0 (Below base W wr)) (fun _ v5 _ => n - (intOf v5).toNat)
            case atStart => exact ⟨1, k, xs, rfl, rfl, by omega, by omega, by omega, ⟨HN.out.symm⟩, ⟨by rw [HDP.out, HD.out]⟩, ⟨fun _ _ => rfl⟩, HB2, HL2⟩
            case round =>
              obtain ⟨j, i, ys, rfl, rfl, hj1, hkj, hik, HYN, HYD, HYX, HBY, HLY⟩ := hrel
              obtain ⟨w3, rfl⟩ : ∃ w3 : World, w3 = wr := ⟨_, rfl⟩
              clear HB2 HL2
              by_cases hltj : k + j < n
              · have hxk2 : k + j < xs.length := by have := HN.out; omega
                have hxk3 : k + j - 1 < xs.length := by omega
                have hyk2 : k + j < ys.length := by have := HYN.out; omega
                have hyk3 : k + j - 1 < ys.length := by omega
                have hyi : i < ys.length := by omega
                have ey : ys[k + j] = xs[k + j] := by
                  have h := HYX.out (k + j) (by omega)
                  rw [List.getElem?_eq_getElem hyk2, List.getElem?_eq_getElem hxk2] at h
                  exact Option.some.inj h
                have ey' : ys[k + j - 1] = xs[k + j - 1] := by
                  have h := HYX.out (k + j - 1) (by omega)
                  rw [List.getElem?_eq_getElem hyk3, List.getElem?_eq_getElem hxk3] at h
                  exact Option.some.inj h
                obtain ⟨x0, x1, x2, x3, x4⟩ := five_at HBY.out (k + j) hyk2 xs[k + j] ey
                obtain ⟨y0, y1, y2, y3, y4⟩ := five_at HBY.out (k + j - 1) hyk3 xs[k + j - 1] ey'
                rw [show (k + j) * 5 = k * 5 + j * 5 by omega] at x0 x1 x2 x3 x4
                rw [show (k + j - 1) * 5 = k * 5 + (j - 1) * 5 by omega] at y0 y1 y2 y3 y4
                clear ey ey'
                have hj1' : IntKind.i64.wrap ((j : Int) - 1) = (j : Int) - 1 := i64w (by omega) (by omega)
                have hj2 : (0 : Int) ≤ (j : Int) - 1 := by omega
                have hj4 : ((j : Int) - 1).toNat = j - 1 := by omega
                have hj5 : IntKind.i64.wrap ((j : Int) + 1) = (j : Int) + 1 := i64w (by omega) (by omega)
                have hjn : j < n - k := by omega
                have hjm : (j : Int) - 1 < ((n - k : Nat) : Int) := by omega
                have hin : i < n := by omega
                have hi6 : IntKind.i64.wrap ((i : Int) + 1) = (i : Int) + 1 := i64w (by omega) (by omega)
                by_cases hxy : xs[k + j - 1] = xs[k + j]
                · have HDQ := Aside0.mk (dp_dup hxk2 (by omega) hxy)
                  have hE := eqB hxy.symm
                  rw [hxy] at y0 y1 y2 y3 y4
                  clear hxy hE
                  generalize xs[k + j] = z at x0 x1 x2 x3 x4 y0 y1 y2 y3 y4
                  go_wp2_with fail
                  go_quiet (fail)
                  go_wp2
                  exact ⟨⟨j + 1, i, ys, by go_num, rfl, by omega, by omega, by omega, HYN, ⟨by rw [HYD.out, ← Nat.add_assoc, HDQ.out]⟩, ⟨fun t ht => HYX.out t (by omega)⟩, ⟨blk_drewN HBY.out _⟩, ⟨pw_below_drewN HLY.out _⟩⟩, by simp [intOf]; omega⟩
                · have HDQ := Aside0.mk (dp_new hxk2 (by omega) hxy)
                  have hE := neB (Ne.symm hxy)
                  clear hxy
                  generalize xs[k + j] = z at *
                  generalize xs[k + j - 1] = z' at *
                  obtain ⟨o0, o1, o2, o3, o4⟩ := five_at HBY.out i hyi ys[i] rfl
                  have f0 := five_free HBY.out (i * 5)
                  have f1 := five_free HBY.out (i * 5 + 1)
                  have f2 := five_free HBY.out (i * 5 + 2)
                  have f3 := five_free HBY.out (i * 5 + 3)
                  have f4 := five_free HBY.out (i * 5 + 4)
                  go_wp2_with fail
                  go_quiet (fail)
                  go_wp2
                  have hset : (ys.set i z).take (i + 1) = ys.take i ++ [z] := by
                    rw [List.take_succ_eq_append_getElem (by rw [List.length_set]; exact hyi), List.getElem_set_self, List.take_set_of_le (Nat.le_refl _)]
                  exact ⟨⟨j + 1, i + 1, ys.set i z, by go_num, by go_num, by omega, by omega, by omega, ⟨by rw [List.length_set]; exact HYN.out⟩, ⟨by rw [hset, HYD.out, ← Nat.add_assoc, HDQ.out]⟩, ⟨fun t ht => by rw [List.getElem?_set_ne (by omega)]; exact HYX.out t (by omega)⟩, ⟨blk_five (blk_drewN HBY.out _) i hyi z⟩, ⟨below5' (pw_below_drewN HLY.out _) hbb⟩⟩, by simp [intOf]; omega⟩
              · obtain ⟨W', sp', hclr, hBW, hlen, hbel⟩ := run_clear HBY.out HYN.out (show i ≤ n by omega)
                have hbw := hbel base W HLY.out hbb
                have HBW := Aside0.mk hBW
                have HBE := Aside0.mk hbw
                have hli : (ys.take i).length = i := by rw [List.length_take]; have := HYN.out; omega
                have HLI := Aside0.mk hli
                have HLN := Aside0.mk hlen
                have hci : ¬ (c2 = i) := by omega
                have hin : i < n := by omega
                have hii : (i : Int) ≤ (n : Int) := by omega
                have hic : i ≤ c2 := by omega
                have HKJ := Aside0.mk (show k + j = n by omega)
                clear hBW hbel hli hlen hbw HBY
                go_wp2
                go_ret
                have hR := R_of_block HBW.out HF.out.1 HF.out.2.1 HF.out.2.2.1 (by have := HLN.out; have := HF.out.2.2.2; have := HYN.out; have := HN.out; omega)
                rw [HLI.out] at hR
                have hdx : dp xs n = ys.take i := by rw [HYD.out, HKJ.out]
                exact ⟨_, rfl, by rw [hdx]; exact hR, HBE.out⟩
          · have HDP := Aside0.mk (dp_new hxk hk1 hxy)
            have hE := neB (Ne.symm hxy)
            have HTK := Aside0.mk (show xs.take k ++ [xs[k]] = xs.take (k + 1) by rw [List.take_succ_eq_append_getElem hxk])
            clear hxy
            generalize xs[k] = x at *
            generalize xs[k - 1] = y at *
            go_wp2_with fail
            go_quiet (fail)
            go_wp2
            exact ⟨⟨k + 1, by go_num, by omega, by omega, ⟨by rw [HDP.out, HD.out, HTK.out]⟩, ⟨blk_drewN HB.out nq⟩, ⟨pw_below_drewN HBL.out nq⟩⟩, by simp [intOf]; omega⟩
        · obtain rfl : k = n := by omega
          go_wp2
          go_ret
          have hdx : dp xs k = xs := by rw [HD.out, List.take_of_length_le (by have := HN.out; omega)]
          have hR := R_of_block HB.out HF.out.1 HF.out.2.1 HF.out.2.2.1 HF.out.2.2.2
          rw [← HN.out] at hR
          exact ⟨_, rfl, by rw [hdx]; exact hR, HBL.out⟩
end Go.Proofs.YtpkcnifchggbnaaDoor.HI

namespace Go.Proofs.YtpkcnifchggbnaaDoor.HI
open Go.RowKit Go.Proofs.YtpkcnifchggbnaaDoor.HD Go.Proofs.YtpkcnifchggbnaaDoor.HK Go.Proofs.YtpkcnifchggbnaaDoor.HU Go.Proofs.YtpkcnifchggbnaaDoorW.PrintWords Go.Proofs.YtpkcnifchggbnaaDoorW.PrintLast Go.Proofs.YtpkcnifchggbnaaDoorW.PrintMore
set_option linter.unusedVariables false
set_option linter.unusedSimpArgs false
theorem agree_iff {a b : List Cho} : agreeB a b = true ↔ mayL a = true ∧ mayL b = true ∧ ∀ x ∈ a, ∀ y ∈ b, (x.f0 = y.f0 ∧ x.f1 = y.f1) → x = y := by
  rw [agree_eq, Bool.and_eq_true, Bool.and_eq_true, List.all_eq_true]
  constructor
  · rintro ⟨⟨ha, hb⟩, h⟩
    refine ⟨ha, hb, fun x hx y hy he => ?_⟩
    have hf : findC b x.f0 x.f1 = some y := by rw [he.1, he.2]; exact findC_of (mayL_iff.1 hb).2 hy
    have := h x hx
    rw [agP_some hf] at this
    exact (eqC_iff.1 this).symm
  · rintro ⟨ha, hb, h⟩
    refine ⟨⟨ha, hb⟩, fun x hx => ?_⟩
    cases hf : findC b x.f0 x.f1 with
    | none => exact agP_none hf
    | some y =>
      obtain ⟨h1, h2, h3⟩ := findC_some hf
      rw [agP_some hf]
      exact eqC_iff.2 (h x hx y h1 ⟨h2.symm, h3.symm⟩).symm
theorem within_iff {a b : List Cho} : withinB a b = true ↔ mayL a = true ∧ mayL b = true ∧ ∀ x ∈ a, x ∈ b := by
  unfold withinB
  simp only [Bool.and_eq_true, Bool.not_eq_true', List.any_eq_false, Bool.not_eq_true, Bool.not_eq_false', List.any_eq_true]
  constructor
  · rintro ⟨⟨ha, hb⟩, h⟩
    refine ⟨ha, hb, fun x hx => ?_⟩
    obtain ⟨y, hy, he⟩ := by simpa using h x hx
    rw [eqC_iff.1 he]
    exact hy
  · rintro ⟨ha, hb, h⟩
    exact ⟨⟨ha, hb⟩, fun x hx => by simpa using ⟨x, h x hx, eqC_self x⟩⟩
structure Joined (a b r : List Cho) : Prop where
  rise : r.Pairwise Less
  mem : ∀ x, x ∈ r ↔ x ∈ a ∨ x ∈ b
theorem rise_nodup {l : List Cho} (h : l.Pairwise Less) : l.Nodup := by
  rw [List.nodup_iff_pairwise_ne]
  refine h.imp ?_
  intro x y hxy e
  subst e
  exact less_irr x hxy
theorem mem_same {r s : List Cho} (hr : r.Pairwise Less) (hs : s.Pairwise Less) (h : ∀ x, x ∈ r ↔ x ∈ s) : r = s :=
  rise_same r s ((List.perm_ext_iff_of_nodup (rise_nodup hr) (rise_nodup hs)).2 h) hr hs
theorem dp_len (l : List Cho) : ∀ m, (dp l m).length ≤ m
  | 0 => Nat.le_refl _
  | m + 1 => by
    have h := dp_len l m
    rw [dp]
    split
    · split
      · omega
      · rw [List.length_append, List.length_singleton]; omega
    · rw [List.length_append, List.length_take]
      omega
theorem dp_plain {l : List Cho} (hs : l.Pairwise (fun x y => ¬ Less y x)) (hp : ∀ x ∈ l, ∀ y ∈ l, (x.f0 = y.f0 ∧ x.f1 = y.f1) → x = y) : ∀ m, m ≤ l.length → (dp l m).Pairwise Less ∧ ∀ x, x ∈ dp l m ↔ x ∈ l.take m
  | 0, _ => ⟨List.Pairwise.nil, fun x => by simp [dp]⟩
  | m + 1, hm => by
    obtain ⟨h1, h2⟩ := dp_plain hs hp m (by omega)
    have hml : m < l.length := by omega
    have htk : l.take (m + 1) = l.take m ++ [l[m]] := List.take_succ_eq_append_getElem hml
    have hle : ∀ i (hi : i < m), ¬ Less l[m] (l[i]'(by omega)) := fun i hi => (List.pairwise_iff_getElem.1 hs) i m (by omega) hml hi
    by_cases h0 : 0 < m
    · by_cases he : l[m - 1]'(by omega) = l[m]
      · rw [dp_dup hml h0 he]
        refine ⟨h1, fun x => ?_⟩
        rw [h2, htk, List.mem_append, List.mem_singleton]
        constructor
        · exact .inl
        · rintro (h | rfl)
          · exact h
          · rw [← he]
            exact List.mem_take_iff_getElem.2 ⟨m - 1, by omega, rfl⟩
      · rw [dp_new hml h0 he]
        refine ⟨?_, fun x => ?_⟩
        · rw [List.pairwise_append]
          refine ⟨h1, List.pairwise_singleton _ _, fun x hx y hy => ?_⟩
          rw [List.mem_singleton.1 hy]
          obtain ⟨i, hi, rfl⟩ := List.mem_take_iff_getElem.1 ((h2 x).1 hx)
          have him : i < m := by omega
          rcases less_total (l[i]'(by omega)) l[m] with h | h | h
          · exact h
          · exfalso
            have hij : ¬ Less l[m] (l[m - 1]'(by omega)) := hle (m - 1) (by omega)
            have hik : i = m - 1 ∨ ¬ Less (l[m - 1]'(by omega)) (l[i]'(by omega)) := by
              rcases Nat.lt_or_ge i (m - 1) with hlt | hge
              · exact .inr ((List.pairwise_iff_getElem.1 hs) i (m - 1) (by omega) (by omega) hlt)
              · exact .inl (by omega)
            refine he (hp _ (List.getElem_mem _) _ (List.getElem_mem _) ?_)
            rcases hik with hik | hik
            · subst hik
              exact h
            · unfold Less at hij hik
              omega
          · exact absurd h (hle i him)
        · rw [htk, List.mem_append, List.mem_append, h2]
    · obtain rfl : m = 0 := by omega
      rw [dp_one]
      refine ⟨?_, fun x => Iff.rfl⟩
      cases l with
      | nil => exact List.Pairwise.nil
      | cons y t => exact List.pairwise_singleton _ _
theorem join_plain {a b ys : List Cho} (h : agreeB a b = true) (hp : ys.Perm (a ++ b)) (hs : ys.Pairwise (fun x y => ¬ Less y x)) : Joined a b (dp ys ys.length) := by
  obtain ⟨ha, hb, hab⟩ := agree_iff.1 h
  have hpt : ∀ x ∈ ys, ∀ y ∈ ys, (x.f0 = y.f0 ∧ x.f1 = y.f1) → x = y := fun x hx y hy he => by
    rcases List.mem_append.1 (hp.mem_iff.1 hx) with hx | hx <;> rcases List.mem_append.1 (hp.mem_iff.1 hy) with hy | hy
    · exact sorted_one (mayL_iff.1 ha).2 hx hy he
    · exact hab x hx y hy he
    · exact (hab y hy x hx ⟨he.1.symm, he.2.symm⟩).symm
    · exact sorted_one (mayL_iff.1 hb).2 hx hy he
  obtain ⟨h1, h2⟩ := dp_plain hs hpt ys.length (Nat.le_refl _)
  refine ⟨h1, fun x => ?_⟩
  rw [h2, List.take_length, hp.mem_iff, List.mem_append]
/-- how Join ends -/
def JPost (a b : List Cho) (w : World) (e : Ending) (w' : World) : Prop := ∃ v r, e = .returned (.tuple #[v, .int .i64 (if agreeB a b then 0 else 2)]) ∧ Kd.R k40 40 w' w.heap.size (fun _ => True) v r ∧ Below w.heap.size w w' ∧ (agreeB a b = true → Joined a b r ∧ r.length ≤ a.length + b.length) ∧ (agreeB a b = false → r = [])
theorem JPost.no {a b : List Cho} {w w' : World} (h : agreeB a b = false) (hb : Below w.heap.size w w') : JPost a b w (.returned (.tuple #[.slice none 0 0, .int .i64 2])) w' :=
  ⟨_, [], by rw [h]; rfl, Kd.R_nil _ _ _ _ _, hb, (fun e => by rw [h] at e; cases e), fun _ => rfl⟩
theorem JPost.yes {a b r : List Cho} {w w' : World} {v : Value} (h : agreeB a b = true) (hR : Kd.R k40 40 w' w.heap.size (fun _ => True) v r) (hb : Below w.heap.size w w') (hj : Joined a b r) (hl : r.length ≤ a.length + b.length) : JPost a b w (.returned (.tuple #[v, .int .i64 0])) w' :=
  ⟨v, r, by rw [h]; rfl, hR, hb, fun _ => ⟨hj, hl⟩, fun e => by rw [h] at e; cases e⟩
set_option maxHeartbeats 4000000 in
set_option maxRecDepth 100000 in
theorem join2_c (A0 : Option Addr) (c0 : Nat) (a : List Cho) (A1 : Option Addr) (c1 : Nat) (b : List Cho) (w : World) (h0 : Kd.C k40 w A0 a.length a) (hc0 : a.length ≤ c0) (h1 : Kd.C k40 w A1 b.length b) (hc1 : b.length ≤ c1) (hl0 : a.length ≤ 500) (hl1 : b.length ≤ 500) :
    Calls Tryd.prog 13 #[.slice A0 a.length c0, .slice A1 b.length c1] w (JPost a b w) := by
  have HA := Aside0.mk h0
  have HB := Aside0.mk h1
  have HAG := Aside0.mk (agree_calls A0 c0 a A1 c1 b w h0 hc0 h1 hc1)
  clear h0 h1
  cases hag : agreeB a b with
  | false =>
    rw [hag] at HAG
    have HG := Aside0.mk hag
    clear hag
    go_enter Tryd.func13, Tryd.ntmps13
    go_wp2_with fail
    refine HAG.out.mono ?_
    rintro e w1 ⟨rfl, hb⟩
    go_wp2
    go_ret2
    exact JPost.no HG.out hb
  | true =>
    rw [hag] at HAG
    have HG := Aside0.mk hag
    clear hag
    go_enter Tryd.func13, Tryd.ntmps13
    go_wp2_with fail
    refine HAG.out.mono ?_
    rintro e w1 ⟨rfl, hb⟩
    have HB1 := Aside0.mk hb
    have hba := below_alloc (Below.refl w1.heap.size w1) (.cells #[.slice A0 a.length c0, .slice A1 b.length c1] 22)
    have HC := Aside0.mk (concat_c w1.heap.size A0 c0 a A1 c1 b (w1.alloc (.cells #[.slice A0 a.length c0, .slice A1 b.length c1] 22)) (blk_new w1 _) (Kd.C_below (Kd.C_below HA.out hb) hba) (Kd.C_below (Kd.C_below HB.out hb) hba) hl0 hl1)
    have HB2 := Aside0.mk (below_then hb hb.size hba)
    clear hb hba HAG HB1
    go_wp2_with fail
    refine HC.out.mono ?_
    rintro e w2 ⟨v, rfl, hR, hb⟩
    have hR := Kd.R_lower hR HB2.out.size
    have HB3 := Aside0.mk (below_then HB2.out HB2.out.size hb)
    have HS := Aside0.mk (HT.sort_r hR (by rw [List.length_append]; omega))
    clear hR hb HC HB2
    go_wp2_with fail
    refine HS.out.mono ?_
    rintro e w3 ⟨rfl, ys, hp, hs, hR, hb⟩
    have hyl := hp.length_eq
    rw [List.length_append] at hyl
    have HB4 := Aside0.mk (HB3.out.trans hb)
    have HJ := Aside0.mk (join_plain HG.out hp hs)
    have HK := Aside0.mk (compact_c hR (by omega))
    have HL := Aside0.mk (show (dp ys ys.length).length ≤ a.length + b.length by have := dp_len ys ys.length; omega)
    clear hp hs hR hb hyl HS HB3
    go_wp2_with fail
    refine HK.out.mono ?_
    rintro e w4 ⟨v', rfl, hR, hb⟩
    go_wp2
    go_ret2
    exact JPost.yes HG.out hR (HB4.out.trans hb) HJ.out HL.out
end Go.Proofs.YtpkcnifchggbnaaDoor.HI

namespace Go.Proofs.YtpkcnifchggbnaaDoor.HI
open Go.RowKit Go.Proofs.YtpkcnifchggbnaaDoor.HD Go.Proofs.YtpkcnifchggbnaaDoor.HK Go.Proofs.YtpkcnifchggbnaaDoor.HU Go.Proofs.YtpkcnifchggbnaaDoorW.PrintWords Go.Proofs.YtpkcnifchggbnaaDoorW.PrintLast Go.Proofs.YtpkcnifchggbnaaDoorW.PrintMore
set_option linter.unusedVariables false
set_option linter.unusedSimpArgs false
theorem agree_comm (a b : List Cho) : agreeB a b = agreeB b a := by
  rw [Bool.eq_iff_iff, agree_iff, agree_iff]
  constructor
  · rintro ⟨h1, h2, h3⟩
    exact ⟨h2, h1, fun x hx y hy he => (h3 y hy x hx ⟨he.1.symm, he.2.symm⟩).symm⟩
  · rintro ⟨h1, h2, h3⟩
    exact ⟨h2, h1, fun x hx y hy he => (h3 y hy x hx ⟨he.1.symm, he.2.symm⟩).symm⟩
theorem joined_may {a b r : List Cho} (ha : mayL a = true) (hb : mayL b = true) (h : Joined a b r) : mayL r = true :=
  mayL_iff.2 ⟨fun x hx => by
    rcases (h.mem x).1 hx with hx | hx
    · exact (mayL_iff.1 ha).1 x hx
    · exact (mayL_iff.1 hb).1 x hx, h.rise⟩
theorem joined_least {a b c r : List Cho} (hr : mayL r = true) (h : Joined a b r) (hac : withinB a c = true) (hbc : withinB b c = true) : withinB r c = true := by
  obtain ⟨_, hc, h1⟩ := within_iff.1 hac
  obtain ⟨_, _, h2⟩ := within_iff.1 hbc
  refine within_iff.2 ⟨hr, hc, fun x hx => ?_⟩
  rcases (h.mem x).1 hx with hx | hx
  · exact h1 x hx
  · exact h2 x hx
theorem JPost.when_yes {a b : List Cho} {w w' : World} {e : Ending} (h : JPost a b w e w') (hag : agreeB a b = true) : ∃ v r, e = .returned (.tuple #[v, .int .i64 0]) ∧ Kd.R k40 40 w' w.heap.size (fun _ => True) v r ∧ Below w.heap.size w w' ∧ Joined a b r ∧ r.length ≤ a.length + b.length := by
  obtain ⟨v, r, he, hR, hb, hy, _⟩ := h
  rw [hag] at he
  exact ⟨v, r, he, hR, hb, hy hag⟩
theorem JPost.when_no {a b : List Cho} {w w' : World} {e : Ending} (h : JPost a b w e w') (hag : agreeB a b = false) : ∃ v, e = .returned (.tuple #[v, .int .i64 2]) ∧ Kd.R k40 40 w' w.heap.size (fun _ => True) v [] ∧ Below w.heap.size w w' := by
  obtain ⟨v, r, he, hR, hb, _, hn⟩ := h
  rw [hag] at he
  rw [hn hag] at hR
  exact ⟨v, he, hR, hb⟩
set_option maxHeartbeats 8000000 in
set_option maxRecDepth 100000 in
theorem joined_w (A0 : Option Addr) (c0 : Nat) (a : List Cho) (A1 : Option Addr) (c1 : Nat) (b : List Cho) (A2 : Option Addr) (c2 : Nat) (c : List Cho) (w : World) (h0 : Kd.C k40 w A0 a.length a) (hc0 : a.length ≤ c0) (h1 : Kd.C k40 w A1 b.length b) (hc1 : b.length ≤ c1) (h2 : Kd.C k40 w A2 c.length c) (hc2 : c.length ≤ c2) (ht : Tab w) :
    Calls Tryd.prog 4 #[.slice A0 a.length c0, .slice A1 b.length c1, .slice A2 c.length c2] w fun e w' => e = .returned (.bool true) ∧ Below w.heap.size w w' := by
  have R0 : ∀ w', Below w.heap.size w w' → Kd.C k40 w' A0 a.length a := fun w' hb => Kd.C_below h0 hb
  have R1 : ∀ w', Below w.heap.size w w' → Kd.C k40 w' A1 b.length b := fun w' hb => Kd.C_below h1 hb
  have R2 : ∀ w', Below w.heap.size w w' → Kd.C k40 w' A2 c.length c := fun w' hb => Kd.C_below h2 hb
  have HR := Aside0.mk (And.intro R0 (And.intro R1 R2))
  have HAW := Aside0.mk (awake_c w ht)
  clear R0 R1 R2 h0 h1 h2 ht
  go_enter Tryd.func4, Tryd.ntmps4
  go_wp2_with fail
  refine HAW.out.mono ?_
  rintro e w1 ⟨rfl, hb⟩
  have HB1 := Aside0.mk hb
  clear hb HAW
  by_cases hz0 : a.length ≤ 200
  · by_cases hz1 : b.length ≤ 200
    · by_cases hz2 : c.length ≤ 200
      · cases hm0 : mayL a with
        | false =>
          have HC := Aside0.mk (show Calls _ _ _ _ _ from by have h := may_c A0 c0 a w1 (HR.out.1 w1 HB1.out) hc0; rw [hm0] at h; exact h)
          go_wp2_with fail
          refine HC.out.mono ?_
          rintro e w2 ⟨rfl, hb⟩
          have HB2 := Aside0.mk (below_then HB1.out HB1.out.size hb)
          clear hb HC
          go_wp2_with fail
          go_ret
          exact ⟨rfl, HB2.out⟩
        | true =>
          have HC := Aside0.mk (show Calls _ _ _ _ _ from by have h := may_c A0 c0 a w1 (HR.out.1 w1 HB1.out) hc0; rw [hm0] at h; exact h)
          go_wp2_with fail
          refine HC.out.mono ?_
          rintro e w2 ⟨rfl, hb⟩
          have HB2 := Aside0.mk (below_then HB1.out HB1.out.size hb)
          clear hb HC
          cases hm1 : mayL b with
          | false =>
            have HC := Aside0.mk (show Calls _ _ _ _ _ from by have h := may_c A1 c1 b w2 (HR.out.2.1 w2 HB2.out) hc1; rw [hm1] at h; exact h)
            go_wp2_with fail
            refine HC.out.mono ?_
            rintro e w3 ⟨rfl, hb⟩
            have HB3 := Aside0.mk (below_then HB2.out HB2.out.size hb)
            clear hb HC
            go_wp2_with fail
            go_ret
            exact ⟨rfl, HB3.out⟩
          | true =>
            have HC := Aside0.mk (show Calls _ _ _ _ _ from by have h := may_c A1 c1 b w2 (HR.out.2.1 w2 HB2.out) hc1; rw [hm1] at h; exact h)
            go_wp2_with fail
            refine HC.out.mono ?_
            rintro e w3 ⟨rfl, hb⟩
            have HB3 := Aside0.mk (below_then HB2.out HB2.out.size hb)
            clear hb HC
            obtain ⟨w4, rfl⟩ : ∃ w4 : World, w4 = w3 := ⟨_, rfl⟩
            have HB4 := HB3
            clear HB3
            cases hag : agreeB a b with
            | false =>
              have hba : agreeB b a = false := by rw [agree_comm]; exact hag
              have HC := Aside0.mk ((join2_c A0 c0 a A1 c1 b w4 (HR.out.1 w4 HB4.out) hc0 (HR.out.2.1 w4 HB4.out) hc1 (by omega) (by omega)).mono fun e w' h => JPost.when_no h hag)
              go_wp2_with fail
              refine HC.out.mono ?_
              rintro e w5 ⟨v, rfl, hR, hb⟩
              obtain ⟨Al, cl, rfl, hcl, hCl⟩ := Kd.R_reads hR
              have HCl := Aside0.mk hCl
              have HB5 := Aside0.mk (below_then HB4.out HB4.out.size hb)
              clear hb hR hCl HC
              have HC := Aside0.mk ((join2_c A1 c1 b A0 c0 a w5 (HR.out.2.1 w5 HB5.out) hc1 (HR.out.1 w5 HB5.out) hc0 (by omega) (by omega)).mono fun e w' h => JPost.when_no h hba)
              go_wp2_with fail
              refine HC.out.mono ?_
              rintro e w6 ⟨v, rfl, hR, hb⟩
              obtain ⟨Am, cm, rfl, hcm, hCm⟩ := Kd.R_reads hR
              have HCm := Aside0.mk hCm
              have HB6 := Aside0.mk (below_then HB5.out HB5.out.size hb)
              have HCl2 := Aside0.mk (Kd.C_below HCl.out hb)
              clear hb hR hCm HC
              have HC := Aside0.mk (show Calls _ _ _ _ _ from by have h := agree_calls A0 c0 a A1 c1 b w6 (HR.out.1 w6 HB6.out) hc0 (HR.out.2.1 w6 HB6.out) hc1; rw [hag] at h; exact h)
              go_wp2_with fail
              refine HC.out.mono ?_
              rintro e w7 ⟨rfl, hb⟩
              have HB7 := Aside0.mk (below_then HB6.out HB6.out.size hb)
              have HCl3 := Aside0.mk (Kd.C_below HCl2.out hb)
              have HCm3 := Aside0.mk (Kd.C_below HCm.out hb)
              clear hb HC
              have HC := Aside0.mk (show Calls _ _ _ _ _ from by have h := same_c Al cl [] Am cm [] w7 HCl3.out hcl HCm3.out hcm; rw [(sameB_iff [] []).2 rfl] at h; exact h)
              go_wp2_with fail
              refine HC.out.mono ?_
              rintro e w8 ⟨rfl, hb⟩
              have HB8 := Aside0.mk (below_then HB7.out HB7.out.size hb)
              clear hb HC
              have HC := Aside0.mk (show Calls _ _ _ _ _ from by have h := agree_calls A0 c0 a A1 c1 b w8 (HR.out.1 w8 HB8.out) hc0 (HR.out.2.1 w8 HB8.out) hc1; rw [hag] at h; exact h)
              go_wp2_with fail
              refine HC.out.mono ?_
              rintro e w9 ⟨rfl, hb⟩
              have HB9 := Aside0.mk (below_then HB8.out HB8.out.size hb)
              clear hb HC
              have HC := Aside0.mk (show Calls _ _ _ _ _ from by have h := agree_calls A1 c1 b A0 c0 a w9 (HR.out.2.1 w9 HB9.out) hc1 (HR.out.1 w9 HB9.out) hc0; rw [hba] at h; exact h)
              go_wp2_with fail
              refine HC.out.mono ?_
              rintro e w10 ⟨rfl, hb⟩
              have HB10 := Aside0.mk (below_then HB9.out HB9.out.size hb)
              clear hb HC
              have hcl := hcl
              have hcm := hcm
              go_wp2_with fail
              go_ret
              exact ⟨rfl, HB10.out⟩
            | true =>
              have hba : agreeB b a = true := by rw [agree_comm]; exact hag
              have HC := Aside0.mk ((join2_c A0 c0 a A1 c1 b w4 (HR.out.1 w4 HB4.out) hc0 (HR.out.2.1 w4 HB4.out) hc1 (by omega) (by omega)).mono fun e w' h => JPost.when_yes h hag)
              go_wp2_with fail
              refine HC.out.mono ?_
              rintro e w5 ⟨v, rl, rfl, hR, hb, hlj, hll⟩
              obtain ⟨Al, cl, rfl, hcl, hCl⟩ := Kd.R_reads hR
              have HCl := Aside0.mk hCl
              have HB5 := Aside0.mk (below_then HB4.out HB4.out.size hb)
              clear hb hR hCl HC
              have HC := Aside0.mk ((join2_c A1 c1 b A0 c0 a w5 (HR.out.2.1 w5 HB5.out) hc1 (HR.out.1 w5 HB5.out) hc0 (by omega) (by omega)).mono fun e w' h => JPost.when_yes h hba)
              go_wp2_with fail
              refine HC.out.mono ?_
              rintro e w6 ⟨v, rm, rfl, hR, hb, hmj, hml⟩
              obtain ⟨Am, cm, rfl, hcm, hCm⟩ := Kd.R_reads hR
              have HCm := Aside0.mk hCm
              have HB6 := Aside0.mk (below_then HB5.out HB5.out.size hb)
              have hrr : rm = rl := mem_same hmj.rise hlj.rise fun x => by rw [hmj.mem, hlj.mem, or_comm]
              subst hrr
              have HCl2 := Aside0.mk (Kd.C_below HCl.out hb)
              have HJ := Aside0.mk hlj
              have HLN := Aside0.mk hll
              have HRB := Aside0.mk (show ∀ w', Below w6.heap.size w6 w' → Kd.C k40 w' Al rm.length rm from fun w' h => Kd.C_below HCl2.out h)
              have HRM := Aside0.mk (show ∀ w', Below w6.heap.size w6 w' → Kd.C k40 w' Am rm.length rm from fun w' h => Kd.C_below HCm.out h)
              have HD6 := Aside0.mk (Below.refl w6.heap.size w6)
              clear hb hR hCm HC hlj hmj hml hll HCl HCm HCl2
              have HC := Aside0.mk (show Calls _ _ _ _ _ from by have h := agree_calls A0 c0 a A1 c1 b w6 (HR.out.1 w6 HB6.out) hc0 (HR.out.2.1 w6 HB6.out) hc1; rw [hag] at h; exact h)
              go_wp2_with fail
              refine HC.out.mono ?_
              rintro e w7 ⟨rfl, hb⟩
              have HB7 := Aside0.mk (below_then HB6.out HB6.out.size hb)
              have HD7 := Aside0.mk (below_then HD6.out HD6.out.size hb)
              clear hb HC
              have HC := Aside0.mk (show Calls _ _ _ _ _ from by have h := same_c Al cl rm Am cm rm w7 (HRB.out w7 HD7.out) hcl (HRM.out w7 HD7.out) hcm; rw [(sameB_iff rm rm).2 rfl] at h; exact h)
              go_wp2_with fail
              refine HC.out.mono ?_
              rintro e w8 ⟨rfl, hb⟩
              have HB8 := Aside0.mk (below_then HB7.out HB7.out.size hb)
              have HD8 := Aside0.mk (below_then HD7.out HD7.out.size hb)
              clear hb HC
              have HC := Aside0.mk (show Calls _ _ _ _ _ from by have h := agree_calls A0 c0 a A1 c1 b w8 (HR.out.1 w8 HB8.out) hc0 (HR.out.2.1 w8 HB8.out) hc1; rw [hag] at h; exact h)
              go_wp2_with fail
              refine HC.out.mono ?_
              rintro e w9 ⟨rfl, hb⟩
              have HB9 := Aside0.mk (below_then HB8.out HB8.out.size hb)
              have HD9 := Aside0.mk (below_then HD8.out HD8.out.size hb)
              clear hb HC
              have HC := Aside0.mk (show Calls _ _ _ _ _ from by have h := agree_calls A1 c1 b A0 c0 a w9 (HR.out.2.1 w9 HB9.out) hc1 (HR.out.1 w9 HB9.out) hc0; rw [hba] at h; exact h)
              go_wp2_with fail
              refine HC.out.mono ?_
              rintro e w10 ⟨rfl, hb⟩
              have HB10 := Aside0.mk (below_then HB9.out HB9.out.size hb)
              have HD10 := Aside0.mk (below_then HD9.out HD9.out.size hb)
              clear hb HC
              have hmr := joined_may hm0 hm1 HJ.out
              have hwa := within_iff.2 ⟨hm0, hmr, fun x hx => (HJ.out.mem x).2 (.inl hx)⟩
              have hwb := within_iff.2 ⟨hm1, hmr, fun x hx => (HJ.out.mem x).2 (.inr hx)⟩
              have hsum : IntKind.i64.wrap ((a.length : Int) + (b.length : Int)) = (a.length : Int) + (b.length : Int) := i64w (by omega) (by omega)
              have hgt : ¬ ((a.length : Int) + (b.length : Int) < (rm.length : Int)) := by have := HLN.out; omega
              have HSUM := Aside0.mk hsum
              clear hsum
              have HC := Aside0.mk (show Calls _ _ _ _ _ from by have h := may_c Al cl rm w10 (HRB.out w10 HD10.out) hcl; rw [hmr] at h; exact h)
              go_wp2_with fail
              refine HC.out.mono ?_
              rintro e w11 ⟨rfl, hb⟩
              have HB11 := Aside0.mk (below_then HB10.out HB10.out.size hb)
              have HD11 := Aside0.mk (below_then HD10.out HD10.out.size hb)
              clear hb HC
              have HC := Aside0.mk (show Calls _ _ _ _ _ from by have h := within_calls A0 c0 a Al cl rm w11 (HR.out.1 w11 HB11.out) hc0 (HRB.out w11 HD11.out) hcl; rw [hwa] at h; exact h)
              go_wp2_with fail
              refine HC.out.mono ?_
              rintro e w12 ⟨rfl, hb⟩
              have HB12 := Aside0.mk (below_then HB11.out HB11.out.size hb)
              have HD12 := Aside0.mk (below_then HD11.out HD11.out.size hb)
              clear hb HC
              have HC := Aside0.mk (show Calls _ _ _ _ _ from by have h := within_calls A1 c1 b Al cl rm w12 (HR.out.2.1 w12 HB12.out) hc1 (HRB.out w12 HD12.out) hcl; rw [hwb] at h; exact h)
              go_wp2_with fail
              refine HC.out.mono ?_
              rintro e w13 ⟨rfl, hb⟩
              have HB13 := Aside0.mk (below_then HB12.out HB12.out.size hb)
              have HD13 := Aside0.mk (below_then HD12.out HD12.out.size hb)
              clear hb HC
              have hsum := HSUM.out
              cases hac : withinB a c with
              | false =>
                have HC := Aside0.mk (show Calls _ _ _ _ _ from by have h := within_calls A0 c0 a A2 c2 c w13 (HR.out.1 w13 HB13.out) hc0 (HR.out.2.2 w13 HB13.out) hc2; rw [hac] at h; exact h)
                go_wp2_with fail
                refine HC.out.mono ?_
                rintro e w14 ⟨rfl, hb⟩
                have HB14 := Aside0.mk (below_then HB13.out HB13.out.size hb)
                have HD14 := Aside0.mk (below_then HD13.out HD13.out.size hb)
                clear hb HC
                go_wp2_with fail
                go_ret
                exact ⟨rfl, HB14.out⟩
              | true =>
                cases hbc : withinB b c with
                | false =>
                  have HC := Aside0.mk (show Calls _ _ _ _ _ from by have h := within_calls A0 c0 a A2 c2 c w13 (HR.out.1 w13 HB13.out) hc0 (HR.out.2.2 w13 HB13.out) hc2; rw [hac] at h; exact h)
                  go_wp2_with fail
                  refine HC.out.mono ?_
                  rintro e w14 ⟨rfl, hb⟩
                  have HB14 := Aside0.mk (below_then HB13.out HB13.out.size hb)
                  have HD14 := Aside0.mk (below_then HD13.out HD13.out.size hb)
                  clear hb HC
                  have HC := Aside0.mk (show Calls _ _ _ _ _ from by have h := within_calls A1 c1 b A2 c2 c w14 (HR.out.2.1 w14 HB14.out) hc1 (HR.out.2.2 w14 HB14.out) hc2; rw [hbc] at h; exact h)
                  go_wp2_with fail
                  refine HC.out.mono ?_
                  rintro e w15 ⟨rfl, hb⟩
                  have HB15 := Aside0.mk (below_then HB14.out HB14.out.size hb)
                  have HD15 := Aside0.mk (below_then HD14.out HD14.out.size hb)
                  clear hb HC
                  go_wp2_with fail
                  go_ret
                  exact ⟨rfl, HB15.out⟩
                | true =>
                  have hrc := joined_least hmr HJ.out hac hbc
                  have HC := Aside0.mk (show Calls _ _ _ _ _ from by have h := within_calls A0 c0 a A2 c2 c w13 (HR.out.1 w13 HB13.out) hc0 (HR.out.2.2 w13 HB13.out) hc2; rw [hac] at h; exact h)
                  go_wp2_with fail
                  refine HC.out.mono ?_
                  rintro e w14 ⟨rfl, hb⟩
                  have HB14 := Aside0.mk (below_then HB13.out HB13.out.size hb)
                  have HD14 := Aside0.mk (below_then HD13.out HD13.out.size hb)
                  clear hb HC
                  have HC := Aside0.mk (show Calls _ _ _ _ _ from by have h := within_calls A1 c1 b A2 c2 c w14 (HR.out.2.1 w14 HB14.out) hc1 (HR.out.2.2 w14 HB14.out) hc2; rw [hbc] at h; exact h)
                  go_wp2_with fail
                  refine HC.out.mono ?_
                  rintro e w15 ⟨rfl, hb⟩
                  have HB15 := Aside0.mk (below_then HB14.out HB14.out.size hb)
                  have HD15 := Aside0.mk (below_then HD14.out HD14.out.size hb)
                  clear hb HC
                  have HC := Aside0.mk (show Calls _ _ _ _ _ from by have h := within_calls Al cl rm A2 c2 c w15 (HRB.out w15 HD15.out) hcl (HR.out.2.2 w15 HB15.out) hc2; rw [hrc] at h; exact h)
                  go_wp2_with fail
                  refine HC.out.mono ?_
                  rintro e w16 ⟨rfl, hb⟩
                  have HB16 := Aside0.mk (below_then HB15.out HB15.out.size hb)
                  have HD16 := Aside0.mk (below_then HD15.out HD15.out.size hb)
                  clear hb HC
                  go_wp2_with fail
                  go_ret
                  exact ⟨rfl, HB16.out⟩
      · go_wp2_with fail
        go_ret
        exact ⟨rfl, HB1.out⟩
    · go_wp2_with fail
      go_ret
      exact ⟨rfl, HB1.out⟩
  · go_wp2_with fail
    go_ret
    exact ⟨rfl, HB1.out⟩
end Go.Proofs.YtpkcnifchggbnaaDoor.HI

namespace Go.Proofs.YtpkcnifchggbnaaDoor.signJoined
open Go.ChangeShapes Go.WideShapes Go.ChangeAt Go.RowKit Go.Joins
open Go.ChangeMaps (open_string shut_string)
set_option linter.unusedVariables false
theorem own : ownKnob Tryd.prog.godebug = none := by kernel_rfl
theorem laidOut : laidOutB Tryd.prog = true := by kernel_rfl
set_option maxRecDepth 100000 in
theorem lifted (os : Os) (started : os.Started) (H : Type) (enc : TypeId × Value → H) :
    ReturnsInHanded {} Tryd.checked os 4 .any (fun w args => (Rows.signJoinedSpec.pre enc Tryd.prog Tryd.f4 [] false w args ∧ laidMetH Tryd.prog HR.laid5 w) ∧ sizedMet enc Tryd.prog Tryd.f4 (OpenSpec.ofChange Rows.signJoinedSpec) false w args)
      (Rows.signJoinedSpec.post enc Tryd.prog Tryd.f4 false true false false) := by
  refine returnsInHanded_of_change_and (C := Tryd.checked) (X := fun w _ => laidMetH Tryd.prog HR.laid5 w) (fun _ _ _ hh h => h.of_heap hh) own started (by kernel_rfl) Tryd.func4
    (ChangeSpec.witness_shaped (enc := enc) (C := Tryd.checked) (os := os) (X := fun w _ => laidMetH Tryd.prog HR.laid5 w) false (World.laidAll Tryd.prog os HR.laid5) #[.slice none 0 0, .slice none 0 0, .slice none 0 0] 8 (World.laidAll_os _ _ _) (World.shaped_of_ZipB (by kernel_rfl) (by kernel_rfl)) (by kernel_rfl) (by kernel_rfl) (by kernel_rfl) (by rw [MakeChecks.laidMetH_plain _ _ _ (by kernel_rfl)]; exact laidMet_laidAll _ (by kernel_rfl) (by kernel_rfl))) ?_
  intro W base args ds gs before hval0 hW _ _ hL _
  have hval : ∀ (j : Nat) t v, Tryd.f4.params[j]? = some t → args[j]? = some v → Value.okWide Tryd.prog W .any base t v := hval0
  have hW' := hW
  obtain ⟨p, q, hA0, hV, rfl, hfz, hnd⟩ := hW
  have hA : DataW.TrodAll enc Tryd.prog W 0 (fun _ => true) true Tryd.f4.params.toList args.toList ds p := hA0
  rw [Tryd.params4] at hA hval
  obtain ⟨v0, vs0, d0, ds0, p0, q0, hargs, rfl, rfl, h0, r0⟩ := trodAll_cons hA
  obtain ⟨v1, vs1, d1, ds1, p1, q1, rfl, rfl, rfl, h1, r1⟩ := trodAll_cons r0
  obtain ⟨v2, vs2, d2, ds2, p2, q2, rfl, rfl, rfl, h2, r2⟩ := trodAll_cons r1
  obtain ⟨rfl, rfl, rfl⟩ := trodAll_nil r2
  obtain rfl : args = #[v0, v1, v2] := by cases args; simp_all
  obtain ⟨rfl, rfl⟩ := trodVars_none hV
  have k0 := h0
  have lt0 : ∀ x ∈ p0, x.block < W.heap.size := by obtain ⟨m, hm⟩ := k0; exact DataW.trod_lt m _ _ _ hm
  obtain ⟨a0, l0, c0, rfl⟩ := okWide_slice Tryd.underlying22 (hval 0 22 v0 rfl rfl)
  obtain ⟨xs0, rfl, hc0, hr0⟩ := HR.open_choices h0
  have k1 := h1
  have lt1 : ∀ x ∈ p1, x.block < W.heap.size := by obtain ⟨m, hm⟩ := k1; exact DataW.trod_lt m _ _ _ hm
  obtain ⟨a1, l1, c1, rfl⟩ := okWide_slice Tryd.underlying22 (hval 1 22 v1 rfl rfl)
  obtain ⟨xs1, rfl, hc1, hr1⟩ := HR.open_choices h1
  have k2 := h2
  have lt2 : ∀ x ∈ p2, x.block < W.heap.size := by obtain ⟨m, hm⟩ := k2; exact DataW.trod_lt m _ _ _ hm
  obtain ⟨a2, l2, c2, rfl⟩ := okWide_slice Tryd.underlying22 (hval 2 22 v2 rfl rfl)
  obtain ⟨xs2, rfl, hc2, hr2⟩ := HR.open_choices h2
  have hT := HR.tab_of_laid hL
  clear hA0 hval0 hL
  refine (HI.joined_w a0 c0 xs0 a1 c1 xs1 a2 c2 xs2 W hr0 hc0 hr1 hc1 hr2 hc2 hT).mono fun e W' ⟨he, bel⟩ => ?_
  subst he
  exact ⟨_, rfl, _, _, _, [], _, [], hW', trodAll_mk1 (shut_bool Tryd.underlying4 _), (trodAll_cons_mk (Below.trod laidOut (by kernel_rfl) (of_decide_eq_true (by kernel_rfl)) k0 bel lt0) (trodAll_cons_mk (Below.trod laidOut (by kernel_rfl) (of_decide_eq_true (by kernel_rfl)) k1 bel lt1) (trodAll_cons_mk (Below.trod laidOut (by kernel_rfl) (of_decide_eq_true (by kernel_rfl)) k2 bel lt2) trodAll_mk0))), rfl, bel.frame _, fun h => by cases h⟩
theorem proved : Rows.SignJoinedSaid :=
  OpenClaim.holds_of_wide 4 Tryd.f4 rfl rfl rfl rfl rfl rfl rfl ⟨rfl, rfl, rfl, rfl, rfl⟩ rfl rfl rfl rfl rfl (by kernel_rfl) Tryd.func4 (by kernel_rfl)
    (of_decide_eq_true (by kernel_rfl)) (by unfold Func.isWrapper; first | (rw [if_pos (by decide +kernel)]; kernel_rfl) | (rw [if_neg (by decide +kernel)]; exact ⟨rfl, rfl⟩))
    (fun os started H enc _ => lifted os started H enc)
theorem whole : Rows.SignJoinedCardSaid :=
  Claim7.holds_tied_plain_at .later [] [.data, .data, .data, .data, .pinned] true Rows.signJoinedCard.stood.harness Rows.signJoinedCard.stood.looks
    proved (fun _ h => by cases h) (by kernel_rfl) (fun _ h => by cases h) signJoined_row_tie rfl ⟨rfl, rfl⟩ (by kernel_rfl) rfl
    (fun f fn hf hfn => by
      obtain rfl : f = 4 := Option.some.inj ((show Tryd.prog.funcNamed "dispatcher/dispatcherlaw23.SignJoined" = some 4 by kernel_rfl).symm.trans hf) |>.symm
      obtain rfl : fn = Tryd.f4 := (Option.some.inj (Tryd.func4.symm.trans hfn)).symm
      exact ⟨by kernel_rfl, fun j t ht => by
        rw [Tryd.params4] at ht
        have hm : t ∈ [22, 22, 22] := by simpa using Array.mem_of_getElem? ht
        have hall : ([22, 22, 22].all fun u => !Tryd.prog.wantsStandIn u) = true := by kernel_rfl
        exact (show Tryd.prog.wantsStandIn t = false by simpa using List.all_eq_true.1 hall t hm)⟩)
    (by kernel_rfl)
end Go.Proofs.YtpkcnifchggbnaaDoor.signJoined
namespace Go.Proofs.YtpkcnifchggbnaaDoor
/-- The card, under a short name, for the claim. -/
theorem signJoined_holds : Rows.SignJoinedCardSaid := signJoined.whole
end Go.Proofs.YtpkcnifchggbnaaDoor
