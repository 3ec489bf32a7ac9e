/-
  CONTRACTS BY HAND (the stable sort, 10): how askers are compared; the stable sort of a row of askers.
-/
import Derived.Test.YtkifmhfgplhabaaDoorSrI
import Derived.Test.YtkifmhfgplhabaaDoorHU
import Derived.Deep.RegionHeld3
namespace Go.Proofs.YtkifmhfgplhabaaDoor.HS
open Go.Proofs Go.Shelf Go.RowKit Go.Lib Go.Sort Go.Proofs.YtkifmhfgplhabaaDoor.HU Go.Proofs.YtkifmhfgplhabaaDoorW.PrintWords Go.Proofs.YtkifmhfgplhabaaDoorW.PrintLast Go.Proofs.YtkifmhfgplhabaaDoorW.PrintMore
set_option linter.unusedVariables false
set_option linter.unusedSimpArgs false
set_option linter.unusedSectionVars false
theorem nan_c (x : Int) (w : World) : Calls Tryd.prog 40 #[.int .i64 x] w fun e w' => e = .returned (.bool false) ∧ w = w' := by
  go_enter Tryd.func40, Tryd.ntmps40
  have h : (x != x) = false := by simp
  go_wp2
  go_ret
  exact ⟨rfl, rfl⟩
theorem compare_c (x y : Int) (w : World) : Calls Tryd.prog 32 #[.int .i64 x, .int .i64 y] w fun e w' => e = .returned (.int .i64 (compareInt x y)) ∧ w = w' := by
  go_enter Tryd.func32, Tryd.ntmps32
  go_wp2_with fail
  refine (nan_c x w).mono ?_
  rintro e w1 ⟨rfl, rfl⟩
  go_wp2_with fail
  refine (nan_c y w).mono ?_
  rintro e w1 ⟨rfl, rfl⟩
  by_cases h1 : x < y
  · have e1 : compareInt x y = -1 := by unfold compareInt; rw [if_pos h1]
    go_wp2
    go_ret
    exact ⟨by rw [e1]; rfl, rfl⟩
  · by_cases h2 : y < x
    · have e1 : compareInt x y = 1 := by unfold compareInt; rw [if_neg h1, if_pos h2]
      go_wp2
      go_ret
      exact ⟨by rw [e1]; rfl, rfl⟩
    · have e1 : compareInt x y = 0 := by unfold compareInt; rw [if_neg h1, if_neg h2]
      go_wp2
      go_ret
      exact ⟨by rw [e1]; rfl, rfl⟩
def orI (a b : Int) : Int := if a = 0 then b else a
theorem or_c (b : Nat) (x y : Int) (w : World) (h0 : w.cell? ⟨b, 0, none⟩ = some (.int .i64 x)) (h1 : w.cell? ⟨b, 1, none⟩ = some (.int .i64 y)) : Calls Tryd.prog 31 #[.slice (some ⟨b, 0, none⟩) 2 2] w fun e w' => e = .returned (.int .i64 (orI x y)) ∧ w = w' := by
  go_enter Tryd.func31, Tryd.ntmps31
  go_wp2
  go_loopw [8] (fun s8 wr => ∃ i : Nat, s8 = .int .i64 i ∧ i ≤ 2 ∧ (0 < i → x = 0) ∧ (1 < i → y = 0) ∧ wr = w) (fun s8 _ => 2 - (intOf s8).toNat)
  case atStart => exact ⟨0, rfl, by omega, by omega, by omega, rfl⟩
  case round =>
    obtain ⟨i, rfl, hi, hx, hy, rfl⟩ := hrel
    rcases (by omega : i = 0 ∨ i = 1 ∨ i = 2) with rfl | rfl | rfl
    · by_cases hx0 : x = 0
      · subst hx0
        go_wp2
        go_roundw
        case rel => exact ⟨1, by go_num, by omega, by simp, by omega, by first | rfl | trivial⟩
        case measure => simp [intOf]
      · have e1 : (x != 0) = true := by simpa using hx0
        have e2 : orI x y = x := by unfold orI; rw [if_neg hx0]
        clear hx hy
        go_wp2
        go_ret
        exact ⟨by rw [e2]; rfl, rfl⟩
    · obtain rfl := hx (by omega)
      by_cases hy0 : y = 0
      · subst hy0
        go_wp2
        go_roundw
        case rel => exact ⟨2, by go_num, by omega, by simp, by simp, by first | rfl | trivial⟩
        case measure => simp [intOf]
      · have e1 : (y != 0) = true := by simpa using hy0
        have e2 : orI 0 y = y := by unfold orI; rw [if_pos rfl]
        clear hx hy
        go_wp2
        go_ret
        exact ⟨by rw [e2]; rfl, rfl⟩
    · obtain rfl := hx (by omega)
      obtain rfl := hy (by omega)
      go_wp2
      go_ret
      exact ⟨rfl, rfl⟩
/-- one who asks: color, key, rank, and which number it had -/
structure El where
  c : Int
  k : Int
  r : Int
  i : Nat
  deriving Inhabited
def encE (x : El) : List Value := [.int .i64 x.c, .int .i64 x.k, .int .i64 x.r]
def cfE (x y : El) : Int := orI (compareInt x.c y.c) (compareInt x.k y.k)
theorem add_two (W : World) (a b c : Obj) : (((W.alloc a).alloc b).alloc c).drew = grow (W.drewN 1) #[a, b, c] := by
  rw [alloc_eq_grow, alloc_eq_grow, alloc_eq_grow, grow_grow, grow_grow, drew_grow]
  rfl
set_option maxHeartbeats 4000000 in
theorem closure_c (x y : El) (W : World) : Calls Tryd.prog 30 #[.agg (encE x).toArray, .agg (encE y).toArray] W fun e w' => e = .returned (.int .i64 (cfE x y)) ∧ ∃ q os', w' = grow (W.drewN q) os' := by
  obtain ⟨c1, k1, r1, i1⟩ := x
  obtain ⟨c2, k2, r2, i2⟩ := y
  unfold encE cfE
  dsimp only
  have b0 := blk_alloc (blk_new W (.cells #[.int .i64 c1, .int .i64 k1, .int .i64 r1] 67)) (.cells #[.int .i64 c2, .int .i64 k2, .int .i64 r2] 67)
  have b1 := blk_second W (.cells #[.int .i64 c1, .int .i64 k1, .int .i64 r1] 67) (.cells #[.int .i64 c2, .int .i64 k2, .int .i64 r2] 67)
  go_enter Tryd.func30, Tryd.ntmps30
  have p0 : ((W.alloc (.cells #[.int .i64 c1, .int .i64 k1, .int .i64 r1] 67)).alloc (.cells #[.int .i64 c2, .int .i64 k2, .int .i64 r2] 67)).cell? ⟨W.heap.size, 0, none⟩ = some (.int .i64 c1) := (blk_cell b0 0).trans rfl
  have p1 : ((W.alloc (.cells #[.int .i64 c1, .int .i64 k1, .int .i64 r1] 67)).alloc (.cells #[.int .i64 c2, .int .i64 k2, .int .i64 r2] 67)).cell? ⟨W.heap.size, 1, none⟩ = some (.int .i64 k1) := (blk_cell b0 1).trans rfl
  have q0 : ((W.alloc (.cells #[.int .i64 c1, .int .i64 k1, .int .i64 r1] 67)).alloc (.cells #[.int .i64 c2, .int .i64 k2, .int .i64 r2] 67)).cell? ⟨W.heap.size + 1, 0, none⟩ = some (.int .i64 c2) := (blk_cell b1 0).trans rfl
  have q1 : ((W.alloc (.cells #[.int .i64 c1, .int .i64 k1, .int .i64 r1] 67)).alloc (.cells #[.int .i64 c2, .int .i64 k2, .int .i64 r2] 67)).cell? ⟨W.heap.size + 1, 1, none⟩ = some (.int .i64 k2) := (blk_cell b1 1).trans rfl
  have HEND := Aside0.mk (fun o => add_two W (.cells #[.int .i64 c1, .int .i64 k1, .int .i64 r1] 67) (.cells #[.int .i64 c2, .int .i64 k2, .int .i64 r2] 67) o)
  clear b0 b1
  go_wp2_with fail
  generalize (W.alloc (.cells #[.int .i64 c1, .int .i64 k1, .int .i64 r1] 67)).alloc (.cells #[.int .i64 c2, .int .i64 k2, .int .i64 r2] 67) = w1 at p0 p1 q0 q1 HEND ⊢
  generalize W.heap.size = b at p0 p1 q0 q1
  have o0 : (w1.alloc (.cells #[.int .i64 (compareInt c1 c2), .int .i64 (compareInt k1 k2)] 3)).drew.cell? ⟨w1.heap.size, 0, none⟩ = some (.int .i64 (compareInt c1 c2)) := (blk_cell (blk_new w1 (.cells #[.int .i64 (compareInt c1 c2), .int .i64 (compareInt k1 k2)] 3)) 0).trans rfl
  have o1 : (w1.alloc (.cells #[.int .i64 (compareInt c1 c2), .int .i64 (compareInt k1 k2)] 3)).drew.cell? ⟨w1.heap.size, 1, none⟩ = some (.int .i64 (compareInt k1 k2)) := (blk_cell (blk_new w1 (.cells #[.int .i64 (compareInt c1 c2), .int .i64 (compareInt k1 k2)] 3)) 1).trans rfl
  have HOR := Aside0.mk (or_c _ _ _ _ o0 o1)
  clear o0 o1
  go_region_held3 (fun W => W.cell? ⟨b, 0, none⟩ = some (.int .i64 c1) ∧ W.cell? ⟨b, 1, none⟩ = some (.int .i64 k1) ∧ W.cell? ⟨b + 1, 0, none⟩ = some (.int .i64 c2) ∧ W.cell? ⟨b + 1, 1, none⟩ = some (.int .i64 k2))
    (first | exact ⟨p0, p1, q0, q1⟩ | exact ⟨cell_alloc1 p0 _, cell_alloc1 p1 _, cell_alloc1 q0 _, cell_alloc1 q1 _⟩ | go_keep)
    (first
      | (go_at_call 32; with_reducible refine (compare_c c1 c2 _).mono ?_; rintro e w2 ⟨rfl, rfl⟩)
      | (go_at_call 32; with_reducible refine (compare_c k1 k2 _).mono ?_; rintro e w2 ⟨rfl, rfl⟩)
      | (go_at_call 31; with_reducible refine HOR.out.mono ?_; rintro e w2 ⟨rfl, rfl⟩))
  all_goals (
    go_wp2
    go_ret
    exact ⟨rfl, 1, _, HEND.out _⟩)
end Go.Proofs.YtkifmhfgplhabaaDoor.HS
