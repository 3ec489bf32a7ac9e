/-
  CONTRACTS BY HAND (the stable sort, 13): nobody asked: nothing is sorted.
-/
import Derived.Test.YtkifmhfgplhabaaDoorSrL
namespace Go.Proofs.YtkifmhfgplhabaaDoor.HS
open Go.Proofs Go.Shelf Go.RowKit Go.Lib Go.Sort Go.Proofs.YtkifmhfgplhabaaDoor.HU Go.Proofs.YtkifmhfgplhabaaDoor.HK Go.Proofs.YtkifmhfgplhabaaDoorW.PrintWords Go.Proofs.YtkifmhfgplhabaaDoorW.PrintLast Go.Proofs.YtkifmhfgplhabaaDoorW.PrintMore
set_option linter.unusedVariables false
set_option linter.unusedSimpArgs false
theorem ins0_c (A : Option Addr) (cap : Nat) (f : Value) (w : World) : Calls Tryd.prog 42 #[.slice A 0 cap, .int .i64 0, .int .i64 0, f] w fun e w' => e = .returned (.tuple #[]) ∧ w = w' := by
  go_enter Tryd.func42, Tryd.ntmps42
  go_wp2
  go_loopg [8] 0 (fun kx s8 wr => s8 = .int .i64 1 ∧ wr = w)
  case atStart => exact ⟨rfl, rfl⟩
  case round =>
    obtain ⟨rfl, rfl⟩ := hrel
    go_wp2
    go_end0
    exact ⟨rfl, rfl⟩
theorem stable0_c (A : Option Addr) (cap : Nat) (f : Value) (w : World) : Calls Tryd.prog 39 #[.slice A 0 cap, .int .i64 0, f] w fun e w' => e = .returned (.tuple #[]) ∧ w = w' := by
  go_enter Tryd.func39, Tryd.ntmps39
  go_wp2
  go_loopg [7, 8] 0 (fun kx s7 s8 wr => s7 = .int .i64 0 ∧ s8 = .int .i64 20 ∧ wr = w)
  case atStart => exact ⟨rfl, rfl, rfl⟩
  case round =>
    obtain ⟨rfl, rfl, rfl⟩ := hrel
    go_wp2_with fail
    refine (ins0_c A cap f wr).mono ?_
    rintro e w1 ⟨rfl, rfl⟩
    go_wp2_with fail
    go_loopg [6] 0 (fun kx s6 wr2 => s6 = .int .i64 20 ∧ wr2 = wr)
    case atStart => exact ⟨rfl, rfl⟩
    case round =>
      obtain ⟨rfl, hw⟩ := hrel
      go_wp2
      go_end0
      exact ⟨rfl, by first | rfl | exact hw.symm⟩
theorem sort0_c (A : Option Addr) (cap : Nat) (f : Value) (w : World) : Calls Tryd.prog 29 #[.slice A 0 cap, f] w fun e w' => e = .returned (.tuple #[]) ∧ w = w' := by
  go_enter Tryd.func29, Tryd.ntmps29
  go_wp2_with fail
  refine (stable0_c A cap f w).mono ?_
  rintro e w1 ⟨rfl, rfl⟩
  go_wp2
  go_end0
  exact ⟨rfl, rfl⟩
theorem sortA_nil : sortA [] = [] := rfl
/-- the sort, whether anybody asked or not -/
theorem sort_any {e base : Nat} {ok : Nat → Prop} {v : Value} {xs : List Asd} {w : World} (h : Kd.R k67 e w base ok v xs) (hl : xs.length < 1000000) :
    ∃ A c, v = .slice A xs.length c ∧ xs.length ≤ c ∧ Calls Tryd.prog 29 #[v, .func (.func 30) #[] #[]] w fun e w' => e = .returned (.tuple #[]) ∧ Kd.C k67 w' A xs.length (sortA xs) ∧ Kept w w' (fun k => some k = v.ownBlock) ∧ ∀ B, (∀ k, v.ownBlock = some k → B ≤ k) → Below B w w' := by
  obtain ⟨A, c, rfl, hc, hC⟩ := Kd.R_reads h
  refine ⟨A, c, rfl, hc, ?_⟩
  rcases Nat.eq_zero_or_pos xs.length with h0 | h0
  · obtain rfl : xs = [] := List.eq_nil_of_length_eq_zero h0
    refine (sort0_c A c _ w).mono ?_
    rintro e w1 ⟨rfl, rfl⟩
    exact ⟨rfl, hC, Kept.refl _ _, fun B _ => Below.refl B w⟩
  · exact sort_c h h0 hl
end Go.Proofs.YtkifmhfgplhabaaDoor.HS
