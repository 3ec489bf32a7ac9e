/-
  PLAIN: whether a point may be one: the program's and the document's printed functions come to the same. No program is in sight.
-/
import Derived.Test.YtfmlpcdbllpcaaaDoorPtA
import Derived.Test.YtfmlpcdbllpcaaaDoorHP
import Derived.Test.YtfmlpcdbllpcaaaDoorQpbasex2
import Derived.Test.YtfmlpcdbllpcaaaDoorQpbasex3
namespace Go.Proofs.YtfmlpcdbllpcaaaDoor.HD
open Go.RowKit Go.Proofs.YtfmlpcdbllpcaaaDoor.HK Go.Proofs.YtfmlpcdbllpcaaaDoor.HP Go.Proofs.YtfmlpcdbllpcaaaDoorW.PrintWords Go.Proofs.YtfmlpcdbllpcaaaDoorW.PrintLast Go.Proofs.YtfmlpcdbllpcaaaDoorW.PrintMore
set_option linter.unusedVariables false
set_option linter.unusedSimpArgs false
theorem rd_ch {l : List Ch} {i : Nat} (h : i < l.length) : rd_T49 l (i : Int) = l[i] := by simp [rd_T49, h]
def eqC (x y : Ch) : Bool := x.f0 == y.f0 && (x.f1 == y.f1 && (x.f2 == y.f2 && (x.f3 == y.f3 && x.f4 == y.f4)))
theorem ch_ext {x y : Ch} (h0 : x.f0 = y.f0) (h1 : x.f1 = y.f1) (h2 : x.f2 = y.f2) (h3 : x.f3 = y.f3) (h4 : x.f4 = y.f4) : x = y := by
  cases x; cases y; simp_all
theorem eqC_iff {x y : Ch} : eqC x y = true ↔ x = y := by
  constructor
  · intro h
    unfold eqC at h
    simp only [Bool.and_eq_true, beq_iff_eq] at h
    exact ch_ext h.1 h.2.1 h.2.2.1 h.2.2.2.1 h.2.2.2.2
  · rintro rfl
    simp [eqC]
theorem eqC_comm (x y : Ch) : eqC x y = eqC y x := by
  rw [Bool.eq_iff_iff, eqC_iff, eqC_iff]
  exact eq_comm
/-- the place of the first one that is such, from a number on -/
def idxF {α : Type} (p : α → Bool) : List α → Int → Int
  | [], _ => -1
  | a :: t, i => if p a then i else idxF p t (i + 1)
theorem idxF_any {α : Type} (p : α → Bool) (l : List α) : ∀ i : Int, 0 ≤ i → decide (0 ≤ idxF p l i) = l.any p := by
  induction l with
  | nil => intro i _; simp [idxF]
  | cons a t ih =>
    intro i hi
    simp only [idxF, List.any_cons]
    by_cases h : p a = true
    · simp [h, hi]
    · have h : p a = false := by simpa using h
      simp [h, ← ih (i + 1) (by omega)]
theorem index_loop (l : List Ch) (x : Ch) (hl : l.length ≤ maxLen) : ∀ n i, n = l.length - i → i ≤ l.length → Ev (fun k => Qpbase.api_Choice_38.l0 k l (l.length : Int) (i : Int) x.f0 x.f1 x.f2 x.f3 x.f4) (idxF (eqC x) (l.drop i) (i : Int)) := by
  have hM : maxLen = 9223372036854775807 := rfl
  intro n
  induction n with
  | zero =>
    intro i hn hi
    refine Ev.round ?_ (fun k => by simp only [Qpbase.api_Choice_38.l0]; rfl)
    refine Ev.neg (by omega) ?_
    refine Ev.const ?_
    rw [List.drop_eq_nil_of_le (by omega)]
    rfl
  | succ n ih =>
    intro i hn hi
    have hlt : i < l.length := by omega
    refine Ev.round ?_ (fun k => by simp only [Qpbase.api_Choice_38.l0]; rfl)
    refine Ev.pos (by omega) ?_
    refine Ev.pos (by omega) ?_
    refine Ev.pos (by omega) ?_
    rw [drop_cons hlt, rd_ch hlt]
    unfold idxF
    refine Ev.ite (fun h => ?_) (fun h => ?_)
    · rw [if_pos (show eqC x l[i] = true from h)]
      exact Ev.const rfl
    · rw [if_neg (show ¬ eqC x l[i] = true from h), wrap64_nat i (by omega)]
      exact ih (i + 1) (by omega) (by omega)
theorem has_ev (l : List Ch) (x : Ch) (hl : l.length ≤ maxLen) : Ev (fun k => Qpbase.api_Choice_34.f k l x.f0 x.f1 x.f2 x.f3 x.f4) (l.any (eqC x)) := by
  have := index_loop l x hl l.length 0 (by omega) (by omega)
  unfold Qpbase.api_Choice_34.f
  refine Ev.bind_of (a := idxF (eqC x) l 0) (by simpa [Qpbase.api_Choice_38.f] using this) ?_
  refine Ev.const ?_
  rw [← idxF_any (eqC x) l 0 (by omega)]
/-- may those from a place on be values of a point? -/
def mayQ (r c : Int) (l : List Ch) : Nat → Nat → Bool
  | 0, _ => true
  | n + 1, i => (rd_T49 l (i : Int)).f0 == r && ((rd_T49 l (i : Int)).f1 == c && (!(l.take i).any (eqC (rd_T49 l (i : Int))) && mayQ r c l n (i + 1)))
/-- may a point be one? -/
def mayP (r c : Int) (l : List Ch) : Bool := mayQ r c l l.length 0 && decide (0 < l.length)
theorem may_loop (r c : Int) (l : List Ch) (hl : l.length ≤ maxLen) : ∀ n i, n = l.length - i → i ≤ l.length → Ev (fun k => Qpbase.path_may.l0 k l (l.length : Int) (i : Int) r c l) (mayQ r c l n i && decide (0 < l.length)) := by
  have hM : maxLen = 9223372036854775807 := rfl
  intro n
  induction n with
  | zero =>
    intro i hn hi
    refine Ev.round ?_ (fun k => by simp only [Qpbase.path_may.l0]; rfl)
    refine Ev.neg (by omega) ?_
    refine Ev.const ?_
    simp [mayQ]
  | succ n ih =>
    intro i hn hi
    have hlt : i < l.length := by omega
    refine Ev.round ?_ (fun k => by simp only [Qpbase.path_may.l0]; rfl)
    refine Ev.pos (by omega) ?_
    refine Ev.pos (by omega) ?_
    refine Ev.pos (by omega) ?_
    unfold mayQ
    refine Ev.ite (fun h => ?_) (fun h => ?_)
    · rw [beq_iff_eq.2 h, Bool.true_and]
      refine Ev.ite (fun h => ?_) (fun h => ?_)
      · rw [beq_iff_eq.2 h, Bool.true_and]
        refine Ev.pos (by omega) ?_
        rw [Int.toNat_natCast]
        refine Ev.bind_of (has_ev _ _ (by rw [List.length_take]; omega)) ?_
        refine Ev.ite (fun h => ?_) (fun h => ?_)
        · rw [h]
          exact Ev.const rfl
        · rw [show (l.take i).any (eqC (rd_T49 l (i : Int))) = false by simpa using h, wrap64_nat i (by omega)]
          simpa using ih (i + 1) (by omega) (by omega)
      · rw [beq_eq_false_iff_ne.2 h]
        exact Ev.const rfl
    · rw [beq_eq_false_iff_ne.2 h]
      exact Ev.const rfl
theorem may_ev (r c : Int) (l : List Ch) (hl : l.length ≤ maxLen) : Ev (fun k => Qpbase.path_may.f k r c l) (mayP r c l) := by
  have := may_loop r c l hl l.length 0 (by omega) (by omega)
  simpa [Qpbase.path_may.f, mayP] using this
theorem may_c (r q : Int) (A : Option Addr) (c : Nat) (l : List Ch) (W : World) (hr : Kd.C k49 W A l.length l) (hc : l.length ≤ c) :
    Calls Tryd.prog 26 #[.agg #[.int .i64 r, .int .i64 q, .slice A l.length c]] W fun e w' => e = .returned (.bool (mayP r q l)) ∧ Below W.heap.size W w' := by
  obtain ⟨K, h⟩ := may_ev r q l (Kd.C_max hr)
  exact Qpbase.path_may.calls K r q A c l _ W hr hc (h K (Nat.le_refl _))
end Go.Proofs.YtfmlpcdbllpcaaaDoor.HD
