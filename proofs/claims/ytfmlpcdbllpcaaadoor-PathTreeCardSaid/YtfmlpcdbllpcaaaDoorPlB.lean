/-
  PLAIN: Same of steps and themselves; Great: the printed functions' answers. No program is in sight but their contracts.
-/
import Derived.Test.YtfmlpcdbllpcaaaDoorPlA
namespace Go.Proofs.YtfmlpcdbllpcaaaDoor.HQ
open Go.Proofs.YtfmlpcdbllpcaaaDoor.HD Go.Proofs.YtfmlpcdbllpcaaaDoor.HU Go.RowKit Go.Proofs.YtfmlpcdbllpcaaaDoor.HK Go.Proofs.YtfmlpcdbllpcaaaDoor.HP Go.Proofs.YtfmlpcdbllpcaaaDoorW.PrintWords Go.Proofs.YtfmlpcdbllpcaaaDoorW.PrintLast Go.Proofs.YtfmlpcdbllpcaaaDoorW.PrintMore
set_option linter.unusedVariables false
set_option linter.unusedSimpArgs false
theorem same_loop (a : List Sp) (hl : a.length ≤ maxLen) : ∀ n i, n = a.length - i → i ≤ a.length → Ev (fun k => Qlbase.dispatcherref24_Same.l0 k a a (i : Int)) true := by
  have hM : maxLen = 9223372036854775807 := rfl
  intro n
  induction n with
  | zero =>
    intro i hn hi
    refine Ev.round ?_ (fun k => by simp only [Qlbase.dispatcherref24_Same.l0]; rfl)
    exact Ev.neg (by omega) (Ev.const rfl)
  | succ n ih =>
    intro i hn hi
    refine Ev.round ?_ (fun k => by simp only [Qlbase.dispatcherref24_Same.l0]; rfl)
    refine Ev.pos (by omega) ?_
    refine Ev.pos (by omega) ?_
    refine Ev.pos (by omega) ?_
    refine Ev.neg (by simp) ?_
    rw [wrap64_nat i (by omega)]
    exact ih (i + 1) (by omega) (by omega)
theorem same_self (a : List Sp) (hl : a.length ≤ maxLen) : Ev (fun k => Qlbase.dispatcherref24_Same.f k a a) true := by
  unfold Qlbase.dispatcherref24_Same.f
  refine Ev.pos rfl ?_
  simpa using same_loop a hl a.length 0 (by omega) (by omega)
theorem same_c (A : Option Addr) (c : Nat) (A2 : Option Addr) (c2 : Nat) (a : List Sp) (w : World) (hr : Kd.C k51 w A a.length a) (hc : a.length ≤ c) (hr2 : Kd.C k51 w A2 a.length a) (hc2 : a.length ≤ c2) :
    Calls Tryd.prog 17 #[.slice A a.length c, .slice A2 a.length c2] w fun e w' => e = .returned (.bool true) ∧ Below w.heap.size w w' := by
  obtain ⟨K, h⟩ := same_self a (Kd.C_max hr)
  refine (Qlbase.dispatcherref24_Same.calls K A c a A2 c2 a true w hr hc hr2 hc2 (h K (Nat.le_refl _))).mono ?_
  rintro e w' ⟨rfl, hd⟩
  exact ⟨rfl, hd.below⟩
abbrev Act_ := S47
/-- are acts more than are gone through? -/
def greatB (l : List Act_) : Bool := decide (200 < l.length) || l.any (fun a => decide (100 < a.f1.f2.length))
theorem great_loop (a : List Act_) (hl : a.length ≤ maxLen) : ∀ n i, n = a.length - i → i ≤ a.length → Ev (fun k => Qlbase.dispatcherlaw24_Great.l0 k a (i : Int)) ((a.drop i).any (fun a => decide (100 < a.f1.f2.length))) := by
  have hM : maxLen = 9223372036854775807 := rfl
  intro n
  induction n with
  | zero =>
    intro i hn hi
    refine Ev.round ?_ (fun k => by simp only [Qlbase.dispatcherlaw24_Great.l0]; rfl)
    refine Ev.neg (by omega) (Ev.const ?_)
    rw [List.drop_eq_nil_of_le (by omega)]
    rfl
  | succ n ih =>
    intro i hn hi
    have hlt : i < a.length := by omega
    refine Ev.round ?_ (fun k => by simp only [Qlbase.dispatcherlaw24_Great.l0]; rfl)
    refine Ev.pos (by omega) ?_
    refine Ev.pos (by omega) ?_
    have hrd : rd_T47 a (i : Int) = a[i] := by simp [rd_T47, hlt]
    rw [drop_cons hlt, List.any_cons, hrd]
    refine Ev.ite (fun h => ?_) (fun h => ?_)
    · rw [decide_eq_true (by omega)]
      exact Ev.const rfl
    · rw [decide_eq_false (by omega), Bool.false_or, wrap64_nat i (by omega)]
      exact ih (i + 1) (by omega) (by omega)
theorem great_ev (a : List Act_) (hl : a.length ≤ maxLen) : Ev (fun k => Qlbase.dispatcherlaw24_Great.f k a) (greatB a) := by
  unfold Qlbase.dispatcherlaw24_Great.f greatB
  refine Ev.ite (fun h => ?_) (fun h => ?_)
  · rw [decide_eq_true (by omega)]
    exact Ev.const rfl
  · rw [decide_eq_false (by omega), Bool.false_or]
    simpa using great_loop a hl a.length 0 (by omega) (by omega)
theorem great_c (A : Option Addr) (c : Nat) (a : List Act_) (w : World) (hr : Kd.C k47 w A a.length a) (hc : a.length ≤ c) :
    Calls Tryd.prog 19 #[.slice A a.length c] w fun e w' => e = .returned (.bool (greatB a)) ∧ Below w.heap.size w w' := by
  obtain ⟨K, h⟩ := great_ev a (Kd.C_max hr)
  refine (Qlbase.dispatcherlaw24_Great.calls K A c a (greatB a) w hr hc (h K (Nat.le_refl _))).mono ?_
  rintro e w' ⟨rfl, hd⟩
  exact ⟨rfl, by first | exact hd | exact hd.below⟩
theorem great_not {a : List Act_} (h : greatB a = false) : a.length ≤ 200 ∧ ∀ x ∈ a, x.f1.f2.length ≤ 100 := by
  unfold greatB at h
  simp only [Bool.or_eq_false_iff, decide_eq_false_iff_not, List.any_eq_false, decide_eq_true_eq] at h
  exact ⟨by omega, fun x hx => by have := h.2 x hx; omega⟩
end Go.Proofs.YtfmlpcdbllpcaaaDoor.HQ
