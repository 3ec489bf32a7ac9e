/-
  PLAIN: SignTells comes to true: the document's functions of layer 23, as printed, and the program's come to the same. No program is in sight.
-/
import Derived.Test.YtpkcnifchggbnaaSgG
import Derived.Test.YtpkcnifchggbnaaQSignTellsx4
namespace Go.Proofs.Ytpkcnifchggbnaa.Pure
open Go.RowKit Go.Proofs.Ytpkcnifchggbnaa.HK Go.Proofs.Ytpkcnifchggbnaa.HP Go.Proofs.Ytpkcnifchggbnaa.HD Go.Proofs.Ytpkcnifchggbnaa.QSignTells Go.Proofs.YtpkcnifchggbnaaW.PrintWords Go.Proofs.YtpkcnifchggbnaaW.PrintLast Go.Proofs.YtpkcnifchggbnaaW.PrintMore
set_option linter.unusedVariables false
set_option linter.unusedSimpArgs false

theorem whole_flat (x y : Ch) : wholeI x y = orF [cmpI x.f0 y.f0, cmpI x.f1 y.f1, cmpI x.f4 y.f4, cmpI x.f2 y.f2, cmpI x.f3 y.f3] := by
  unfold wholeI ptsI
  simp only [orF]
  split
  · split
    · simp
    · rfl
  · rfl
theorem orF_step (a b : Int) (t : List Int) : orF (cmpI a b :: t) = if a = b then orF t else cmpI a b := by
  rcases cmpI_cases a b with ⟨h, e⟩ | ⟨h, e⟩ | ⟨h, e⟩
  · rw [if_neg (by omega)]; simp [orF, e]
  · rw [if_pos h]; simp [orF, e]
  · rw [if_neg (by omega)]; simp [orF, e]
theorem cmpI_ne {a b : Int} (h : a ≠ b) : cmpI a b ≠ 0 ∧ (cmpI a b < 0 ↔ a < b) := by
  rcases cmpI_cases a b with ⟨h, e⟩ | ⟨h, e⟩ | ⟨h, e⟩ <;> omega
theorem ref_l1 (a b : List Ch) (x y : Ch) (i : Nat) (hi : (i : Int) < 9223372036854775807) (r : Bool) (hr : Ev (fun k => dispatcherref23_Ahead.l0 k a b ((i + 1 : Nat) : Int)) r) :
    Ev (fun k => dispatcherref23_Ahead.l1 k a b (i : Int) [x.f0, x.f1, x.f4, x.f2, x.f3] [y.f0, y.f1, y.f4, y.f2, y.f3] 0) (if wholeI x y = 0 then r else decide (wholeI x y < 0)) := by
  have h3 : ∀ (j : Nat), j < 5 → (wrap64 ((j : Int) + 1)) = ((j + 1 : Nat) : Int) := fun j hj => wrap64_nat j (by omega)
  rw [whole_flat]
  have step : ∀ (j : Nat) (s : Bool) (p q : Int) (t : List Int) (hj : j < 5) (hp : rd [x.f0, x.f1, x.f4, x.f2, x.f3] (j : Int) = p) (hq : rd [y.f0, y.f1, y.f4, y.f2, y.f3] (j : Int) = q)
      (hs : Ev (fun k => dispatcherref23_Ahead.l1 k a b (i : Int) [x.f0, x.f1, x.f4, x.f2, x.f3] [y.f0, y.f1, y.f4, y.f2, y.f3] ((j + 1 : Nat) : Int)) (if orF t = 0 then r else decide (orF t < 0))),
      Ev (fun k => dispatcherref23_Ahead.l1 k a b (i : Int) [x.f0, x.f1, x.f4, x.f2, x.f3] [y.f0, y.f1, y.f4, y.f2, y.f3] (j : Int)) (if orF (cmpI p q :: t) = 0 then r else decide (orF (cmpI p q :: t) < 0)) := by
    intro j s p q t hj hp hq hs
    refine Ev.round ?_ (fun k => by simp only [dispatcherref23_Ahead.l1]; rfl)
    refine Ev.pos (by omega) ?_
    refine Ev.pos (by omega) ?_
    refine Ev.pos (by simp only [List.length_cons, List.length_nil]; omega) ?_
    refine Ev.pos (by simp only [List.length_cons, List.length_nil]; omega) ?_
    rw [hp, hq, orF_step]
    refine Ev.ite (fun h => ?_) (fun h => ?_)
    · rw [if_pos h, h3 j hj]
      exact hs
    · rw [if_neg h, if_neg (cmpI_ne h).1]
      refine Ev.const ?_
      congr 1
      rw [decide_eq_decide]
      exact (cmpI_ne h).2.symm
  refine step 0 true _ _ _ (by omega) rfl rfl ?_
  refine step 1 true _ _ _ (by omega) rfl rfl ?_
  refine step 2 true _ _ _ (by omega) rfl rfl ?_
  refine step 3 true _ _ _ (by omega) rfl rfl ?_
  refine step 4 true _ _ _ (by omega) rfl rfl ?_
  refine Ev.round ?_ (fun k => by simp only [dispatcherref23_Ahead.l1]; rfl)
  refine Ev.neg (by omega) ?_
  rw [wrap64_nat i (by omega), if_pos (by rfl)]
  exact hr
theorem ref_ahead_loop (a b : List Ch) (ha : a.length ≤ maxLen) (hb : b.length ≤ maxLen) : ∀ n i, n = a.length - i → i ≤ a.length → i ≤ b.length → Ev (fun k => dispatcherref23_Ahead.l0 k a b (i : Int)) (decide (cmpR (a.drop i) (b.drop i) < 0)) := by
  have hM : maxLen = 9223372036854775807 := rfl
  have stop : ∀ i : Nat, i ≤ a.length → i ≤ b.length → ¬ (i < a.length ∧ i < b.length) → decide (cmpR (a.drop i) (b.drop i) < 0) = decide ((a.length : Int) < (b.length : Int)) := by
    intro i hi hi' h
    by_cases h1 : i < a.length
    · rw [cmpR_more h1 (by omega), decide_eq_decide]; omega
    · by_cases h2 : i < b.length
      · rw [cmpR_less h1 h2, decide_eq_decide]; omega
      · rw [cmpR_end h1 h2, decide_eq_decide]; omega
  intro n
  induction n with
  | zero =>
    intro i hn hi hib
    refine Ev.round ?_ (fun k => by simp only [dispatcherref23_Ahead.l0]; rfl)
    refine Ev.neg (by omega) ?_
    refine Ev.round ?_ (fun k => by simp only [dispatcherref23_Ahead.j2]; rfl)
    refine Ev.neg (by simp) ?_
    refine Ev.const ?_
    rw [stop i hi hib (by omega)]
  | succ n ih =>
    intro i hn hi hib
    have hlt : i < a.length := by omega
    refine Ev.round ?_ (fun k => by simp only [dispatcherref23_Ahead.l0]; rfl)
    refine Ev.pos (by omega) ?_
    refine Ev.round ?_ (fun k => by simp only [dispatcherref23_Ahead.j2]; rfl)
    by_cases hlb : i < b.length
    · refine Ev.pos (decide_eq_true (by omega)) ?_
      refine Ev.pos (by omega) ?_
      refine Ev.pos (by omega) ?_
      refine Ev.plain_bind (by rfl) ?_
      refine Ev.pos (by omega) ?_
      refine Ev.plain_bind (by rfl) ?_
      refine Ev.eq (ref_l1 a b _ _ i (by omega) _ (ih (i + 1) (by omega) (by omega) (by omega))) ?_
      rw [cmpR_both hlt hlb]
      split <;> rfl
    · refine Ev.neg (by simp; omega) ?_
      refine Ev.const ?_
      rw [stop i hi hib (by omega)]
theorem ref_ahead (a b : List Ch) (ha : a.length ≤ maxLen) (hb : b.length ≤ maxLen) : Ev (fun k => dispatcherref23_Ahead.f k a b) (aheadB a b) := by
  have hlp := ref_ahead_loop a b ha hb a.length 0 (by omega) (by omega) (by omega)
  unfold dispatcherref23_Ahead.f aheadB
  refine Ev.bind_of (ref_may a ha) ?_
  refine Ev.ite (fun h => ?_) (fun h => ?_)
  · refine Ev.bind_of (ref_may b hb) ?_
    refine Ev.round ?_ (fun k => by simp only [dispatcherref23_Ahead.j0]; rfl)
    rw [h]
    refine Ev.ite (fun h => ?_) (fun h => ?_)
    · rw [show mayL b = false by simpa using h]
      exact Ev.const rfl
    · rw [show mayL b = true by simpa using h]
      simpa using hlp
  · refine Ev.round ?_ (fun k => by simp only [dispatcherref23_Ahead.j0]; rfl)
    refine Ev.pos (by first | rfl | trivial) ?_
    rw [show mayL a = false by simpa using h]
    exact Ev.const rfl
theorem SignTells (a b : List Ch) (r c : Int) (ha : a.length ≤ maxLen) (hb : b.length ≤ maxLen) : Ev (fun k => dispatcherlaw23_SignTells.f k a b r c) true := by
  have go : Ev (fun k => dispatcherlaw23_SignTells.j0 k a b r c false) true := by
    refine Ev.round ?_ (fun k => by simp only [dispatcherlaw23_SignTells.j0]; rfl)
    refine Ev.neg (by simp) ?_
    refine Ev.plain_bind (a := tupG (atG (findC a r c))) (by unfold sign_At.f tupG; rw [atF_eq]) ?_
    refine Ev.bind_of (ref_at a r c ha) ?_
    refine Ev.bind_of (may_ev a ha) ?_
    refine Ev.bind_of (ref_may a ha) ?_
    refine Ev.pos (by simp) ?_
    refine Ev.pos (by simp) ?_
    refine Ev.pos (by simp) ?_
    refine Ev.plain_bind (by rfl) ?_
    refine Ev.plain_bind (by rfl) ?_
    refine Ev.pos (by simp) ?_
    refine Ev.plain_bind (by rfl) ?_
    refine Ev.plain_bind (by rfl) ?_
    refine Ev.pos (by simp) ?_
    refine Ev.plain_bind (by rfl) ?_
    refine Ev.bind_of (ref_ahead a b ha hb) ?_
    exact Ev.const (by simp)
  have stop : Ev (fun k => dispatcherlaw23_SignTells.j0 k a b r c true) true := by
    refine Ev.round ?_ (fun k => by simp only [dispatcherlaw23_SignTells.j0]; rfl)
    refine Ev.pos (by first | rfl | trivial) ?_
    exact Ev.const rfl
  unfold dispatcherlaw23_SignTells.f
  refine Ev.ite (fun h => stop) (fun h => ?_)
  by_cases h2 : (b.length : Int) > 200
  · rw [decide_eq_true h2]
    exact stop
  · rw [decide_eq_false h2]
    exact go
end Go.Proofs.Ytpkcnifchggbnaa.Pure
