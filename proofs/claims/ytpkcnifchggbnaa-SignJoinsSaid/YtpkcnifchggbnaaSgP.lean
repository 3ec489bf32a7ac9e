/-
  PLAIN: what the printed functions of package sign (and cmp) come to. No program is in sight.
-/
import Derived.Test.YtpkcnifchggbnaaSgB
import Derived.Test.YtpkcnifchggbnaaHP
namespace Go.Proofs.Ytpkcnifchggbnaa.HD
open Go.RowKit Go.Proofs.Ytpkcnifchggbnaa.HK Go.Proofs.Ytpkcnifchggbnaa.HP Go.Proofs.YtpkcnifchggbnaaW.PrintWords Go.Proofs.YtpkcnifchggbnaaW.PrintLast Go.Proofs.YtpkcnifchggbnaaW.PrintMore
set_option linter.unusedVariables false
set_option linter.unusedSimpArgs false

def cmpI (a b : Int) : Int := if a < b then -1 else if a > b then 1 else 0
theorem cmp_eq (a b : Int) : Qsbase.cmp_Compare_int.f a b = some (cmpI a b) := by
  simp only [Qsbase.cmp_Compare_int.f, Qsbase.cmp_isNaN_int.f, cmpI, bne_self_eq_false, Option.bind_some, Bool.false_eq_true, if_false]
  split
  · rfl
  · split <;> rfl
def orF : List Int → Int
  | [] => 0
  | x :: t => if x = 0 then orF t else x
theorem or_loop (l : List Int) (hl : l.length ≤ maxLen) : ∀ n i, n = l.length - i → i ≤ l.length → Ev (fun k => Qsbase.cmp_Or_int.l0 k 0 l (l.length : Int) (i : Int)) (orF (l.drop i)) := by
  have hM : maxLen = 9223372036854775807 := rfl
  intro n
  induction n with
  | zero =>
    intro i hn hi
    refine Ev.round ?_ (fun k => by simp only [Qsbase.cmp_Or_int.l0]; rfl)
    refine Ev.neg (by omega) ?_
    refine Ev.const ?_
    rw [List.drop_eq_nil_of_le (by omega)]
    rfl
  | succ n ih =>
    intro i hn hi
    have hlt : i < l.length := by omega
    refine Ev.round ?_ (fun k => by simp only [Qsbase.cmp_Or_int.l0]; rfl)
    refine Ev.pos (by omega) ?_
    refine Ev.pos (by omega) ?_
    refine Ev.pos (by omega) ?_
    rw [drop_cons hlt, rd_lt hlt]
    unfold orF
    refine Ev.ite (fun h => ?_) (fun h => ?_)
    · rw [if_pos h, wrap64_nat i (by omega)]
      exact ih (i + 1) (by omega) (by omega)
    · rw [if_neg h]
      exact Ev.const rfl
theorem or_ev (l : List Int) (hl : l.length ≤ maxLen) : Ev (fun k => Qsbase.cmp_Or_int.f k l) (orF l) := by
  have := or_loop l hl l.length 0 (by omega) (by omega)
  simpa [Qsbase.cmp_Or_int.f] using this
abbrev Ch := S24
def ptsI (x y : Ch) : Int := orF [cmpI x.f0 y.f0, cmpI x.f1 y.f1]
theorem pts_ev (x y : Ch) : Ev (fun k => Qsbase.sign_points.f k x.f0 x.f1 x.f2 x.f3 x.f4 y.f0 y.f1 y.f2 y.f3 y.f4) (ptsI x y) := by
  unfold Qsbase.sign_points.f
  refine Ev.plain_bind (cmp_eq _ _) ?_
  refine Ev.plain_bind (cmp_eq _ _) ?_
  refine Ev.bind_of (or_ev _ (by simp [maxLen])) ?_
  exact Ev.const rfl
def wholeI (x y : Ch) : Int := orF [ptsI x y, cmpI x.f4 y.f4, cmpI x.f2 y.f2, cmpI x.f3 y.f3]
theorem whole_ev (x y : Ch) : Ev (fun k => Qsbase.sign_whole.f k x.f0 x.f1 x.f2 x.f3 x.f4 y.f0 y.f1 y.f2 y.f3 y.f4) (wholeI x y) := by
  unfold Qsbase.sign_whole.f
  refine Ev.bind_of (pts_ev x y) ?_
  refine Ev.plain_bind (cmp_eq _ _) ?_
  refine Ev.plain_bind (cmp_eq _ _) ?_
  refine Ev.plain_bind (cmp_eq _ _) ?_
  refine Ev.bind_of (or_ev _ (by simp [maxLen])) ?_
  exact Ev.const rfl
def oneB (x : Ch) : Bool := decide (0 ≤ x.f0 ∧ x.f0 ≤ 63 ∧ 0 ≤ x.f2 ∧ x.f2 ≤ 63 ∧ 0 ≤ x.f1 ∧ x.f1 ≤ 1099511627776 ∧ 0 ≤ x.f3 ∧ x.f3 ≤ 1099511627776 ∧ -1 ≤ x.f4 ∧ x.f4 ≤ 7)
theorem in_eq (a b c : Int) : Qsbase.sign_in.f a b c = some (decide (b ≤ a ∧ a ≤ c)) := by
  unfold Qsbase.sign_in.f
  split
  · congr 1
    rw [decide_eq_decide]
    omega
  · congr 1
    symm
    rw [decide_eq_false_iff_not]
    omega
theorem one_eq (x : Ch) : Qsbase.sign_one.f x.f0 x.f1 x.f2 x.f3 x.f4 = some (oneB x) := by
  unfold Qsbase.sign_one.f oneB
  simp only [in_eq, Option.bind_some, decide_eq_true_eq]
  split
  · split
    · split
      · split
        · congr 1
          rw [decide_eq_decide]
          omega
        · congr 1
          symm
          rw [decide_eq_false_iff_not]
          omega
      · congr 1
        symm
        rw [decide_eq_false_iff_not]
        omega
    · congr 1
      symm
      rw [decide_eq_false_iff_not]
      omega
  · congr 1
    symm
    rw [decide_eq_false_iff_not]
    omega
/-- may the choices behind another one be? -/
def mayR : Option Ch → List Ch → Bool
  | _, [] => true
  | p, x :: t => oneB x && (match p with | none => true | some q => decide (ptsI q x < 0)) && mayR (some x) t
theorem may_loop (l : List Ch) (hl : l.length ≤ maxLen) : ∀ n i, n = l.length - i → i ≤ l.length → Ev (fun k => Qsbase.sign_May.l0 k l l (l.length : Int) (i : Int)) (mayR (if i = 0 then none else some (rd_T24 l ((i - 1 : Nat) : Int))) (l.drop i)) := by
  have hM : maxLen = 9223372036854775807 := rfl
  intro n
  induction n with
  | zero =>
    intro i hn hi
    refine Ev.round ?_ (fun k => by simp only [Qsbase.sign_May.l0]; rfl)
    refine Ev.neg (by omega) ?_
    refine Ev.const ?_
    rw [List.drop_eq_nil_of_le (by omega)]
    cases (if i = 0 then none else some (rd_T24 l ((i - 1 : Nat) : Int))) <;> rfl
  | succ n ih =>
    intro i hn hi
    have hlt : i < l.length := by omega
    have ih := ih (i + 1) (by omega) (by omega)
    rw [if_neg (by omega), Nat.add_sub_cancel] at ih
    refine Ev.round ?_ (fun k => by simp only [Qsbase.sign_May.l0]; rfl)
    refine Ev.pos (by omega) ?_
    refine Ev.pos (by omega) ?_
    refine Ev.pos (by omega) ?_
    refine Ev.plain_bind (one_eq _) ?_
    rw [drop_cons hlt]
    rw [rd_ch hlt] at ih ⊢
    refine Ev.ite (fun h1 => ?_) (fun h1 => ?_)
    · refine Ev.ite (fun h => ?_) (fun h => ?_)
      · have e : wrap64 ((i : Int) - 1) = ((i - 1 : Nat) : Int) := by rw [wrap64_of (by omega) (by omega)]; omega
        rw [e]
        refine Ev.pos (by omega) ?_
        refine Ev.pos (by omega) ?_
        refine Ev.bind_of (pts_ev _ _) ?_
        refine Ev.ite (fun h2 => Ev.const ?_) (fun h2 => ?_)
        · rw [if_neg (by omega)]
          simp only [mayR, decide_eq_false (show ¬ ptsI (rd_T24 l ((i - 1 : Nat) : Int)) l[i] < 0 by omega)]
          simp
        · rw [if_neg (by omega), wrap64_nat i (by omega)]
          simp only [mayR, h1, decide_eq_true (show ptsI (rd_T24 l ((i - 1 : Nat) : Int)) l[i] < 0 by omega), Bool.and_self, Bool.true_and]
          exact ih
      · rw [if_pos (by omega), wrap64_nat i (by omega)]
        simp only [mayR, h1, Bool.and_self, Bool.true_and]
        exact ih
    · refine Ev.const ?_
      have h1 : oneB l[i] = false := by simpa using h1
      simp only [mayR, h1, Bool.false_and]
def mayL (l : List Ch) : Bool := mayR none l
theorem may_ev (l : List Ch) (hl : l.length ≤ maxLen) : Ev (fun k => Qsbase.sign_May.f k l) (mayL l) := by
  have := may_loop l hl l.length 0 (by omega) (by omega)
  simpa [Qsbase.sign_May.f, mayL] using this
def eqC (x y : Ch) : Bool := x.f0 == y.f0 && (x.f1 == y.f1 && (x.f2 == y.f2 && (x.f3 == y.f3 && x.f4 == y.f4)))
theorem index_loop (l : List Ch) (x : Ch) (hl : l.length ≤ maxLen) : ∀ n i, n = l.length - i → i ≤ l.length → Ev (fun k => Qsbase.api_Choice_43.l0 k l (l.length : Int) (i : Int) x.f0 x.f1 x.f2 x.f3 x.f4) (idxF (eqC x) (l.drop i) (i : Int)) := by
  have hM : maxLen = 9223372036854775807 := rfl
  intro n
  induction n with
  | zero =>
    intro i hn hi
    refine Ev.round ?_ (fun k => by simp only [Qsbase.api_Choice_43.l0]; rfl)
    refine Ev.neg (by omega) ?_
    refine Ev.const ?_
    rw [List.drop_eq_nil_of_le (by omega)]
    rfl
  | succ n ih =>
    intro i hn hi
    have hlt : i < l.length := by omega
    refine Ev.round ?_ (fun k => by simp only [Qsbase.api_Choice_43.l0]; rfl)
    refine Ev.pos (by omega) ?_
    refine Ev.pos (by omega) ?_
    refine Ev.pos (by omega) ?_
    rw [drop_cons hlt, rd_ch hlt]
    unfold idxF
    refine Ev.ite (fun h => ?_) (fun h => ?_)
    · rw [if_pos (show eqC x l[i] = true from h)]
      exact Ev.const rfl
    · rw [if_neg (show ¬ eqC x l[i] = true from h), wrap64_nat i (by omega)]
      exact ih (i + 1) (by omega) (by omega)
theorem has_ev (l : List Ch) (x : Ch) (hl : l.length ≤ maxLen) : Ev (fun k => Qsbase.api_Choice_30.f k l x.f0 x.f1 x.f2 x.f3 x.f4) (l.any (eqC x)) := by
  have := index_loop l x hl l.length 0 (by omega) (by omega)
  unfold Qsbase.api_Choice_30.f
  refine Ev.bind_of (a := idxF (eqC x) l 0) (by simpa [Qsbase.api_Choice_43.f] using this) ?_
  refine Ev.const ?_
  rw [← idxF_any (eqC x) l 0 (by omega)]
end Go.Proofs.Ytpkcnifchggbnaa.HD
