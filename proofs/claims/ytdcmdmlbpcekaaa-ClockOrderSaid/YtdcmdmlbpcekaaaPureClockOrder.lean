/-
  THE PLAIN LAW of ClockOrder: clocks are an order; Ahead has the lesser sum.
-/
import Derived.Test.YtdcmdmlbpcekaaaQClockOrderx1
import Derived.Test.YtdcmdmlbpcekaaaHP
namespace Go.Proofs.Ytdcmdmlbpcekaaa.Pure
open Go.RowKit Go.Proofs.Ytdcmdmlbpcekaaa.QClockOrder Go.Proofs.YtdcmdmlbpcekaaaW.PrintWords Go.Proofs.YtdcmdmlbpcekaaaW.PrintLast Go.Proofs.YtdcmdmlbpcekaaaW.PrintMore Go.Proofs.Ytdcmdmlbpcekaaa.HP
set_option linter.unusedVariables false
set_option linter.unusedSimpArgs false

theorem ref11_ints_l0 (a b : List Int) (hl : a.length = b.length) (hm : a.length < 9223372036854775807) (d : Nat) : ∀ i : Nat, i ≤ a.length → a.length - i = d →
    Ev (fun k => dispatcherref11_Ints.l0 k a b i) (decide (a.drop i = b.drop i)) := by
  induction d with
  | zero =>
    intro i hi hd
    refine Ev.round (f := fun _ => some _) (Ev.now _) (fun k => ?_)
    rw [dispatcherref11_Ints.l0, if_neg (by omega)]
    simp [List.drop_of_length_le, show a.length ≤ i by omega, show b.length ≤ i by omega]
  | succ d ih =>
    intro i hi hd
    have h1 : i < a.length := by omega
    have h2 : i < b.length := by omega
    by_cases he : a[i] = b[i]
    · refine Ev.eq (Ev.round (ih (i + 1) (by omega) (by omega)) (fun k => ?_)) ?_
      · rw [dispatcherref11_Ints.l0, if_pos (by omega), if_pos (by omega), if_pos (by omega), if_pos (by rw [rd_lt h1, rd_lt h2]; exact he), wrap64_nat i (by omega)]
      · rw [drop_cons h1, drop_cons h2, he]; exact dec_cons_eq
    · refine Ev.eq (Ev.round (f := fun _ => some false) (Ev.now _) (fun k => ?_)) ?_
      · rw [dispatcherref11_Ints.l0, if_pos (by omega), if_pos (by omega), if_pos (by omega), if_neg (by rw [rd_lt h1, rd_lt h2]; exact he)]
      · rw [drop_cons h1, drop_cons h2]; exact dec_cons_ne he
theorem ref11_ints (a b : List Int) (hm : a.length < 9223372036854775807) : Ev (fun k => dispatcherref11_Ints.f k a b) (decide (a = b)) := by
  by_cases hl : a.length = b.length
  · refine Ev.eq (Ev.same (ref11_ints_l0 a b hl hm a.length 0 (by omega) (by omega)) (fun k => ?_)) (by simp)
    rw [dispatcherref11_Ints.f, if_pos (by omega)]; rfl
  · refine Ev.eq (Ev.same (f := fun _ => some false) (Ev.now _) (fun k => ?_)) ?_
    · rw [dispatcherref11_Ints.f, if_neg (by omega)]
    · symm; rw [decide_eq_false_iff_not]; intro h; exact hl (by rw [h])

theorem ref11_ints_same (a : List Int) (hm : a.length < 9223372036854775807) : Ev (fun k => dispatcherref11_Ints.f k a a) true := Ev.eq (ref11_ints a a hm) (by simp)

/-- may a clock be? -/
def mayR (l : List Int) : Bool := decide (1 ≤ l.length ∧ l.length ≤ 64) && l.all (fun n => decide (0 ≤ n) && decide (n ≤ 1099511627776))

theorem odd_iff (n : Int) : HD.odd n = !(decide (0 ≤ n) && decide (n ≤ 1099511627776)) := by
  unfold HD.odd; rw [Bool.eq_iff_iff]; simp [Int.not_le]; try omega
theorem mayB_eq (l : List Int) : HD.mayB l = mayR l := by
  unfold HD.mayB mayR
  congr 1
  induction l with
  | nil => rfl
  | cons x t ih => rw [List.any_cons, List.all_cons, odd_iff, Bool.not_or, ih, Bool.not_not]

theorem fitB_eq (c d : List Int) : HD.fitB c d = (mayR c && mayR d && decide (c.length = d.length)) := by unfold HD.fitB; rw [mayB_eq, mayB_eq]
theorem hand_may (l : List Int) : HD.clock_May.f l = some (mayR l) := by rw [← mayB_eq]; rfl
theorem may_le {c : List Int} (h : mayR c = true) : c.length ≤ 64 := by unfold mayR at h; simp at h; omega

/-- what is told, out of two tests -/
def encT (a b : Bool) : Int := (bif a then 1 else 0) + (bif b then 2 else 0)
theorem tell_enc (a b : Bool) (x : Int × Int) : HD.tell (encT a b) x = encT (a || decide (x.1 < x.2)) (b || decide (x.2 < x.1)) := by
  have e1 : bits .or .u8 0 1 = 1 := by decide
  have e2 : bits .or .u8 1 1 = 1 := by decide
  have e3 : bits .or .u8 2 1 = 3 := by decide
  have e4 : bits .or .u8 3 1 = 3 := by decide
  have e5 : bits .or .u8 0 2 = 2 := by decide
  have e6 : bits .or .u8 1 2 = 3 := by decide
  have e7 : bits .or .u8 2 2 = 2 := by decide
  have e8 : bits .or .u8 3 2 = 3 := by decide
  unfold HD.tell
  by_cases h1 : x.1 < x.2
  · have h2 : ¬ x.2 < x.1 := by omega
    cases a <;> cases b <;> simp [encT, h1, h2, e1, e2, e3, e4]
  · by_cases h2 : x.2 < x.1
    · cases a <;> cases b <;> simp [encT, h1, h2, e5, e6, e7, e8]
    · cases a <;> cases b <;> simp [encT, h1, h2]
theorem tells_from (z : List (Int × Int)) : ∀ a b : Bool, z.foldl HD.tell (encT a b) = encT (a || z.any (fun x => decide (x.1 < x.2))) (b || z.any (fun x => decide (x.2 < x.1))) := by
  induction z with
  | nil => intro a b; simp
  | cons x z ih => intro a b; rw [List.foldl_cons, tell_enc, ih, List.any_cons, List.any_cons, Bool.or_assoc, Bool.or_assoc]
/-- is a number of the one below the other one's? -/
def lessAny (c d : List Int) : Bool := (c.zip d).any (fun x => decide (x.1 < x.2))
theorem any_swap (c d : List Int) : (c.zip d).any (fun x => decide (x.2 < x.1)) = lessAny d c := by
  unfold lessAny
  induction c generalizing d with
  | nil => cases d <;> simp
  | cons x c ih => cases d with
    | nil => simp
    | cons y d => simp only [List.zip_cons_cons, List.any_cons, ih]
theorem tells_eq (c d : List Int) : HD.tells (c.zip d) = encT (lessAny c d) (lessAny d c) := by
  have h := tells_from (c.zip d) false false
  rw [any_swap] at h
  rw [Bool.false_or, Bool.false_or] at h
  exact h

theorem less_cons (x y : Int) (c d : List Int) : lessAny (x :: c) (y :: d) = (decide (x < y) || lessAny c d) := by unfold lessAny; rw [List.zip_cons_cons, List.any_cons]
theorem less_self (c : List Int) : lessAny c c = false := by
  induction c with
  | nil => rfl
  | cons x c ih => rw [less_cons, ih]; simp
theorem less_same {c d : List Int} (hl : c.length = d.length) (h : lessAny c d = false) (h' : lessAny d c = false) : c = d := by
  induction c generalizing d with
  | nil => exact (List.eq_nil_of_length_eq_zero (by simpa using hl.symm)).symm
  | cons x c ih => cases d with
    | nil => simp at hl
    | cons y d =>
      rw [less_cons] at h h'
      simp at h h' hl
      rw [ih hl h.2 h'.2, show x = y by omega]
theorem less_no {c d e : List Int} (hl : c.length = d.length) (hl' : d.length = e.length) (h : lessAny d c = false) (h' : lessAny e d = false) : lessAny e c = false := by
  induction c generalizing d e with
  | nil => simp [lessAny]
  | cons x c ih => cases d with
    | nil => simp at hl
    | cons y d => cases e with
      | nil => simp at hl'
      | cons z e =>
        rw [less_cons] at h h'
        simp at h h' hl hl'
        rw [less_cons, ih hl hl' h.2 h'.2, Bool.or_false, decide_eq_false_iff_not]
        omega
theorem less_yes {c d e : List Int} (hl : c.length = d.length) (hl' : d.length = e.length) (h : lessAny c d = true) (h' : lessAny e d = false) : lessAny c e = true := by
  induction c generalizing d e with
  | nil => simp [lessAny] at h
  | cons x c ih => cases d with
    | nil => simp at hl
    | cons y d => cases e with
      | nil => simp at hl'
      | cons z e =>
        rw [less_cons] at h h'
        simp at h' hl hl'
        rw [Bool.or_eq_true] at h
        rw [less_cons, Bool.or_eq_true]
        rcases h with h | h
        · left
          have := of_decide_eq_true h
          exact decide_eq_true (by omega)
        · exact .inr (ih hl hl' h h'.2)
/-- what is told of two clocks that may be, of as many ranks -/
theorem hand_fit {c d : List Int} (hc : mayR c = true) (hd : mayR d = true) (hl : c.length = d.length) : HD.fitB c d = true := by rw [fitB_eq, hc, hd]; simp [hl]

theorem hand_of {c d : List Int} (hc : mayR c = true) (hd : mayR d = true) (hl : c.length = d.length) : dispatcherlaw18_of.f c d = some (encT (lessAny c d) (lessAny d c)) := by
  unfold dispatcherlaw18_of.f HD.clock_Clock_Of.f
  rw [hand_fit hc hd hl, if_pos rfl, tells_eq, Option.bind_some, if_pos rfl]
theorem hand_awake : HD.dispatcherlaw18_awake.f = some true := rfl

theorem law_may (c d e : List Int) : dispatcherlaw18_may.f c d e = some (decide (c.length ≤ 64 ∧ c.length = d.length ∧ d.length = e.length) && mayR c && mayR d && mayR e) := by
  unfold dispatcherlaw18_may.f
  rw [hand_may, hand_may, hand_may, Option.bind_some, Option.bind_some, Option.bind_some]
  by_cases h1 : c.length ≤ 64
  · rw [if_pos (by omega)]
    by_cases h2 : c.length = d.length
    · rw [if_pos (by omega)]
      by_cases h3 : d.length = e.length
      · rw [if_pos (by omega)]
        cases h4 : mayR c <;> cases h5 : mayR d <;> simp [h1, h2, h3] <;> omega
      · rw [if_neg (by omega)]; simp [h3]
    · rw [if_neg (by omega)]; simp [h2]
  · rw [if_neg (by omega)]; simp [h1]

def sumFrom (s : Int) (l : List Int) : Int := l.foldl (fun s v => wrap64 (s + v)) s
def sumR (c : List Int) : Int := if mayR c = true then sumFrom 0 c else 0
theorem sum_step {c : List Int} {i : Nat} (h : i < c.length) (s : Int) : sumFrom s (c.drop i) = sumFrom (wrap64 (s + c[i])) (c.drop (i + 1)) := by rw [drop_cons h]; rfl
theorem prog_sum_l0 (c : List Int) (hm : c.length ≤ 80) (d : Nat) : ∀ (i : Nat) (s : Int), i ≤ c.length → c.length - i = d → Ev (fun k => clock_Clock_Sum.l0 k s c (c.length : Int) i) (sumFrom s (c.drop i)) := by
  induction d with
  | zero =>
    intro i s hi hd
    refine Ev.round (f := fun _ => some _) (Ev.now _) (fun k => ?_)
    rw [clock_Clock_Sum.l0, if_neg (by omega), List.drop_of_length_le (by omega)]; rfl
  | succ d ih =>
    intro i s hi hd
    have h1 : i < c.length := by omega
    rw [sum_step h1]
    refine Ev.round (ih (i + 1) _ (by omega) (by omega)) (fun k => ?_)
    rw [clock_Clock_Sum.l0, if_pos (by omega), if_pos (by omega), if_pos (by omega), rd_lt h1, wrap64_nat i (by omega)]
theorem prog_sum (c : List Int) (hm : c.length ≤ 80) : Ev (fun k => clock_Clock_Sum.f k c) (sumR c) := by
  simp only [clock_Clock_Sum.f]
  refine Ev.plain_bind (hand_may c) ?_
  unfold sumR
  cases mayR c with
  | false => exact Ev.neg (by simp) (Ev.const (by simp))
  | true => exact Ev.pos (by rfl) (prog_sum_l0 c hm c.length 0 0 (by omega) (by omega))

theorem sumFrom_plain (l : List Int) : ∀ (s : Int), 0 ≤ s → s + l.length * 1099511627776 ≤ 9223372036854775807 → (∀ x ∈ l, 0 ≤ x ∧ x ≤ 1099511627776) → sumFrom s l = s + l.sum := by
  induction l with
  | nil => intro s _ _ _; simp [sumFrom]
  | cons x l ih =>
    intro s h0 h1 hx
    have hb := hx x (by simp)
    have e : sumFrom s (x :: l) = sumFrom (wrap64 (s + x)) l := rfl
    simp only [List.length_cons] at h1
    rw [e, wrap64_of (by omega) (by omega), ih (s + x) (by omega) (by omega) (fun y hy => hx y (by simp [hy])), List.sum_cons]
    omega
theorem may_all {c : List Int} (h : mayR c = true) : ∀ x ∈ c, 0 ≤ x ∧ x ≤ 1099511627776 := by
  unfold mayR at h
  simp at h
  exact h.2
theorem sumR_plain {c : List Int} (h : mayR c = true) : sumR c = c.sum := by
  have hl := may_le h
  unfold sumR
  rw [if_pos h, sumFrom_plain c 0 (by omega) (by omega) (may_all h)]
  omega

theorem sum_le {c d : List Int} (hl : c.length = d.length) (h : lessAny d c = false) : c.sum ≤ d.sum := by
  induction c generalizing d with
  | nil => rw [(List.eq_nil_of_length_eq_zero (by simpa using hl.symm) : d = [])]; exact Int.le_refl _
  | cons x c ih => cases d with
    | nil => simp at hl
    | cons y d =>
      rw [less_cons] at h
      simp at h hl
      have := ih hl h.2
      rw [List.sum_cons, List.sum_cons]
      omega
theorem sum_lt {c d : List Int} (hl : c.length = d.length) (h : lessAny d c = false) (h' : lessAny c d = true) : c.sum < d.sum := by
  induction c generalizing d with
  | nil => simp [lessAny] at h'
  | cons x c ih => cases d with
    | nil => simp at hl
    | cons y d =>
      rw [less_cons] at h h'
      simp at h hl
      have h1 := sum_le hl h.2
      rw [Bool.or_eq_true] at h'
      rw [List.sum_cons, List.sum_cons]
      rcases h' with h' | h'
      · have := of_decide_eq_true h'
        omega
      · have := ih hl h.2 h'
        omega

theorem ClockOrder : dispatcherlaw18_ClockOrder.Pure := by
  intro c d e _ _ _ _ _ _ _ _ _
  refine Ev.rounds ?_
  refine Ev.same (f := fun k => _) ?_ (fun k => by rw [dispatcherlaw18_ClockOrder.f, hand_awake, Option.bind_some, if_pos rfl, law_may, Option.bind_some])
  refine Ev.ite (fun hm => ?_) (fun _ => Ev.now _)
  simp only [Bool.and_eq_true, decide_eq_true_eq] at hm
  obtain ⟨⟨⟨⟨h64, hcd, hde⟩, hc⟩, hd⟩, he⟩ := hm
  refine Ev.plain_bind (hand_of hc hd hcd) ?_
  refine Ev.plain_bind (hand_of hd he hde) ?_
  refine Ev.plain_bind (hand_of hc he (hcd.trans hde)) ?_
  refine Ev.plain_bind (hand_of hc hc rfl) ?_
  rw [less_self]
  refine Ev.pos (by rfl) ?_
  refine Ev.bind_of (ref11_ints c d (by omega)) ?_
  have hbeq : ((encT (lessAny c d) (lessAny d c) == 0) != decide (c = d)) = false := by
    by_cases h1 : lessAny c d = true
    · have : c ≠ d := fun h => by rw [h, less_self] at h1; cases h1
      cases h2 : lessAny d c <;> simp [h1, encT, this]
    · have h1 : lessAny c d = false := by simpa using h1
      by_cases h2 : lessAny d c = true
      · have : c ≠ d := fun h => by rw [h, less_self] at h2; cases h2
        simp [h1, h2, encT, this]
      · have h2 : lessAny d c = false := by simpa using h2
        have := less_same hcd h1 h2
        rw [h1, h2, decide_eq_true this]
        rfl
  rw [hbeq]
  refine Ev.round (f := fun k => _) ?_ (fun k => by rw [dispatcherlaw18_ClockOrder.j0, if_neg (by simp), hand_of hd hc hcd.symm, Option.bind_some, Option.bind_some])
  have h12 : ((encT (lessAny c d) (lessAny d c) == 1) != (encT (lessAny d c) (lessAny c d) == 2)) = false := by cases lessAny c d <;> cases lessAny d c <;> rfl
  have h33 : ((encT (lessAny c d) (lessAny d c) == 3) != (encT (lessAny d c) (lessAny c d) == 3)) = false := by cases lessAny c d <;> cases lessAny d c <;> rfl
  rw [h12, h33]
  refine Ev.neg (by simp) ?_
  refine Ev.round (f := fun k => _) ?_ (fun k => by rw [dispatcherlaw18_ClockOrder.j1, if_neg (by simp)])
  refine Ev.ite (fun h1 => ?_) (fun _ => ?_)
  · have ha : lessAny c d = true ∧ lessAny d c = false := by
      revert h1
      cases lessAny c d <;> cases lessAny d c <;> simp [encT]
    refine Ev.bind_of (prog_sum c (by omega)) ?_
    refine Ev.bind_of (prog_sum d (by omega)) ?_
    refine Ev.neg (by rw [sumR_plain hc, sumR_plain hd]; have := sum_lt hcd ha.2 ha.1; omega) ?_
    refine Ev.const ?_
    rw [ha.1, ha.2, if_neg (show ¬ encT true false = 0 by decide)]
    by_cases h2 : encT (lessAny d e) (lessAny e d) = 1
    · have hb : lessAny d e = true ∧ lessAny e d = false := by
        revert h2
        cases lessAny d e <;> cases lessAny e d <;> simp [encT]
      rw [if_pos h2, if_pos]
      rw [less_no hcd hde ha.2 hb.2, less_yes hcd hde ha.1 hb.2]
      rfl
    · rw [if_neg h2]
  · refine Ev.ite (fun h0 => ?_) (fun _ => Ev.now _)
    have : c = d := by
      refine less_same hcd ?_ ?_
      all_goals
        revert h0
        cases lessAny c d <;> cases lessAny d c <;> simp [encT]
    subst this
    exact Ev.const (by simp)

end Go.Proofs.Ytdcmdmlbpcekaaa.Pure
