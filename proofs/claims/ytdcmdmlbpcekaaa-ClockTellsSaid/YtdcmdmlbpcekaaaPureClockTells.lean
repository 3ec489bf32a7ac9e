/-
  THE PLAIN LAW of ClockTells: whether any clocks may be, what one is told of the other, and the sum, is what the chapter says.
-/
import Derived.Test.YtdcmdmlbpcekaaaQClockTellsx2
import Derived.Test.YtdcmdmlbpcekaaaQClockTellsx1
import Derived.Test.YtdcmdmlbpcekaaaHP
namespace Go.Proofs.Ytdcmdmlbpcekaaa.Pure
open Go.RowKit Go.Proofs.Ytdcmdmlbpcekaaa.QClockTells Go.Proofs.YtdcmdmlbpcekaaaW.PrintWords Go.Proofs.YtdcmdmlbpcekaaaW.PrintLast Go.Proofs.YtdcmdmlbpcekaaaW.PrintMore Go.Proofs.Ytdcmdmlbpcekaaa.HP
set_option linter.unusedVariables false
set_option linter.unusedSimpArgs false

/-- may a clock be? -/
def mayR (l : List Int) : Bool := decide (1 ≤ l.length ∧ l.length ≤ 64) && l.all (fun n => decide (0 ≤ n) && decide (n ≤ 1099511627776))
theorem ref18_may_l0 (a : List Int) (hm : a.length < 9223372036854775807) (d : Nat) : ∀ i : Nat, i ≤ a.length → a.length - i = d →
    Ev (fun k => dispatcherref18_May.l0 k a i) ((a.drop i).all (fun n => decide (0 ≤ n) && decide (n ≤ 1099511627776))) := by
  induction d with
  | zero =>
    intro i hi hd
    refine Ev.round (f := fun _ => some _) (Ev.now _) (fun k => ?_)
    rw [dispatcherref18_May.l0, if_neg (by omega)]
    simp [List.drop_of_length_le, show a.length ≤ i by omega]
  | succ d ih =>
    intro i hi hd
    have h1 : i < a.length := by omega
    by_cases hn : a[i] < 0
    · refine Ev.eq (Ev.round (f := fun _ => some false) (Ev.now _) (fun k => ?_)) ?_
      · rw [dispatcherref18_May.l0, if_pos (by omega), if_pos (by omega), if_pos (by rw [rd_lt h1]; exact hn)]
      · rw [drop_cons h1]; exact all_cons_no (by simp; omega)
    · by_cases hn2 : a[i] > 1099511627776
      · refine Ev.eq (Ev.round (f := fun _ => some false) (Ev.now _) (fun k => ?_)) ?_
        · rw [dispatcherref18_May.l0, if_pos (by omega), if_pos (by omega), if_neg (by rw [rd_lt h1]; exact hn), if_pos (by rw [rd_lt h1]; exact hn2)]
        · rw [drop_cons h1]; exact all_cons_no (by simp; omega)
      · refine Ev.eq (Ev.round (ih (i + 1) (by omega) (by omega)) (fun k => ?_)) ?_
        · rw [dispatcherref18_May.l0, if_pos (by omega), if_pos (by omega), if_neg (by rw [rd_lt h1]; exact hn), if_neg (by rw [rd_lt h1]; exact hn2), wrap64_nat i (by omega)]
        · rw [drop_cons h1]; exact all_cons_yes (by simp; omega)
theorem ref18_may (a : List Int) (hm : a.length < 9223372036854775807) : Ev (fun k => dispatcherref18_May.f k a) (mayR a) := by
  by_cases h1 : a.length < 1
  · refine Ev.eq (Ev.round (f := fun _ => some false) (Ev.now _) (fun k => ?_)) ?_
    · rw [dispatcherref18_May.f, if_pos (by omega), dispatcherref18_May.j0, if_pos rfl]
    · simp [mayR, show ¬ (1 ≤ a.length) by omega]
  · by_cases h2 : a.length > 64
    · refine Ev.eq (Ev.round (f := fun _ => some false) (Ev.now _) (fun k => ?_)) ?_
      · rw [dispatcherref18_May.f, if_neg (by omega), dispatcherref18_May.j0, if_pos (by simp; omega)]
      · simp [mayR, show ¬ (a.length ≤ 64) by omega]
    · refine Ev.eq (Ev.round (ref18_may_l0 a hm a.length 0 (by omega) (by omega)) (fun k => ?_)) ?_
      · rw [dispatcherref18_May.f, if_neg (by omega), dispatcherref18_May.j0, if_neg (by simp; omega)]; rfl
      · simp [mayR, show 1 ≤ a.length by omega, show a.length ≤ 64 by omega]

theorem odd_iff (n : Int) : HD.odd n = !(decide (0 ≤ n) && decide (n ≤ 1099511627776)) := by
  unfold HD.odd; rw [Bool.eq_iff_iff]; simp [Int.not_le]; try omega
theorem mayB_eq (l : List Int) : HD.mayB l = mayR l := by
  unfold HD.mayB mayR
  congr 1
  induction l with
  | nil => rfl
  | cons x t ih => rw [List.any_cons, List.all_cons, odd_iff, Bool.not_or, ih, Bool.not_not]

theorem fitB_eq (c d : List Int) : HD.fitB c d = (mayR c && mayR d && decide (c.length = d.length)) := by unfold HD.fitB; rw [mayB_eq, mayB_eq]

/-- what is told, out of two tests -/
def encT (a b : Bool) : Int := (bif a then 1 else 0) + (bif b then 2 else 0)
theorem tell_enc (a b : Bool) (x : Int × Int) : HD.tell (encT a b) x = encT (a || decide (x.1 < x.2)) (b || decide (x.2 < x.1)) := by
  have e1 : bits .or .u8 0 1 = 1 := by decide
  have e2 : bits .or .u8 1 1 = 1 := by decide
  have e3 : bits .or .u8 2 1 = 3 := by decide
  have e4 : bits .or .u8 3 1 = 3 := by decide
  have e5 : bits .or .u8 0 2 = 2 := by decide
  have e6 : bits .or .u8 1 2 = 3 := by decide
  have e7 : bits .or .u8 2 2 = 2 := by decide
  have e8 : bits .or .u8 3 2 = 3 := by decide
  unfold HD.tell
  by_cases h1 : x.1 < x.2
  · have h2 : ¬ x.2 < x.1 := by omega
    cases a <;> cases b <;> simp [encT, h1, h2, e1, e2, e3, e4]
  · by_cases h2 : x.2 < x.1
    · cases a <;> cases b <;> simp [encT, h1, h2, e5, e6, e7, e8]
    · cases a <;> cases b <;> simp [encT, h1, h2]
theorem tells_from (z : List (Int × Int)) : ∀ a b : Bool, z.foldl HD.tell (encT a b) = encT (a || z.any (fun x => decide (x.1 < x.2))) (b || z.any (fun x => decide (x.2 < x.1))) := by
  induction z with
  | nil => intro a b; simp
  | cons x z ih => intro a b; rw [List.foldl_cons, tell_enc, ih, List.any_cons, List.any_cons, Bool.or_assoc, Bool.or_assoc]
/-- is a number of the one below the other one's? -/
def lessAny (c d : List Int) : Bool := (c.zip d).any (fun x => decide (x.1 < x.2))
theorem any_swap (c d : List Int) : (c.zip d).any (fun x => decide (x.2 < x.1)) = lessAny d c := by
  unfold lessAny
  induction c generalizing d with
  | nil => cases d <;> simp
  | cons x c ih => cases d with
    | nil => simp
    | cons y d => simp only [List.zip_cons_cons, List.any_cons, ih]
theorem tells_eq (c d : List Int) : HD.tells (c.zip d) = encT (lessAny c d) (lessAny d c) := by
  have h := tells_from (c.zip d) false false
  rw [any_swap] at h
  rw [Bool.false_or, Bool.false_or] at h
  exact h

theorem hand_may (l : List Int) : HD.clock_May.f l = some (mayR l) := by rw [← mayB_eq]; rfl
theorem may_le {c : List Int} (h : mayR c = true) : c.length ≤ 64 := by unfold mayR at h; simp at h; omega

theorem less_from {c d : List Int} {i : Nat} (h1 : i < c.length) (h2 : i < d.length) : lessAny (c.drop i) (d.drop i) = (decide (c[i] < d[i]) || lessAny (c.drop (i + 1)) (d.drop (i + 1))) := by
  unfold lessAny
  rw [drop_cons h1, drop_cons h2, List.zip_cons_cons, List.any_cons]
theorem ref18_within_l0 (a b : List Int) (hl : a.length = b.length) (hm : a.length < 9223372036854775807) (d : Nat) : ∀ i : Nat, i ≤ a.length → a.length - i = d →
    Ev (fun k => dispatcherref18_within.l0 k a b i) (!lessAny (b.drop i) (a.drop i)) := by
  induction d with
  | zero =>
    intro i hi hd
    refine Ev.round (f := fun _ => some _) (Ev.now _) (fun k => ?_)
    rw [dispatcherref18_within.l0, if_neg (by omega)]
    simp [lessAny, List.drop_of_length_le, show a.length ≤ i by omega, show b.length ≤ i by omega]
  | succ d ih =>
    intro i hi hd
    have h1 : i < a.length := by omega
    have h2 : i < b.length := by omega
    rw [less_from h2 h1]
    by_cases hgt : a[i] > b[i]
    · refine Ev.eq (Ev.round (f := fun _ => some false) (Ev.now _) (fun k => ?_)) ?_
      · rw [dispatcherref18_within.l0, if_pos (by omega), if_pos (by omega), if_pos (by omega), if_pos (by rw [rd_lt h1, rd_lt h2]; exact hgt)]
      · rw [decide_eq_true (show b[i] < a[i] from hgt)]; rfl
    · refine Ev.eq (Ev.round (ih (i + 1) (by omega) (by omega)) (fun k => ?_)) ?_
      · rw [dispatcherref18_within.l0, if_pos (by omega), if_pos (by omega), if_pos (by omega), if_neg (by rw [rd_lt h1, rd_lt h2]; exact hgt), wrap64_nat i (by omega)]
      · rw [decide_eq_false (show ¬ b[i] < a[i] by omega), Bool.false_or]
theorem ref18_within (a b : List Int) (hl : a.length = b.length) (hm : a.length < 9223372036854775807) : Ev (fun k => dispatcherref18_within.f k a b) (!lessAny b a) :=
  Ev.eq (Ev.same (ref18_within_l0 a b hl hm a.length 0 (by omega) (by omega)) (fun k => by rw [dispatcherref18_within.f]; rfl)) (by simp)

/-- what the document tells -/
def ofR (c d : List Int) : Int × Int := if HD.fitB c d = true then (encT (lessAny c d) (lessAny d c), 0) else (0, 2)
theorem hand_of (c d : List Int) : HD.clock_Clock_Of.f c d = some (ofR c d) := by unfold HD.clock_Clock_Of.f ofR; rw [tells_eq]
theorem ref18_of_j1 (p q : Bool) : Ev (fun k => if p = true then dispatcherref18_Of.j1 k p q q else dispatcherref18_Of.j1 k p q false) (encT (!q) (!p), 0) := by
  refine Ev.round (f := fun _ => some _) (Ev.now _) (fun k => ?_)
  cases p <;> cases q <;> simp [dispatcherref18_Of.j1, encT]
theorem ref18_of (a b : List Int) (ha : a.length ≤ 80) (hb : b.length ≤ 80) : Ev (fun k => dispatcherref18_Of.f k a b) (ofR a b) := by
  unfold ofR
  rw [fitB_eq]
  simp only [dispatcherref18_Of.f]
  refine Ev.bind_of (ref18_may a (by omega)) ?_
  cases h1 : mayR a with
  | false =>
    refine Ev.neg (by simp) (Ev.round (f := fun _ => some _) (Ev.now _) (fun k => ?_))
    rw [dispatcherref18_Of.j0, if_pos rfl]
    simp
  | true =>
    refine Ev.pos (by rfl) (Ev.bind_of (ref18_may b (by omega)) ?_)
    cases h2 : mayR b with
    | false =>
      refine Ev.neg (by simp) (Ev.round (f := fun _ => some _) (Ev.now _) (fun k => ?_))
      rw [dispatcherref18_Of.j0, if_pos rfl]
      simp
    | true =>
      refine Ev.pos (by rfl) ?_
      by_cases hl : a.length = b.length
      · refine Ev.round (f := fun k => _) ?_ (fun k => by rw [dispatcherref18_Of.j0, if_neg (by simp [hl])])
        refine Ev.bind_of (ref18_within a b hl (by omega)) ?_
        refine Ev.bind_of (ref18_within b a hl.symm (by omega)) ?_
        exact Ev.eq (ref18_of_j1 _ _) (by simp [hl])
      · refine Ev.eq (Ev.round (f := fun _ => some (0, 2)) (Ev.now _) (fun k => ?_)) ?_
        · rw [dispatcherref18_Of.j0, if_pos (by rw [bne_iff_ne]; omega)]
        · simp [hl]

def lateR (c d : List Int) (r : Int) : Bool × Int := if HD.fitB c d = true ∧ 0 ≤ r ∧ r < (c.length : Int) then (decide (rd c r < rd d r), 0) else (false, 2)
theorem prog_late (c d : List Int) (r : Int) : clock_Clock_Late.f c d r = some (lateR c d r) := by
  unfold clock_Clock_Late.f lateR HD.clock_fit.f
  rw [Option.bind_some]
  cases h : HD.fitB c d with
  | false => simp
  | true =>
    have hl : c.length = d.length := by rw [fitB_eq] at h; simp at h; exact h.2
    rw [if_pos rfl]
    by_cases h2 : r < 0
    · rw [if_pos h2, if_neg (by omega)]
    · rw [if_neg h2]
      by_cases h3 : r ≥ (c.length : Int)
      · rw [if_pos h3, if_neg (by omega)]
      · rw [if_neg h3, if_pos (by omega), if_pos (by omega), if_pos (by omega), if_pos (by refine ⟨rfl, ?_, ?_⟩ <;> omega)]
theorem ref18_late (c d : List Int) (r : Int) (hc : c.length ≤ 80) (hd : d.length ≤ 80) : Ev (fun k => dispatcherref18_Late.f k c d r) (lateR c d r) := by
  unfold lateR
  rw [fitB_eq]
  simp only [dispatcherref18_Late.f]
  refine Ev.bind_of (ref18_may c (by omega)) ?_
  cases h1 : mayR c with
  | false => exact Ev.neg (by simp) (Ev.const (by simp))
  | true =>
    refine Ev.pos (by rfl) (Ev.bind_of (ref18_may d (by omega)) ?_)
    cases h2 : mayR d with
    | false => exact Ev.neg (by simp) (Ev.const (by simp))
    | true =>
      refine Ev.pos (by rfl) (Ev.const ?_)
      by_cases hl : c.length = d.length
      · rw [if_pos (by omega)]
        by_cases h3 : r < 0
        · rw [if_pos h3, if_neg (by omega)]
        · rw [if_neg h3]
          by_cases h4 : r ≥ (c.length : Int)
          · rw [if_pos h4, if_neg (by omega)]
          · rw [if_neg h4, if_pos (by omega), if_pos (by omega), if_pos (by omega), if_pos (by refine ⟨by simp [hl], ?_, ?_⟩ <;> omega)]
      · rw [if_neg (by omega), if_neg (by simp [hl])]

def sumFrom (s : Int) (l : List Int) : Int := l.foldl (fun s v => wrap64 (s + v)) s
def sumR (c : List Int) : Int := if mayR c = true then sumFrom 0 c else 0
theorem sum_step {c : List Int} {i : Nat} (h : i < c.length) (s : Int) : sumFrom s (c.drop i) = sumFrom (wrap64 (s + c[i])) (c.drop (i + 1)) := by rw [drop_cons h]; rfl
theorem prog_sum_l0 (c : List Int) (hm : c.length ≤ 80) (d : Nat) : ∀ (i : Nat) (s : Int), i ≤ c.length → c.length - i = d → Ev (fun k => clock_Clock_Sum.l0 k s c (c.length : Int) i) (sumFrom s (c.drop i)) := by
  induction d with
  | zero =>
    intro i s hi hd
    refine Ev.round (f := fun _ => some _) (Ev.now _) (fun k => ?_)
    rw [clock_Clock_Sum.l0, if_neg (by omega), List.drop_of_length_le (by omega)]; rfl
  | succ d ih =>
    intro i s hi hd
    have h1 : i < c.length := by omega
    rw [sum_step h1]
    refine Ev.round (ih (i + 1) _ (by omega) (by omega)) (fun k => ?_)
    rw [clock_Clock_Sum.l0, if_pos (by omega), if_pos (by omega), if_pos (by omega), rd_lt h1, wrap64_nat i (by omega)]
theorem prog_sum (c : List Int) (hm : c.length ≤ 80) : Ev (fun k => clock_Clock_Sum.f k c) (sumR c) := by
  simp only [clock_Clock_Sum.f]
  refine Ev.plain_bind (hand_may c) ?_
  unfold sumR
  cases mayR c with
  | false => exact Ev.neg (by simp) (Ev.const (by simp))
  | true => exact Ev.pos (by rfl) (prog_sum_l0 c hm c.length 0 0 (by omega) (by omega))
theorem ref18_sum_l0 (c : List Int) (hm : c.length ≤ 80) (hy : mayR c = true) (d : Nat) : ∀ (i : Nat) (s : Int), i ≤ c.length → c.length - i = d → Ev (fun k => dispatcherref18_Sum.l0 k c s i) (sumFrom s (c.drop i)) := by
  induction d with
  | zero =>
    intro i s hi hd
    refine Ev.round (f := fun _ => some _) (Ev.now _) (fun k => ?_)
    rw [dispatcherref18_Sum.l0, if_neg (by omega), List.drop_of_length_le (by omega)]; rfl
  | succ d ih =>
    intro i s hi hd
    have h1 : i < c.length := by omega
    rw [sum_step h1]
    refine Ev.round (f := fun k => _) ?_ (fun k => by rw [dispatcherref18_Sum.l0, if_pos (by omega)])
    refine Ev.bind_of (ref18_may c (by omega)) ?_
    rw [hy]
    refine Ev.pos (by rfl) (Ev.pos (by omega) ?_)
    refine Ev.same (ih (i + 1) _ (by omega) (by omega)) (fun k => ?_)
    rw [rd_lt h1, wrap64_nat i (by omega)]
theorem ref18_sum (c : List Int) (hm : c.length ≤ 80) : Ev (fun k => dispatcherref18_Sum.f k c) (sumR c) := by
  unfold sumR
  by_cases hy : mayR c = true
  · rw [if_pos hy]
    exact Ev.same (ref18_sum_l0 c hm hy c.length 0 0 (by omega) (by omega)) (fun k => by rw [dispatcherref18_Sum.f]; rfl)
  · rw [if_neg hy]
    by_cases h0 : (0 : Int) < (c.length : Int)
    · refine Ev.round (f := fun k => _) ?_ (fun k => by rw [dispatcherref18_Sum.f, dispatcherref18_Sum.l0, if_pos h0])
      exact Ev.bind_of (ref18_may c (by omega)) (Ev.neg (by simpa using hy) (Ev.now _))
    · exact Ev.round (f := fun _ => some 0) (Ev.now _) (fun k => by rw [dispatcherref18_Sum.f, dispatcherref18_Sum.l0, if_neg h0])

theorem enc_wrap (a b : Bool) : wrap64 (encT a b) = encT a b := by cases a <;> cases b <;> (unfold wrap64 encT; simp)
theorem of_wrap (c d : List Int) : wrap64 (ofR c d).1 = (ofR c d).1 := by
  unfold ofR
  split
  · exact enc_wrap _ _
  · unfold wrap64; simp

theorem ClockTells : dispatcherlaw18_ClockTells.Pure := by
  intro a b r _ _ _ _ _ _ _
  refine Ev.rounds ?_
  by_cases h1 : (a.length : Int) > 80
  · exact Ev.round (f := fun _ => some true) (Ev.now _) (fun k => by rw [dispatcherlaw18_ClockTells.f, if_pos h1, dispatcherlaw18_ClockTells.j0, if_pos rfl])
  · by_cases h2 : (b.length : Int) > 80
    · exact Ev.round (f := fun _ => some true) (Ev.now _) (fun k => by rw [dispatcherlaw18_ClockTells.f, if_neg h1, dispatcherlaw18_ClockTells.j0, if_pos (by simpa using h2)])
    · refine Ev.round (f := fun k => _) ?_ (fun k => by rw [dispatcherlaw18_ClockTells.f, if_neg h1, dispatcherlaw18_ClockTells.j0, if_neg (by simpa using h2)])
      refine Ev.plain_bind (hand_of a b) ?_
      refine Ev.bind_of (ref18_of a b (by omega) (by omega)) ?_
      refine Ev.plain_bind (prog_late a b r) ?_
      refine Ev.bind_of (ref18_late a b r (by omega) (by omega)) ?_
      refine Ev.pos (of_wrap a b) ?_
      refine Ev.pos (by rfl) ?_
      refine Ev.pos (by simp) ?_
      refine Ev.pos (by rfl) ?_
      refine Ev.plain_bind (hand_may a) ?_
      refine Ev.bind_of (ref18_may a (by omega)) ?_
      refine Ev.pos (by simp) ?_
      refine Ev.bind_of (prog_sum a (by omega)) ?_
      refine Ev.bind_of (ref18_sum a (by omega)) ?_
      exact Ev.const (by simp)

end Go.Proofs.Ytdcmdmlbpcekaaa.Pure
