/-
  THE PLAIN LAW of ClockLeast: a merged clock is the least one above both; in whatever order clocks are merged, it is the same.
-/
import Derived.Test.YtdcmdmlbpcekaaaQClockLeastx1
import Derived.Test.YtdcmdmlbpcekaaaHP
namespace Go.Proofs.Ytdcmdmlbpcekaaa.Pure
open Go.RowKit Go.Proofs.Ytdcmdmlbpcekaaa.QClockLeast Go.Proofs.YtdcmdmlbpcekaaaW.PrintWords Go.Proofs.YtdcmdmlbpcekaaaW.PrintLast Go.Proofs.YtdcmdmlbpcekaaaW.PrintMore Go.Proofs.Ytdcmdmlbpcekaaa.HP
set_option linter.unusedVariables false
set_option linter.unusedSimpArgs false

theorem ref11_ints_l0 (a b : List Int) (hl : a.length = b.length) (hm : a.length < 9223372036854775807) (d : Nat) : ∀ i : Nat, i ≤ a.length → a.length - i = d →
    Ev (fun k => dispatcherref11_Ints.l0 k a b i) (decide (a.drop i = b.drop i)) := by
  induction d with
  | zero =>
    intro i hi hd
    refine Ev.round (f := fun _ => some _) (Ev.now _) (fun k => ?_)
    rw [dispatcherref11_Ints.l0, if_neg (by omega)]
    simp [List.drop_of_length_le, show a.length ≤ i by omega, show b.length ≤ i by omega]
  | succ d ih =>
    intro i hi hd
    have h1 : i < a.length := by omega
    have h2 : i < b.length := by omega
    by_cases he : a[i] = b[i]
    · refine Ev.eq (Ev.round (ih (i + 1) (by omega) (by omega)) (fun k => ?_)) ?_
      · rw [dispatcherref11_Ints.l0, if_pos (by omega), if_pos (by omega), if_pos (by omega), if_pos (by rw [rd_lt h1, rd_lt h2]; exact he), wrap64_nat i (by omega)]
      · rw [drop_cons h1, drop_cons h2, he]; exact dec_cons_eq
    · refine Ev.eq (Ev.round (f := fun _ => some false) (Ev.now _) (fun k => ?_)) ?_
      · rw [dispatcherref11_Ints.l0, if_pos (by omega), if_pos (by omega), if_pos (by omega), if_neg (by rw [rd_lt h1, rd_lt h2]; exact he)]
      · rw [drop_cons h1, drop_cons h2]; exact dec_cons_ne he
theorem ref11_ints (a b : List Int) (hm : a.length < 9223372036854775807) : Ev (fun k => dispatcherref11_Ints.f k a b) (decide (a = b)) := by
  by_cases hl : a.length = b.length
  · refine Ev.eq (Ev.same (ref11_ints_l0 a b hl hm a.length 0 (by omega) (by omega)) (fun k => ?_)) (by simp)
    rw [dispatcherref11_Ints.f, if_pos (by omega)]; rfl
  · refine Ev.eq (Ev.same (f := fun _ => some false) (Ev.now _) (fun k => ?_)) ?_
    · rw [dispatcherref11_Ints.f, if_neg (by omega)]
    · symm; rw [decide_eq_false_iff_not]; intro h; exact hl (by rw [h])

theorem ref11_ints_same (a : List Int) (hm : a.length < 9223372036854775807) : Ev (fun k => dispatcherref11_Ints.f k a a) true := Ev.eq (ref11_ints a a hm) (by simp)

/-- may a clock be? -/
def mayR (l : List Int) : Bool := decide (1 ≤ l.length ∧ l.length ≤ 64) && l.all (fun n => decide (0 ≤ n) && decide (n ≤ 1099511627776))

theorem odd_iff (n : Int) : HD.odd n = !(decide (0 ≤ n) && decide (n ≤ 1099511627776)) := by
  unfold HD.odd; rw [Bool.eq_iff_iff]; simp [Int.not_le]; try omega
theorem mayB_eq (l : List Int) : HD.mayB l = mayR l := by
  unfold HD.mayB mayR
  congr 1
  induction l with
  | nil => rfl
  | cons x t ih => rw [List.any_cons, List.all_cons, odd_iff, Bool.not_or, ih, Bool.not_not]

theorem fitB_eq (c d : List Int) : HD.fitB c d = (mayR c && mayR d && decide (c.length = d.length)) := by unfold HD.fitB; rw [mayB_eq, mayB_eq]
theorem hand_may (l : List Int) : HD.clock_May.f l = some (mayR l) := by rw [← mayB_eq]; rfl
theorem may_le {c : List Int} (h : mayR c = true) : c.length ≤ 64 := by unfold mayR at h; simp at h; omega

/-- what is told, out of two tests -/
def encT (a b : Bool) : Int := (bif a then 1 else 0) + (bif b then 2 else 0)
theorem tell_enc (a b : Bool) (x : Int × Int) : HD.tell (encT a b) x = encT (a || decide (x.1 < x.2)) (b || decide (x.2 < x.1)) := by
  have e1 : bits .or .u8 0 1 = 1 := by decide
  have e2 : bits .or .u8 1 1 = 1 := by decide
  have e3 : bits .or .u8 2 1 = 3 := by decide
  have e4 : bits .or .u8 3 1 = 3 := by decide
  have e5 : bits .or .u8 0 2 = 2 := by decide
  have e6 : bits .or .u8 1 2 = 3 := by decide
  have e7 : bits .or .u8 2 2 = 2 := by decide
  have e8 : bits .or .u8 3 2 = 3 := by decide
  unfold HD.tell
  by_cases h1 : x.1 < x.2
  · have h2 : ¬ x.2 < x.1 := by omega
    cases a <;> cases b <;> simp [encT, h1, h2, e1, e2, e3, e4]
  · by_cases h2 : x.2 < x.1
    · cases a <;> cases b <;> simp [encT, h1, h2, e5, e6, e7, e8]
    · cases a <;> cases b <;> simp [encT, h1, h2]
theorem tells_from (z : List (Int × Int)) : ∀ a b : Bool, z.foldl HD.tell (encT a b) = encT (a || z.any (fun x => decide (x.1 < x.2))) (b || z.any (fun x => decide (x.2 < x.1))) := by
  induction z with
  | nil => intro a b; simp
  | cons x z ih => intro a b; rw [List.foldl_cons, tell_enc, ih, List.any_cons, List.any_cons, Bool.or_assoc, Bool.or_assoc]
/-- is a number of the one below the other one's? -/
def lessAny (c d : List Int) : Bool := (c.zip d).any (fun x => decide (x.1 < x.2))
theorem any_swap (c d : List Int) : (c.zip d).any (fun x => decide (x.2 < x.1)) = lessAny d c := by
  unfold lessAny
  induction c generalizing d with
  | nil => cases d <;> simp
  | cons x c ih => cases d with
    | nil => simp
    | cons y d => simp only [List.zip_cons_cons, List.any_cons, ih]
theorem tells_eq (c d : List Int) : HD.tells (c.zip d) = encT (lessAny c d) (lessAny d c) := by
  have h := tells_from (c.zip d) false false
  rw [any_swap] at h
  rw [Bool.false_or, Bool.false_or] at h
  exact h

theorem less_cons (x y : Int) (c d : List Int) : lessAny (x :: c) (y :: d) = (decide (x < y) || lessAny c d) := by unfold lessAny; rw [List.zip_cons_cons, List.any_cons]
theorem less_self (c : List Int) : lessAny c c = false := by
  induction c with
  | nil => rfl
  | cons x c ih => rw [less_cons, ih]; simp
theorem less_same {c d : List Int} (hl : c.length = d.length) (h : lessAny c d = false) (h' : lessAny d c = false) : c = d := by
  induction c generalizing d with
  | nil => exact (List.eq_nil_of_length_eq_zero (by simpa using hl.symm)).symm
  | cons x c ih => cases d with
    | nil => simp at hl
    | cons y d =>
      rw [less_cons] at h h'
      simp at h h' hl
      rw [ih hl h.2 h'.2, show x = y by omega]
theorem less_no {c d e : List Int} (hl : c.length = d.length) (hl' : d.length = e.length) (h : lessAny d c = false) (h' : lessAny e d = false) : lessAny e c = false := by
  induction c generalizing d e with
  | nil => simp [lessAny]
  | cons x c ih => cases d with
    | nil => simp at hl
    | cons y d => cases e with
      | nil => simp at hl'
      | cons z e =>
        rw [less_cons] at h h'
        simp at h h' hl hl'
        rw [less_cons, ih hl hl' h.2 h'.2, Bool.or_false, decide_eq_false_iff_not]
        omega
theorem less_yes {c d e : List Int} (hl : c.length = d.length) (hl' : d.length = e.length) (h : lessAny c d = true) (h' : lessAny e d = false) : lessAny c e = true := by
  induction c generalizing d e with
  | nil => simp [lessAny] at h
  | cons x c ih => cases d with
    | nil => simp at hl
    | cons y d => cases e with
      | nil => simp at hl'
      | cons z e =>
        rw [less_cons] at h h'
        simp at h' hl hl'
        rw [Bool.or_eq_true] at h
        rw [less_cons, Bool.or_eq_true]
        rcases h with h | h
        · left
          have := of_decide_eq_true h
          exact decide_eq_true (by omega)
        · exact .inr (ih hl hl' h h'.2)
/-- what is told of two clocks that may be, of as many ranks -/
theorem hand_fit {c d : List Int} (hc : mayR c = true) (hd : mayR d = true) (hl : c.length = d.length) : HD.fitB c d = true := by rw [fitB_eq, hc, hd]; simp [hl]

theorem hand_of {c d : List Int} (hc : mayR c = true) (hd : mayR d = true) (hl : c.length = d.length) : dispatcherlaw18_of.f c d = some (encT (lessAny c d) (lessAny d c)) := by
  unfold dispatcherlaw18_of.f HD.clock_Clock_Of.f
  rw [hand_fit hc hd hl, if_pos rfl, tells_eq, Option.bind_some, if_pos rfl]
theorem hand_awake : HD.dispatcherlaw18_awake.f = some true := rfl

theorem law_may (c d e : List Int) : dispatcherlaw18_may.f c d e = some (decide (c.length ≤ 64 ∧ c.length = d.length ∧ d.length = e.length) && mayR c && mayR d && mayR e) := by
  unfold dispatcherlaw18_may.f
  rw [hand_may, hand_may, hand_may, Option.bind_some, Option.bind_some, Option.bind_some]
  by_cases h1 : c.length ≤ 64
  · rw [if_pos (by omega)]
    by_cases h2 : c.length = d.length
    · rw [if_pos (by omega)]
      by_cases h3 : d.length = e.length
      · rw [if_pos (by omega)]
        cases h4 : mayR c <;> cases h5 : mayR d <;> simp [h1, h2, h3] <;> omega
      · rw [if_neg (by omega)]; simp [h3]
    · rw [if_neg (by omega)]; simp [h2]
  · rw [if_neg (by omega)]; simp [h1]

theorem hand_above {c d : List Int} (hc : mayR c = true) (hd : mayR d = true) (hl : c.length = d.length) : dispatcherlaw18_above.f c d = some (!lessAny d c) := by
  unfold dispatcherlaw18_above.f
  rw [hand_of hc hd hl, Option.bind_some]
  cases h1 : lessAny c d <;> cases h2 : lessAny d c <;> rfl
def mg (c d : List Int) : List Int := HD.merged (c.zip d)
theorem mg_cons (x y : Int) (c d : List Int) : mg (x :: c) (y :: d) = max x y :: mg c d := rfl
theorem mg_len {c d : List Int} (hl : c.length = d.length) : (mg c d).length = c.length := by simp [mg, HD.merged]; omega
theorem mg_all {c d : List Int} {p : Int → Prop} (hc : ∀ x ∈ c, p x) (hd : ∀ x ∈ d, p x) : ∀ x ∈ mg c d, p x := by
  induction c generalizing d with
  | nil => intro x hx; simp [mg, HD.merged] at hx
  | cons a c ih => cases d with
    | nil => intro x hx; simp [mg, HD.merged] at hx
    | cons b d =>
      intro x hx
      rw [mg_cons] at hx
      rcases List.mem_cons.1 hx with rfl | hx
      · by_cases h : a ≤ b
        · rw [show max a b = b by omega]; exact hd b (by simp)
        · rw [show max a b = a by omega]; exact hc a (by simp)
      · exact ih (fun y hy => hc y (by simp [hy])) (fun y hy => hd y (by simp [hy])) x hx
theorem may_iff (c : List Int) : mayR c = true ↔ (1 ≤ c.length ∧ c.length ≤ 64) ∧ ∀ x ∈ c, 0 ≤ x ∧ x ≤ 1099511627776 := by unfold mayR; simp
theorem mg_may {c d : List Int} (hl : c.length = d.length) (hc : mayR c = true) (hd : mayR d = true) : mayR (mg c d) = true := by
  rw [may_iff] at *
  refine ⟨by rw [mg_len hl]; exact hc.1, mg_all hc.2 hd.2⟩
theorem hand_mg {c d : List Int} (hc : mayR c = true) (hd : mayR d = true) (hl : c.length = d.length) : HD.clock_Clock_Merge.f c d = some (mg c d, 0) := by
  unfold HD.clock_Clock_Merge.f
  rw [hand_fit hc hd hl, if_pos rfl]
  rfl
theorem mg_comm (c d : List Int) : mg c d = mg d c := by
  induction c generalizing d with
  | nil => cases d <;> rfl
  | cons x c ih => cases d with
    | nil => rfl
    | cons y d => rw [mg_cons, mg_cons, ih, show max x y = max y x by omega]
theorem mg_assoc (c d e : List Int) : mg (mg c d) e = mg c (mg d e) := by
  induction c generalizing d e with
  | nil => cases d <;> cases e <;> rfl
  | cons x c ih => cases d with
    | nil => cases e <;> rfl
    | cons y d => cases e with
      | nil => rfl
      | cons z e => rw [mg_cons, mg_cons, mg_cons, mg_cons, ih, show max (max x y) z = max x (max y z) by omega]
theorem mg_above {c d : List Int} (hl : c.length = d.length) : lessAny (mg c d) c = false := by
  induction c generalizing d with
  | nil => cases d <;> rfl
  | cons x c ih => cases d with
    | nil => simp at hl
    | cons y d =>
      simp at hl
      rw [mg_cons, less_cons, ih hl, Bool.or_false, decide_eq_false_iff_not]
      omega
theorem mg_least {c d e : List Int} (hl : c.length = d.length) (hl' : d.length = e.length) (h : lessAny e c = false) (h' : lessAny e d = false) : lessAny e (mg c d) = false := by
  induction c generalizing d e with
  | nil => cases d <;> cases e <;> rfl
  | cons x c ih => cases d with
    | nil => simp at hl
    | cons y d => cases e with
      | nil => simp at hl'
      | cons z e =>
        rw [less_cons] at h h'
        simp at h h' hl hl'
        rw [mg_cons, less_cons, ih hl hl' h.2 h'.2, Bool.or_false, decide_eq_false_iff_not]
        omega

theorem ClockLeast : dispatcherlaw18_ClockLeast.Pure := by
  intro c d e _ _ _ _ _ _ _ _ _
  refine Ev.rounds ?_
  refine Ev.same (f := fun k => _) ?_ (fun k => by rw [dispatcherlaw18_ClockLeast.f, hand_awake, Option.bind_some, if_pos rfl, law_may, Option.bind_some])
  refine Ev.ite (fun hm => ?_) (fun _ => Ev.now _)
  simp only [Bool.and_eq_true, decide_eq_true_eq] at hm
  obtain ⟨⟨⟨⟨h64, hcd, hde⟩, hc⟩, hd⟩, he⟩ := hm
  have hm := mg_may hcd hc hd
  have hml := mg_len hcd
  have hm2 := mg_may hde hd he
  have hml2 := mg_len hde
  refine Ev.plain_bind (hand_mg hc hd hcd) ?_
  refine Ev.plain_bind (hand_mg hd hc hcd.symm) ?_
  refine Ev.plain_bind (hand_mg hm he (show (mg c d).length = e.length by omega)) ?_
  refine Ev.plain_bind (hand_mg hd he hde) ?_
  refine Ev.plain_bind (hand_mg hc hm2 (show c.length = (mg d e).length by omega)) ?_
  refine Ev.pos (by rfl) ?_
  refine Ev.pos (by rfl) ?_
  refine Ev.pos (by rfl) ?_
  refine Ev.pos (by rfl) ?_
  refine Ev.pos (by rfl) ?_
  simp only []
  rw [mg_comm d c, mg_assoc c d e]
  refine Ev.bind_of (ref11_ints_same _ (by omega)) ?_
  refine Ev.pos (by rfl) ?_
  refine Ev.bind_of (ref11_ints_same _ (by have := mg_len (c := c) (d := mg d e) (by omega); omega)) ?_
  refine Ev.round (f := fun _ => _) (Ev.const ?_) (fun k => by rw [dispatcherlaw18_ClockLeast.j0, if_neg (by simp)])
  have a1 : dispatcherlaw18_above.f c (mg c d) = some true := by rw [hand_above hc hm hml.symm, mg_above hcd]; rfl
  have a2 : dispatcherlaw18_above.f d (mg c d) = some true := by rw [hand_above hd hm (by omega), mg_comm c d, mg_above hcd.symm]; rfl
  simp only [a1, a2, hand_above hc he (show c.length = e.length by omega), hand_above hd he hde, hand_above hm he (show (mg c d).length = e.length by omega), Option.bind_some, if_true]
  cases h1 : lessAny e c with
  | true => simp
  | false =>
    cases h2 : lessAny e d with
    | true => simp
    | false => rw [mg_least hcd hde h1 h2]; rfl

end Go.Proofs.Ytdcmdmlbpcekaaa.Pure
