/-
  THE PLAIN LAW of ClockTicked: a clock is ahead of what it is behind a tick; ticks of two ranks come to the same in either order.
-/
import Derived.Test.YtdcmdmlbpcekaaaQClockTickedx2
import Derived.Test.YtdcmdmlbpcekaaaQClockTickedx1
import Derived.Test.YtdcmdmlbpcekaaaHP
namespace Go.Proofs.Ytdcmdmlbpcekaaa.Pure
open Go.RowKit Go.Proofs.Ytdcmdmlbpcekaaa.QClockTicked Go.Proofs.YtdcmdmlbpcekaaaW.PrintWords Go.Proofs.YtdcmdmlbpcekaaaW.PrintLast Go.Proofs.YtdcmdmlbpcekaaaW.PrintMore Go.Proofs.Ytdcmdmlbpcekaaa.HP
set_option linter.unusedVariables false
set_option linter.unusedSimpArgs false

theorem ref11_ints_l0 (a b : List Int) (hl : a.length = b.length) (hm : a.length < 9223372036854775807) (d : Nat) : ∀ i : Nat, i ≤ a.length → a.length - i = d →
    Ev (fun k => dispatcherref11_Ints.l0 k a b i) (decide (a.drop i = b.drop i)) := by
  induction d with
  | zero =>
    intro i hi hd
    refine Ev.round (f := fun _ => some _) (Ev.now _) (fun k => ?_)
    rw [dispatcherref11_Ints.l0, if_neg (by omega)]
    simp [List.drop_of_length_le, show a.length ≤ i by omega, show b.length ≤ i by omega]
  | succ d ih =>
    intro i hi hd
    have h1 : i < a.length := by omega
    have h2 : i < b.length := by omega
    by_cases he : a[i] = b[i]
    · refine Ev.eq (Ev.round (ih (i + 1) (by omega) (by omega)) (fun k => ?_)) ?_
      · rw [dispatcherref11_Ints.l0, if_pos (by omega), if_pos (by omega), if_pos (by omega), if_pos (by rw [rd_lt h1, rd_lt h2]; exact he), wrap64_nat i (by omega)]
      · rw [drop_cons h1, drop_cons h2, he]; exact dec_cons_eq
    · refine Ev.eq (Ev.round (f := fun _ => some false) (Ev.now _) (fun k => ?_)) ?_
      · rw [dispatcherref11_Ints.l0, if_pos (by omega), if_pos (by omega), if_pos (by omega), if_neg (by rw [rd_lt h1, rd_lt h2]; exact he)]
      · rw [drop_cons h1, drop_cons h2]; exact dec_cons_ne he
theorem ref11_ints (a b : List Int) (hm : a.length < 9223372036854775807) : Ev (fun k => dispatcherref11_Ints.f k a b) (decide (a = b)) := by
  by_cases hl : a.length = b.length
  · refine Ev.eq (Ev.same (ref11_ints_l0 a b hl hm a.length 0 (by omega) (by omega)) (fun k => ?_)) (by simp)
    rw [dispatcherref11_Ints.f, if_pos (by omega)]; rfl
  · refine Ev.eq (Ev.same (f := fun _ => some false) (Ev.now _) (fun k => ?_)) ?_
    · rw [dispatcherref11_Ints.f, if_neg (by omega)]
    · symm; rw [decide_eq_false_iff_not]; intro h; exact hl (by rw [h])

theorem ref11_ints_same (a : List Int) (hm : a.length < 9223372036854775807) : Ev (fun k => dispatcherref11_Ints.f k a a) true := Ev.eq (ref11_ints a a hm) (by simp)

/-- may a clock be? -/
def mayR (l : List Int) : Bool := decide (1 ≤ l.length ∧ l.length ≤ 64) && l.all (fun n => decide (0 ≤ n) && decide (n ≤ 1099511627776))

theorem odd_iff (n : Int) : HD.odd n = !(decide (0 ≤ n) && decide (n ≤ 1099511627776)) := by
  unfold HD.odd; rw [Bool.eq_iff_iff]; simp [Int.not_le]; try omega
theorem mayB_eq (l : List Int) : HD.mayB l = mayR l := by
  unfold HD.mayB mayR
  congr 1
  induction l with
  | nil => rfl
  | cons x t ih => rw [List.any_cons, List.all_cons, odd_iff, Bool.not_or, ih, Bool.not_not]

theorem fitB_eq (c d : List Int) : HD.fitB c d = (mayR c && mayR d && decide (c.length = d.length)) := by unfold HD.fitB; rw [mayB_eq, mayB_eq]
theorem hand_may (l : List Int) : HD.clock_May.f l = some (mayR l) := by rw [← mayB_eq]; rfl
theorem may_le {c : List Int} (h : mayR c = true) : c.length ≤ 64 := by unfold mayR at h; simp at h; omega

/-- what is told, out of two tests -/
def encT (a b : Bool) : Int := (bif a then 1 else 0) + (bif b then 2 else 0)
theorem tell_enc (a b : Bool) (x : Int × Int) : HD.tell (encT a b) x = encT (a || decide (x.1 < x.2)) (b || decide (x.2 < x.1)) := by
  have e1 : bits .or .u8 0 1 = 1 := by decide
  have e2 : bits .or .u8 1 1 = 1 := by decide
  have e3 : bits .or .u8 2 1 = 3 := by decide
  have e4 : bits .or .u8 3 1 = 3 := by decide
  have e5 : bits .or .u8 0 2 = 2 := by decide
  have e6 : bits .or .u8 1 2 = 3 := by decide
  have e7 : bits .or .u8 2 2 = 2 := by decide
  have e8 : bits .or .u8 3 2 = 3 := by decide
  unfold HD.tell
  by_cases h1 : x.1 < x.2
  · have h2 : ¬ x.2 < x.1 := by omega
    cases a <;> cases b <;> simp [encT, h1, h2, e1, e2, e3, e4]
  · by_cases h2 : x.2 < x.1
    · cases a <;> cases b <;> simp [encT, h1, h2, e5, e6, e7, e8]
    · cases a <;> cases b <;> simp [encT, h1, h2]
theorem tells_from (z : List (Int × Int)) : ∀ a b : Bool, z.foldl HD.tell (encT a b) = encT (a || z.any (fun x => decide (x.1 < x.2))) (b || z.any (fun x => decide (x.2 < x.1))) := by
  induction z with
  | nil => intro a b; simp
  | cons x z ih => intro a b; rw [List.foldl_cons, tell_enc, ih, List.any_cons, List.any_cons, Bool.or_assoc, Bool.or_assoc]
/-- is a number of the one below the other one's? -/
def lessAny (c d : List Int) : Bool := (c.zip d).any (fun x => decide (x.1 < x.2))
theorem any_swap (c d : List Int) : (c.zip d).any (fun x => decide (x.2 < x.1)) = lessAny d c := by
  unfold lessAny
  induction c generalizing d with
  | nil => cases d <;> simp
  | cons x c ih => cases d with
    | nil => simp
    | cons y d => simp only [List.zip_cons_cons, List.any_cons, ih]
theorem tells_eq (c d : List Int) : HD.tells (c.zip d) = encT (lessAny c d) (lessAny d c) := by
  have h := tells_from (c.zip d) false false
  rw [any_swap] at h
  rw [Bool.false_or, Bool.false_or] at h
  exact h

theorem less_cons (x y : Int) (c d : List Int) : lessAny (x :: c) (y :: d) = (decide (x < y) || lessAny c d) := by unfold lessAny; rw [List.zip_cons_cons, List.any_cons]
theorem less_self (c : List Int) : lessAny c c = false := by
  induction c with
  | nil => rfl
  | cons x c ih => rw [less_cons, ih]; simp
theorem less_same {c d : List Int} (hl : c.length = d.length) (h : lessAny c d = false) (h' : lessAny d c = false) : c = d := by
  induction c generalizing d with
  | nil => exact (List.eq_nil_of_length_eq_zero (by simpa using hl.symm)).symm
  | cons x c ih => cases d with
    | nil => simp at hl
    | cons y d =>
      rw [less_cons] at h h'
      simp at h h' hl
      rw [ih hl h.2 h'.2, show x = y by omega]
theorem less_no {c d e : List Int} (hl : c.length = d.length) (hl' : d.length = e.length) (h : lessAny d c = false) (h' : lessAny e d = false) : lessAny e c = false := by
  induction c generalizing d e with
  | nil => simp [lessAny]
  | cons x c ih => cases d with
    | nil => simp at hl
    | cons y d => cases e with
      | nil => simp at hl'
      | cons z e =>
        rw [less_cons] at h h'
        simp at h h' hl hl'
        rw [less_cons, ih hl hl' h.2 h'.2, Bool.or_false, decide_eq_false_iff_not]
        omega
theorem less_yes {c d e : List Int} (hl : c.length = d.length) (hl' : d.length = e.length) (h : lessAny c d = true) (h' : lessAny e d = false) : lessAny c e = true := by
  induction c generalizing d e with
  | nil => simp [lessAny] at h
  | cons x c ih => cases d with
    | nil => simp at hl
    | cons y d => cases e with
      | nil => simp at hl'
      | cons z e =>
        rw [less_cons] at h h'
        simp at h' hl hl'
        rw [Bool.or_eq_true] at h
        rw [less_cons, Bool.or_eq_true]
        rcases h with h | h
        · left
          have := of_decide_eq_true h
          exact decide_eq_true (by omega)
        · exact .inr (ih hl hl' h h'.2)
/-- what is told of two clocks that may be, of as many ranks -/
theorem hand_fit {c d : List Int} (hc : mayR c = true) (hd : mayR d = true) (hl : c.length = d.length) : HD.fitB c d = true := by rw [fitB_eq, hc, hd]; simp [hl]

theorem hand_of {c d : List Int} (hc : mayR c = true) (hd : mayR d = true) (hl : c.length = d.length) : dispatcherlaw18_of.f c d = some (encT (lessAny c d) (lessAny d c)) := by
  unfold dispatcherlaw18_of.f HD.clock_Clock_Of.f
  rw [hand_fit hc hd hl, if_pos rfl, tells_eq, Option.bind_some, if_pos rfl]
theorem hand_awake : HD.dispatcherlaw18_awake.f = some true := rfl

def sumFrom (s : Int) (l : List Int) : Int := l.foldl (fun s v => wrap64 (s + v)) s
def sumR (c : List Int) : Int := if mayR c = true then sumFrom 0 c else 0
theorem sum_step {c : List Int} {i : Nat} (h : i < c.length) (s : Int) : sumFrom s (c.drop i) = sumFrom (wrap64 (s + c[i])) (c.drop (i + 1)) := by rw [drop_cons h]; rfl
theorem prog_sum_l0 (c : List Int) (hm : c.length ≤ 80) (d : Nat) : ∀ (i : Nat) (s : Int), i ≤ c.length → c.length - i = d → Ev (fun k => clock_Clock_Sum.l0 k s c (c.length : Int) i) (sumFrom s (c.drop i)) := by
  induction d with
  | zero =>
    intro i s hi hd
    refine Ev.round (f := fun _ => some _) (Ev.now _) (fun k => ?_)
    rw [clock_Clock_Sum.l0, if_neg (by omega), List.drop_of_length_le (by omega)]; rfl
  | succ d ih =>
    intro i s hi hd
    have h1 : i < c.length := by omega
    rw [sum_step h1]
    refine Ev.round (ih (i + 1) _ (by omega) (by omega)) (fun k => ?_)
    rw [clock_Clock_Sum.l0, if_pos (by omega), if_pos (by omega), if_pos (by omega), rd_lt h1, wrap64_nat i (by omega)]
theorem prog_sum (c : List Int) (hm : c.length ≤ 80) : Ev (fun k => clock_Clock_Sum.f k c) (sumR c) := by
  simp only [clock_Clock_Sum.f]
  refine Ev.plain_bind (hand_may c) ?_
  unfold sumR
  cases mayR c with
  | false => exact Ev.neg (by simp) (Ev.const (by simp))
  | true => exact Ev.pos (by rfl) (prog_sum_l0 c hm c.length 0 0 (by omega) (by omega))

theorem sumFrom_plain (l : List Int) : ∀ (s : Int), 0 ≤ s → s + l.length * 1099511627776 ≤ 9223372036854775807 → (∀ x ∈ l, 0 ≤ x ∧ x ≤ 1099511627776) → sumFrom s l = s + l.sum := by
  induction l with
  | nil => intro s _ _ _; simp [sumFrom]
  | cons x l ih =>
    intro s h0 h1 hx
    have hb := hx x (by simp)
    have e : sumFrom s (x :: l) = sumFrom (wrap64 (s + x)) l := rfl
    simp only [List.length_cons] at h1
    rw [e, wrap64_of (by omega) (by omega), ih (s + x) (by omega) (by omega) (fun y hy => hx y (by simp [hy])), List.sum_cons]
    omega
theorem may_all {c : List Int} (h : mayR c = true) : ∀ x ∈ c, 0 ≤ x ∧ x ≤ 1099511627776 := by
  unfold mayR at h
  simp at h
  exact h.2
theorem sumR_plain {c : List Int} (h : mayR c = true) : sumR c = c.sum := by
  have hl := may_le h
  unfold sumR
  rw [if_pos h, sumFrom_plain c 0 (by omega) (by omega) (may_all h)]
  omega

/-- what the document tells of a tick -/
def tickR (c : List Int) (r : Int) : List Int × Int := if mayR c = true ∧ 0 ≤ r ∧ r < (c.length : Int) ∧ rd c r < 1099511627776 then (c.set r.toNat (rd c r + 1), 0) else ([], 2)
theorem may_at {c : List Int} (h : mayR c = true) {r : Int} (h0 : 0 ≤ r) (h1 : r < (c.length : Int)) : 0 ≤ rd c r ∧ rd c r ≤ 1099511627776 := by
  unfold mayR at h
  simp at h
  obtain ⟨i, rfl⟩ : ∃ i : Nat, r = i := ⟨r.toNat, by omega⟩
  have hi : i < c.length := by omega
  rw [rd_lt hi]
  exact h.2 _ (List.getElem_mem hi)
theorem hand_clone {l : List Int} (h : l.length ≤ 80) : HD.clone.f l = some l := by unfold HD.clone.f; rw [if_pos (by omega)]
theorem prog_tick (c : List Int) (r : Int) (hm : c.length ≤ 80) : clock_Clock_Tick.f c r = some (tickR c r) := by
  unfold clock_Clock_Tick.f tickR
  rw [hand_may, Option.bind_some]
  cases h1 : mayR c with
  | false => simp
  | true =>
    rw [if_pos rfl]
    by_cases h2 : r < 0
    · rw [if_pos h2, if_neg (by omega)]
    · rw [if_neg h2]
      by_cases h3 : r ≥ (c.length : Int)
      · rw [if_pos h3, if_neg (by omega)]
      · rw [if_neg h3, if_pos (by omega), if_pos (by omega)]
        have hb := may_at h1 (r := r) (by omega) (by omega)
        by_cases h4 : rd c r = 1099511627776
        · rw [if_pos h4, if_neg (by omega)]
        · rw [if_neg h4, if_pos (by refine ⟨rfl, ?_, ?_, ?_⟩ <;> omega), hand_clone hm, Option.bind_some, if_pos (by omega), wrap64_of (by omega) (by omega)]

def lateR (c d : List Int) (r : Int) : Bool × Int := if HD.fitB c d = true ∧ 0 ≤ r ∧ r < (c.length : Int) then (decide (rd c r < rd d r), 0) else (false, 2)
theorem prog_late (c d : List Int) (r : Int) : clock_Clock_Late.f c d r = some (lateR c d r) := by
  unfold clock_Clock_Late.f lateR HD.clock_fit.f
  rw [Option.bind_some]
  cases h : HD.fitB c d with
  | false => simp
  | true =>
    have hl : c.length = d.length := by rw [fitB_eq] at h; simp at h; exact h.2
    rw [if_pos rfl]
    by_cases h2 : r < 0
    · rw [if_pos h2, if_neg (by omega)]
    · rw [if_neg h2]
      by_cases h3 : r ≥ (c.length : Int)
      · rw [if_pos h3, if_neg (by omega)]
      · rw [if_neg h3, if_pos (by omega), if_pos (by omega), if_pos (by omega), if_pos (by refine ⟨rfl, ?_, ?_⟩ <;> omega)]

def tk (c : List Int) (n : Nat) : List Int := c.set n (rd c (n : Int) + 1)
theorem rd_zero (x : Int) (c : List Int) : rd (x :: c) ((0 : Nat) : Int) = x := rfl
theorem rd_succ (x : Int) (c : List Int) (n : Nat) : rd (x :: c) ((n + 1 : Nat) : Int) = rd c (n : Int) := rfl
theorem tk_zero (x : Int) (c : List Int) : tk (x :: c) 0 = (x + 1) :: c := rfl
theorem tk_succ (x : Int) (c : List Int) (n : Nat) : tk (x :: c) (n + 1) = x :: tk c n := rfl
theorem tk_len (c : List Int) (n : Nat) : (tk c n).length = c.length := by simp [tk]
theorem tk_less {c : List Int} {n : Nat} (h : n < c.length) : lessAny c (tk c n) = true ∧ lessAny (tk c n) c = false := by
  induction c generalizing n with
  | nil => simp at h
  | cons x c ih => cases n with
    | zero => rw [tk_zero, less_cons, less_cons, less_self]; simp; omega
    | succ n =>
      have := ih (n := n) (by simpa using h)
      rw [tk_succ, less_cons, less_cons, this.1, this.2]
      simp
theorem tk_sum {c : List Int} {n : Nat} (h : n < c.length) : (tk c n).sum = c.sum + 1 := by
  induction c generalizing n with
  | nil => simp at h
  | cons x c ih => cases n with
    | zero => rw [tk_zero, List.sum_cons, List.sum_cons]; omega
    | succ n => rw [tk_succ, List.sum_cons, List.sum_cons, ih (by simpa using h)]; omega
theorem tk_rd {c : List Int} {n : Nat} (h : n < c.length) (m : Nat) : rd (tk c n) (m : Int) = rd c (m : Int) + if n = m then 1 else 0 := by
  unfold tk rd
  simp only [Int.toNat_natCast, List.getD_eq_getElem?_getD, List.getElem?_set]
  by_cases e : n = m
  · subst e; simp [h]
  · simp [e]
theorem tk_comm {c : List Int} {n m : Nat} (hn : n < c.length) (hm : m < c.length) : tk (tk c n) m = tk (tk c m) n := by
  by_cases e : n = m
  · subst e; rfl
  · show (tk c n).set m (rd (tk c n) (m : Int) + 1) = (tk c m).set n (rd (tk c m) (n : Int) + 1)
    rw [tk_rd hn, tk_rd hm, if_neg e, if_neg (Ne.symm e)]
    unfold tk
    rw [List.set_comm _ _ e]
    simp
theorem may_iff (c : List Int) : mayR c = true ↔ (1 ≤ c.length ∧ c.length ≤ 64) ∧ ∀ x ∈ c, 0 ≤ x ∧ x ≤ 1099511627776 := by unfold mayR; simp
theorem tk_all {c : List Int} {n : Nat} (h : n < c.length) {b : Int} (hc : ∀ x ∈ c, 0 ≤ x ∧ x ≤ b) : ∀ x ∈ tk c n, 0 ≤ x ∧ x ≤ b + 1 := by
  intro x hx
  unfold tk at hx
  rcases List.mem_or_eq_of_mem_set hx with hx | rfl
  · have := hc x hx; omega
  · rw [rd_lt h]
    have := hc _ (List.getElem_mem h); omega
theorem tk_may {c : List Int} {n : Nat} (h : n < c.length) {b : Int} (hb : b < 1099511627776) (hl : 1 ≤ c.length ∧ c.length ≤ 64) (hc : ∀ x ∈ c, 0 ≤ x ∧ x ≤ b) : mayR (tk c n) = true := by
  rw [may_iff, tk_len]
  exact ⟨hl, fun x hx => by have := tk_all h hc x hx; omega⟩
theorem hand_tick {c : List Int} {n : Nat} (h : n < c.length) {b : Int} (hb : b < 1099511627776) (hl : 1 ≤ c.length ∧ c.length ≤ 64) (hc : ∀ x ∈ c, 0 ≤ x ∧ x ≤ b) : clock_Clock_Tick.f c (n : Int) = some (tk c n, 0) := by
  rw [prog_tick c _ (by omega)]
  unfold tickR
  rw [if_pos]
  · rfl
  · refine ⟨(may_iff c).2 ⟨hl, fun x hx => by have := hc x hx; omega⟩, by omega, by omega, ?_⟩
    rw [rd_lt h]
    have := hc _ (List.getElem_mem h)
    omega
theorem hand_late {c d : List Int} {n : Nat} (h : n < c.length) (hc : mayR c = true) (hd : mayR d = true) (hl : c.length = d.length) : clock_Clock_Late.f c d (n : Int) = some (decide (rd c (n : Int) < rd d (n : Int)), 0) := by
  rw [prog_late]
  unfold lateR
  rw [if_pos ⟨hand_fit hc hd hl, by omega, by omega⟩]
theorem u64_small (x : Int) (h : 0 ≤ x) (h' : x < 18446744073709551616) : IntKind.u64.wrap x = x := by
  simp only [IntKind.wrap, IntKind.signed, IntKind.bits]
  simp
  omega
theorem u64_nat (x : Int) : 0 ≤ IntKind.u64.wrap x := by
  simp only [IntKind.wrap, IntKind.signed, IntKind.bits]
  simp
  omega
/-- a number, brought within a length -/
theorem within (x : Int) (l : Nat) (h1 : 1 ≤ l) (h2 : l ≤ 64) : ∃ n : Nat, n < l ∧ wrap64 (Int.tmod (IntKind.u64.wrap x) (IntKind.u64.wrap (l : Int))) = (n : Int) := by
  rw [u64_small (l : Int) (by omega) (by omega)]
  obtain ⟨m, hm⟩ : ∃ m : Nat, IntKind.u64.wrap x = (m : Int) := ⟨(IntKind.u64.wrap x).toNat, by have := u64_nat x; omega⟩
  rw [hm]
  have e : Int.tmod (m : Int) (l : Int) = ((m % l : Nat) : Int) := by rw [Int.ofNat_tmod]
  have hlt := Nat.mod_lt m (show 0 < l by omega)
  exact ⟨m % l, hlt, by rw [e, wrap64_of (by omega) (by omega)]⟩

theorem law_j2 (c : List Int) (p q : Nat) (hp : p < c.length) (hq : q < c.length) (hl : 1 ≤ c.length ∧ c.length ≤ 64) (hc : ∀ x ∈ c, 0 ≤ x ∧ x ≤ 549755813888) :
    Ev (fun k => dispatcherlaw18_ClockTicked.j2 k c (p : Int) (q : Int) (tk c p) (tk c q) false) true := by
  have hcp := tk_all hp hc
  have hcq := tk_all hq hc
  have hlp := tk_len c p
  have hlq := tk_len c q
  have hmc : mayR c = true := (may_iff c).2 ⟨hl, fun x hx => by have := hc x hx; omega⟩
  have hmp := tk_may hp (by omega) hl hc
  have hpq : q < (tk c p).length := by omega
  have hqp : p < (tk c q).length := by omega
  have hmpq := tk_may hpq (by omega) (by omega) hcp
  have hlpq := tk_len (tk c p) q
  refine Ev.round (f := fun k => _) ?_ (fun k => by rw [dispatcherlaw18_ClockTicked.j2, if_neg (by simp)])
  refine Ev.plain_bind (hand_tick hpq (by omega) (by omega) hcp) ?_
  refine Ev.plain_bind (hand_tick hqp (by omega) (by omega) hcq) ?_
  refine Ev.plain_bind (hand_late hp hmc hmp (by omega)) ?_
  refine Ev.plain_bind (hand_late (c := tk (tk c p) q) (d := tk c p) (n := p) (by omega) hmpq hmp (by omega)) ?_
  refine Ev.pos (by rfl) ?_
  refine Ev.pos (by rfl) ?_
  refine Ev.pos (by rfl) ?_
  refine Ev.pos (by rfl) ?_
  simp only []
  rw [tk_comm hq hp]
  refine Ev.bind_of (ref11_ints_same _ (by omega)) ?_
  refine Ev.pos (by rfl) ?_
  refine Ev.plain_bind (hand_of hmc hmp (by omega)) ?_
  rw [(tk_less hp).1, (tk_less hp).2]
  refine Ev.pos (by rfl) ?_
  refine Ev.plain_bind (hand_of hmp hmpq (by omega)) ?_
  rw [(tk_less hpq).1, (tk_less hpq).2]
  refine Ev.pos (by rfl) ?_
  refine Ev.pos (decide_eq_true (by rw [tk_rd hp, if_pos rfl]; omega)) ?_
  refine Ev.neg (by rw [decide_eq_true_eq, tk_rd hpq]; split <;> omega) ?_
  refine Ev.bind_of (prog_sum (tk c p) (by omega)) ?_
  refine Ev.bind_of (prog_sum c (by omega)) ?_
  refine Ev.const ?_
  rw [sumR_plain hmp, sumR_plain hmc, tk_sum hp]
  have hb : ∀ (l : List Int), (∀ x ∈ l, 0 ≤ x ∧ x ≤ 549755813888) → 0 ≤ l.sum ∧ l.sum ≤ l.length * 549755813888 := by
    intro l
    induction l with
    | nil => intro _; simp
    | cons x l ih =>
      intro h
      have h1 := h x (by simp)
      have h2 := ih (fun y hy => h y (by simp [hy]))
      rw [List.sum_cons, List.length_cons]
      omega
  have := hb c hc
  rw [wrap64_of (by omega) (by omega)]
  simp
theorem law_l0 (c : List Int) (a b : Int) (hl : 1 ≤ c.length ∧ c.length ≤ 64) (h0 : ∀ x ∈ c, 0 ≤ x) (d : Nat) : ∀ i : Nat, i ≤ c.length → c.length - i = d → (∀ x ∈ c.take i, x ≤ 549755813888) → Ev (fun k => dispatcherlaw18_ClockTicked.l0 k c a b i) true := by
  induction d with
  | zero =>
    intro i hi hd hx
    obtain ⟨p, hp, ep⟩ := within a c.length hl.1 hl.2
    obtain ⟨q, hq, eq⟩ := within b c.length hl.1 hl.2
    rw [List.take_of_length_le (by omega)] at hx
    have hc : ∀ x ∈ c, 0 ≤ x ∧ x ≤ 549755813888 := fun x h => ⟨h0 x h, hx x h⟩
    refine Ev.round (f := fun k => _) ?_ (fun k => by
      rw [dispatcherlaw18_ClockTicked.l0, if_neg (by omega), if_neg (by rw [u64_small _ (by omega) (by omega)]; omega), ep, eq, hand_tick hp (by omega) hl hc, Option.bind_some, hand_tick hq (by omega) hl hc, Option.bind_some, if_pos rfl])
    exact law_j2 c p q hp hq hl hc
  | succ d ih =>
    intro i hi hd hx
    have h1 : i < c.length := by omega
    by_cases hgt : rd c (i : Int) > 549755813888
    · exact Ev.round (f := fun _ => some true) (Ev.now _) (fun k => by rw [dispatcherlaw18_ClockTicked.l0, if_pos (by omega), if_pos (by omega), if_pos hgt])
    · refine Ev.round (ih (i + 1) (by omega) (by omega) ?_) (fun k => by rw [dispatcherlaw18_ClockTicked.l0, if_pos (by omega), if_pos (by omega), if_neg hgt, wrap64_nat i (by omega)])
      intro x hm
      rw [List.take_succ_eq_append_getElem h1, List.mem_append] at hm
      rcases hm with hm | hm
      · exact hx x hm
      · rw [List.mem_singleton] at hm
        subst hm
        rw [rd_lt h1] at hgt
        omega

theorem ClockTicked : dispatcherlaw18_ClockTicked.Pure := by
  intro c a b _ _ _ _ _
  refine Ev.rounds ?_
  refine Ev.same (f := fun k => _) ?_ (fun k => by rw [dispatcherlaw18_ClockTicked.f, hand_awake, Option.bind_some, if_pos rfl, hand_may, Option.bind_some])
  refine Ev.ite (fun hm => ?_) (fun _ => ?_)
  · have hi := (may_iff c).1 hm
    refine Ev.round (f := fun k => _) ?_ (fun k => by rw [dispatcherlaw18_ClockTicked.j0, if_neg (by simp; omega)])
    exact law_l0 c a b hi.1 (fun x hx => (hi.2 x hx).1) c.length 0 (by omega) (by omega) (by simp)
  · exact Ev.round (f := fun _ => some true) (Ev.now _) (fun k => by rw [dispatcherlaw18_ClockTicked.j0, if_pos rfl])

end Go.Proofs.Ytdcmdmlbpcekaaa.Pure
