/-
  THE PLAIN LAW of ClockTicks: a clock that knows of nothing, a tick of any clock's, is what the chapter says; what is told is new memory.
-/
import Derived.Test.YtdcmdmlbpcekaaaQClockTicksx2
import Derived.Test.YtdcmdmlbpcekaaaQClockTicksx1
import Derived.Test.YtdcmdmlbpcekaaaHP
namespace Go.Proofs.Ytdcmdmlbpcekaaa.Pure
open Go.RowKit Go.Proofs.Ytdcmdmlbpcekaaa.QClockTicks Go.Proofs.YtdcmdmlbpcekaaaW.PrintWords Go.Proofs.YtdcmdmlbpcekaaaW.PrintLast Go.Proofs.YtdcmdmlbpcekaaaW.PrintMore Go.Proofs.Ytdcmdmlbpcekaaa.HP
set_option linter.unusedVariables false
set_option linter.unusedSimpArgs false

theorem ref11_ints_l0 (a b : List Int) (hl : a.length = b.length) (hm : a.length < 9223372036854775807) (d : Nat) : ∀ i : Nat, i ≤ a.length → a.length - i = d →
    Ev (fun k => dispatcherref11_Ints.l0 k a b i) (decide (a.drop i = b.drop i)) := by
  induction d with
  | zero =>
    intro i hi hd
    refine Ev.round (f := fun _ => some _) (Ev.now _) (fun k => ?_)
    rw [dispatcherref11_Ints.l0, if_neg (by omega)]
    simp [List.drop_of_length_le, show a.length ≤ i by omega, show b.length ≤ i by omega]
  | succ d ih =>
    intro i hi hd
    have h1 : i < a.length := by omega
    have h2 : i < b.length := by omega
    by_cases he : a[i] = b[i]
    · refine Ev.eq (Ev.round (ih (i + 1) (by omega) (by omega)) (fun k => ?_)) ?_
      · rw [dispatcherref11_Ints.l0, if_pos (by omega), if_pos (by omega), if_pos (by omega), if_pos (by rw [rd_lt h1, rd_lt h2]; exact he), wrap64_nat i (by omega)]
      · rw [drop_cons h1, drop_cons h2, he]; exact dec_cons_eq
    · refine Ev.eq (Ev.round (f := fun _ => some false) (Ev.now _) (fun k => ?_)) ?_
      · rw [dispatcherref11_Ints.l0, if_pos (by omega), if_pos (by omega), if_pos (by omega), if_neg (by rw [rd_lt h1, rd_lt h2]; exact he)]
      · rw [drop_cons h1, drop_cons h2]; exact dec_cons_ne he
theorem ref11_ints (a b : List Int) (hm : a.length < 9223372036854775807) : Ev (fun k => dispatcherref11_Ints.f k a b) (decide (a = b)) := by
  by_cases hl : a.length = b.length
  · refine Ev.eq (Ev.same (ref11_ints_l0 a b hl hm a.length 0 (by omega) (by omega)) (fun k => ?_)) (by simp)
    rw [dispatcherref11_Ints.f, if_pos (by omega)]; rfl
  · refine Ev.eq (Ev.same (f := fun _ => some false) (Ev.now _) (fun k => ?_)) ?_
    · rw [dispatcherref11_Ints.f, if_neg (by omega)]
    · symm; rw [decide_eq_false_iff_not]; intro h; exact hl (by rw [h])

theorem ref11_ints_same (a : List Int) (hm : a.length < 9223372036854775807) : Ev (fun k => dispatcherref11_Ints.f k a a) true := Ev.eq (ref11_ints a a hm) (by simp)

/-- may a clock be? -/
def mayR (l : List Int) : Bool := decide (1 ≤ l.length ∧ l.length ≤ 64) && l.all (fun n => decide (0 ≤ n) && decide (n ≤ 1099511627776))
theorem ref18_may_l0 (a : List Int) (hm : a.length < 9223372036854775807) (d : Nat) : ∀ i : Nat, i ≤ a.length → a.length - i = d →
    Ev (fun k => dispatcherref18_May.l0 k a i) ((a.drop i).all (fun n => decide (0 ≤ n) && decide (n ≤ 1099511627776))) := by
  induction d with
  | zero =>
    intro i hi hd
    refine Ev.round (f := fun _ => some _) (Ev.now _) (fun k => ?_)
    rw [dispatcherref18_May.l0, if_neg (by omega)]
    simp [List.drop_of_length_le, show a.length ≤ i by omega]
  | succ d ih =>
    intro i hi hd
    have h1 : i < a.length := by omega
    by_cases hn : a[i] < 0
    · refine Ev.eq (Ev.round (f := fun _ => some false) (Ev.now _) (fun k => ?_)) ?_
      · rw [dispatcherref18_May.l0, if_pos (by omega), if_pos (by omega), if_pos (by rw [rd_lt h1]; exact hn)]
      · rw [drop_cons h1]; exact all_cons_no (by simp; omega)
    · by_cases hn2 : a[i] > 1099511627776
      · refine Ev.eq (Ev.round (f := fun _ => some false) (Ev.now _) (fun k => ?_)) ?_
        · rw [dispatcherref18_May.l0, if_pos (by omega), if_pos (by omega), if_neg (by rw [rd_lt h1]; exact hn), if_pos (by rw [rd_lt h1]; exact hn2)]
        · rw [drop_cons h1]; exact all_cons_no (by simp; omega)
      · refine Ev.eq (Ev.round (ih (i + 1) (by omega) (by omega)) (fun k => ?_)) ?_
        · rw [dispatcherref18_May.l0, if_pos (by omega), if_pos (by omega), if_neg (by rw [rd_lt h1]; exact hn), if_neg (by rw [rd_lt h1]; exact hn2), wrap64_nat i (by omega)]
        · rw [drop_cons h1]; exact all_cons_yes (by simp; omega)
theorem ref18_may (a : List Int) (hm : a.length < 9223372036854775807) : Ev (fun k => dispatcherref18_May.f k a) (mayR a) := by
  by_cases h1 : a.length < 1
  · refine Ev.eq (Ev.round (f := fun _ => some false) (Ev.now _) (fun k => ?_)) ?_
    · rw [dispatcherref18_May.f, if_pos (by omega), dispatcherref18_May.j0, if_pos rfl]
    · simp [mayR, show ¬ (1 ≤ a.length) by omega]
  · by_cases h2 : a.length > 64
    · refine Ev.eq (Ev.round (f := fun _ => some false) (Ev.now _) (fun k => ?_)) ?_
      · rw [dispatcherref18_May.f, if_neg (by omega), dispatcherref18_May.j0, if_pos (by simp; omega)]
      · simp [mayR, show ¬ (a.length ≤ 64) by omega]
    · refine Ev.eq (Ev.round (ref18_may_l0 a hm a.length 0 (by omega) (by omega)) (fun k => ?_)) ?_
      · rw [dispatcherref18_May.f, if_neg (by omega), dispatcherref18_May.j0, if_neg (by simp; omega)]; rfl
      · simp [mayR, show 1 ≤ a.length by omega, show a.length ≤ 64 by omega]

theorem odd_iff (n : Int) : HD.odd n = !(decide (0 ≤ n) && decide (n ≤ 1099511627776)) := by
  unfold HD.odd; rw [Bool.eq_iff_iff]; simp [Int.not_le]; try omega
theorem mayB_eq (l : List Int) : HD.mayB l = mayR l := by
  unfold HD.mayB mayR
  congr 1
  induction l with
  | nil => rfl
  | cons x t ih => rw [List.any_cons, List.all_cons, odd_iff, Bool.not_or, ih, Bool.not_not]

theorem fitB_eq (c d : List Int) : HD.fitB c d = (mayR c && mayR d && decide (c.length = d.length)) := by unfold HD.fitB; rw [mayB_eq, mayB_eq]

theorem new_same (a : Int) : ∃ n g, clock_New.f a = some (n, g) ∧ dispatcherref18_New.f a = some (n, g) ∧ n.length ≤ 64 := by
  unfold clock_New.f dispatcherref18_New.f
  by_cases h1 : a < 1
  · exact ⟨[], 2, by rw [if_pos h1], by rw [if_pos h1], by simp⟩
  · by_cases h2 : a > 64
    · exact ⟨[], 2, by rw [if_neg h1, if_pos h2], by rw [if_neg h1, if_pos h2], by simp⟩
    · exact ⟨List.replicate a.toNat 0, 0, by rw [if_neg h1, if_neg h2, if_pos (by omega), if_pos (by omega)], by rw [if_neg h1, if_neg h2, if_pos (by omega), if_pos (by omega)], by simp; omega⟩
/-- what the document tells of a tick -/
def tickR (c : List Int) (r : Int) : List Int × Int := if mayR c = true ∧ 0 ≤ r ∧ r < (c.length : Int) ∧ rd c r < 1099511627776 then (c.set r.toNat (rd c r + 1), 0) else ([], 2)
theorem may_le {c : List Int} (h : mayR c = true) : c.length ≤ 64 := by unfold mayR at h; simp at h; omega
theorem may_at {c : List Int} (h : mayR c = true) {r : Int} (h0 : 0 ≤ r) (h1 : r < (c.length : Int)) : 0 ≤ rd c r ∧ rd c r ≤ 1099511627776 := by
  unfold mayR at h
  simp at h
  obtain ⟨i, rfl⟩ : ∃ i : Nat, r = i := ⟨r.toNat, by omega⟩
  have hi : i < c.length := by omega
  rw [rd_lt hi]
  exact h.2 _ (List.getElem_mem hi)
theorem hand_may (l : List Int) : HD.clock_May.f l = some (mayR l) := by rw [← mayB_eq]; rfl
theorem hand_clone {l : List Int} (h : l.length ≤ 80) : HD.clone.f l = some l := by unfold HD.clone.f; rw [if_pos (by omega)]
theorem ref18_tick (c : List Int) (r : Int) (hm : c.length ≤ 80) : Ev (fun k => dispatcherref18_Tick.f k c r) (tickR c r) := by
  simp only [dispatcherref18_Tick.f]
  refine Ev.bind_of (ref18_may c (by omega)) ?_
  unfold tickR
  cases h1 : mayR c with
  | false => exact Ev.neg (by simp) (Ev.const (by simp))
  | true =>
    refine Ev.pos (by rfl) (Ev.const ?_)
    by_cases h2 : r < 0
    · rw [if_pos h2, if_neg (by omega)]
    · rw [if_neg h2]
      by_cases h3 : r ≥ (c.length : Int)
      · rw [if_pos h3, if_neg (by omega)]
      · rw [if_neg h3, if_pos (by omega), if_pos (by omega)]
        have hb := may_at h1 (r := r) (by omega) (by omega)
        by_cases h4 : rd c r ≥ 1099511627776
        · rw [if_pos h4, if_neg (by omega)]
        · rw [if_neg h4, if_pos (by refine ⟨rfl, ?_, ?_, ?_⟩ <;> omega)]
          simp only [Option.bind_some, List.nil_append]
          rw [if_pos (by simp; omega), if_pos (by omega), wrap64_of (by omega) (by omega)]
theorem prog_tick (c : List Int) (r : Int) (hm : c.length ≤ 80) : clock_Clock_Tick.f c r = some (tickR c r) := by
  unfold clock_Clock_Tick.f tickR
  rw [hand_may, Option.bind_some]
  cases h1 : mayR c with
  | false => simp
  | true =>
    rw [if_pos rfl]
    by_cases h2 : r < 0
    · rw [if_pos h2, if_neg (by omega)]
    · rw [if_neg h2]
      by_cases h3 : r ≥ (c.length : Int)
      · rw [if_pos h3, if_neg (by omega)]
      · rw [if_neg h3, if_pos (by omega), if_pos (by omega)]
        have hb := may_at h1 (r := r) (by omega) (by omega)
        by_cases h4 : rd c r = 1099511627776
        · rw [if_pos h4, if_neg (by omega)]
        · rw [if_neg h4, if_pos (by refine ⟨rfl, ?_, ?_, ?_⟩ <;> omega), hand_clone hm, Option.bind_some, if_pos (by omega), wrap64_of (by omega) (by omega)]
theorem tick_len (c : List Int) (r : Int) (hm : c.length ≤ 80) : (tickR c r).1.length ≤ 80 := by
  unfold tickR
  split
  · simpa using hm
  · simp
theorem law_l1 (x0 : List Int) (x1 : Int) (x5 : List Int) (x6 : Int) (x7 : List Int) (x8 : Int) (x9 x10 : List Int) (x11 x12 : Int) (r : Bool) (h : Ev (fun k => dispatcherlaw18_ClockTicks.l0 k x0 x1 x5 x6 x7 x8 x9 x10 x11 (wrap64 (x12 + 1))) r) (d : Nat) :
    ∀ (x13 : List Int) (i : Nat), x13.length ≤ 1000 → i ≤ x13.length → x13.length - i = d → Ev (fun k => dispatcherlaw18_ClockTicks.l1 k x0 x1 x5 x6 x7 x8 x9 x10 x11 x12 x13 i) r := by
  induction d with
  | zero =>
    intro x13 i hm hi hd
    refine Ev.round h (fun k => ?_)
    rw [dispatcherlaw18_ClockTicks.l1, if_neg (by omega)]
  | succ d ih =>
    intro x13 i hm hi hd
    refine Ev.round (ih (x13.set i (-9)) (i + 1) (by simpa using hm) (by simp; omega) (by simp; omega)) (fun k => ?_)
    rw [dispatcherlaw18_ClockTicks.l1, if_pos (by omega), if_pos (by omega), wrap64_nat i (by omega), Int.toNat_natCast]
theorem law_round (c : List Int) (a : Int) (n : List Int) (g : Int) (hc : c.length ≤ 80) (t : Int) (ht : t < 2) (r : Bool) (h : Ev (fun k => dispatcherlaw18_ClockTicks.l0 k c a n g n g c (tickR c a).1 (tickR c a).2 (wrap64 (t + 1))) r) :
    Ev (fun k => dispatcherlaw18_ClockTicks.l0 k c a n g n g c (tickR c a).1 (tickR c a).2 t) r := by
  have hml := tick_len c a hc
  refine Ev.round (f := fun k => _) ?_ (fun k => by rw [dispatcherlaw18_ClockTicks.l0, if_pos ht, prog_tick c a hc])
  refine Ev.some_bind ?_
  refine Ev.bind_of (ref11_ints_same _ (by omega)) ?_
  refine Ev.pos (by rfl) ?_
  refine Ev.pos (by rfl) ?_
  refine Ev.bind_of (ref11_ints_same _ (by omega)) ?_
  exact Ev.round (law_l1 c a n g n g c _ _ t r h (tickR c a).1.length (tickR c a).1 0 (by omega) (by omega) (by omega)) (fun k => by rw [dispatcherlaw18_ClockTicks.j1, if_neg (by simp)]; rfl)

theorem ClockTicks : dispatcherlaw18_ClockTicks.Pure := by
  intro c a _ _ _ _
  refine Ev.rounds ?_
  by_cases h1 : (c.length : Int) > 80
  · exact Ev.same (f := fun _ => some true) (Ev.now _) (fun k => by rw [dispatcherlaw18_ClockTicks.f, if_pos h1])
  · obtain ⟨n, g, e1, e2, hn⟩ := new_same a
    refine Ev.same (f := fun k => _) ?_ (fun k => by rw [dispatcherlaw18_ClockTicks.f, if_neg h1, e1, Option.bind_some, e2, Option.bind_some, Option.bind_some, if_pos (by simp; omega)])
    refine Ev.bind_of (ref18_tick c a (by omega)) ?_
    refine law_round c a n g (by omega) 0 (by omega) true ?_
    refine law_round c a n g (by omega) (wrap64 (0 + 1)) (by unfold wrap64; omega) true ?_
    refine Ev.round (f := fun k => _) ?_ (fun k => by rw [dispatcherlaw18_ClockTicks.l0, if_neg (by unfold wrap64; omega)])
    refine Ev.bind_of (ref11_ints_same _ (by omega)) ?_
    exact Ev.pos (by rfl) (Ev.const (by simp))

end Go.Proofs.Ytdcmdmlbpcekaaa.Pure
