/-
  THE PLAIN LAW of ClockMerges: whatever two clocks are merged, what comes of it is what the chapter says; they stay.
-/
import Derived.Test.YtdcmdmlbpcekaaaQClockMergesx2
import Derived.Test.YtdcmdmlbpcekaaaHP
namespace Go.Proofs.Ytdcmdmlbpcekaaa.Pure
open Go.RowKit Go.Proofs.Ytdcmdmlbpcekaaa.QClockMerges Go.Proofs.YtdcmdmlbpcekaaaW.PrintWords Go.Proofs.YtdcmdmlbpcekaaaW.PrintLast Go.Proofs.Ytdcmdmlbpcekaaa.HP

theorem ref11_ints_l0 (a b : List Int) (hl : a.length = b.length) (hm : a.length < 9223372036854775807) (d : Nat) : ∀ i : Nat, i ≤ a.length → a.length - i = d →
    Ev (fun k => dispatcherref11_Ints.l0 k a b i) (decide (a.drop i = b.drop i)) := by
  induction d with
  | zero =>
    intro i hi hd
    refine Ev.round (f := fun _ => some _) (Ev.now _) (fun k => ?_)
    rw [dispatcherref11_Ints.l0, if_neg (by omega)]
    simp [List.drop_of_length_le, show a.length ≤ i by omega, show b.length ≤ i by omega]
  | succ d ih =>
    intro i hi hd
    have h1 : i < a.length := by omega
    have h2 : i < b.length := by omega
    by_cases he : a[i] = b[i]
    · refine Ev.eq (Ev.round (ih (i + 1) (by omega) (by omega)) (fun k => ?_)) ?_
      · rw [dispatcherref11_Ints.l0, if_pos (by omega), if_pos (by omega), if_pos (by omega), if_pos (by rw [rd_lt h1, rd_lt h2]; exact he), wrap64_nat i (by omega)]
      · rw [drop_cons h1, drop_cons h2, he]; exact dec_cons_eq
    · refine Ev.eq (Ev.round (f := fun _ => some false) (Ev.now _) (fun k => ?_)) ?_
      · rw [dispatcherref11_Ints.l0, if_pos (by omega), if_pos (by omega), if_pos (by omega), if_neg (by rw [rd_lt h1, rd_lt h2]; exact he)]
      · rw [drop_cons h1, drop_cons h2]; exact dec_cons_ne he
theorem ref11_ints (a b : List Int) (hm : a.length < 9223372036854775807) : Ev (fun k => dispatcherref11_Ints.f k a b) (decide (a = b)) := by
  by_cases hl : a.length = b.length
  · refine Ev.eq (Ev.same (ref11_ints_l0 a b hl hm a.length 0 (by omega) (by omega)) (fun k => ?_)) (by simp)
    rw [dispatcherref11_Ints.f, if_pos (by omega)]; rfl
  · refine Ev.eq (Ev.same (f := fun _ => some false) (Ev.now _) (fun k => ?_)) ?_
    · rw [dispatcherref11_Ints.f, if_neg (by omega)]
    · symm; rw [decide_eq_false_iff_not]; intro h; exact hl (by rw [h])

theorem ref11_ints_same (a : List Int) (hm : a.length < 9223372036854775807) : Ev (fun k => dispatcherref11_Ints.f k a a) true := Ev.eq (ref11_ints a a hm) (by simp)

/-- may a clock be? -/
def mayR (l : List Int) : Bool := decide (1 ≤ l.length ∧ l.length ≤ 64) && l.all (fun n => decide (0 ≤ n) && decide (n ≤ 1099511627776))
theorem ref18_may_l0 (a : List Int) (hm : a.length < 9223372036854775807) (d : Nat) : ∀ i : Nat, i ≤ a.length → a.length - i = d →
    Ev (fun k => dispatcherref18_May.l0 k a i) ((a.drop i).all (fun n => decide (0 ≤ n) && decide (n ≤ 1099511627776))) := by
  induction d with
  | zero =>
    intro i hi hd
    refine Ev.round (f := fun _ => some _) (Ev.now _) (fun k => ?_)
    rw [dispatcherref18_May.l0, if_neg (by omega)]
    simp [List.drop_of_length_le, show a.length ≤ i by omega]
  | succ d ih =>
    intro i hi hd
    have h1 : i < a.length := by omega
    by_cases hn : a[i] < 0
    · refine Ev.eq (Ev.round (f := fun _ => some false) (Ev.now _) (fun k => ?_)) ?_
      · rw [dispatcherref18_May.l0, if_pos (by omega), if_pos (by omega), if_pos (by rw [rd_lt h1]; exact hn)]
      · rw [drop_cons h1]; exact all_cons_no (by simp; omega)
    · by_cases hn2 : a[i] > 1099511627776
      · refine Ev.eq (Ev.round (f := fun _ => some false) (Ev.now _) (fun k => ?_)) ?_
        · rw [dispatcherref18_May.l0, if_pos (by omega), if_pos (by omega), if_neg (by rw [rd_lt h1]; exact hn), if_pos (by rw [rd_lt h1]; exact hn2)]
        · rw [drop_cons h1]; exact all_cons_no (by simp; omega)
      · refine Ev.eq (Ev.round (ih (i + 1) (by omega) (by omega)) (fun k => ?_)) ?_
        · rw [dispatcherref18_May.l0, if_pos (by omega), if_pos (by omega), if_neg (by rw [rd_lt h1]; exact hn), if_neg (by rw [rd_lt h1]; exact hn2), wrap64_nat i (by omega)]
        · rw [drop_cons h1]; exact all_cons_yes (by simp; omega)
theorem ref18_may (a : List Int) (hm : a.length < 9223372036854775807) : Ev (fun k => dispatcherref18_May.f k a) (mayR a) := by
  by_cases h1 : a.length < 1
  · refine Ev.eq (Ev.round (f := fun _ => some false) (Ev.now _) (fun k => ?_)) ?_
    · rw [dispatcherref18_May.f, if_pos (by omega), dispatcherref18_May.j0, if_pos rfl]
    · simp [mayR, show ¬ (1 ≤ a.length) by omega]
  · by_cases h2 : a.length > 64
    · refine Ev.eq (Ev.round (f := fun _ => some false) (Ev.now _) (fun k => ?_)) ?_
      · rw [dispatcherref18_May.f, if_neg (by omega), dispatcherref18_May.j0, if_pos (by simp; omega)]
      · simp [mayR, show ¬ (a.length ≤ 64) by omega]
    · refine Ev.eq (Ev.round (ref18_may_l0 a hm a.length 0 (by omega) (by omega)) (fun k => ?_)) ?_
      · rw [dispatcherref18_May.f, if_neg (by omega), dispatcherref18_May.j0, if_neg (by simp; omega)]; rfl
      · simp [mayR, show 1 ≤ a.length by omega, show a.length ≤ 64 by omega]

theorem ref18_merge_l0 (a b : List Int) (hl : a.length = b.length) (hm : a.length ≤ 64) (d : Nat) : ∀ i : Nat, i ≤ a.length → a.length - i = d →
    Ev (fun k => dispatcherref18_Merge.l0 k a b (HD.merged ((a.zip b).take i)) i) (HD.merged (a.zip b), 0) := by
  induction d with
  | zero =>
    intro i hi hd
    refine Ev.round (f := fun _ => some _) (Ev.now _) (fun k => ?_)
    rw [dispatcherref18_Merge.l0, if_neg (by omega), List.take_of_length_le (by simp; omega)]
  | succ d ih =>
    intro i hi hd
    have h1 : i < a.length := by omega
    have h2 : i < b.length := by omega
    have hml : (HD.merged ((a.zip b).take i)).length < 17592186044416 := by simp [HD.merged]; omega
    have hs : HD.merged ((a.zip b).take (i + 1)) = HD.merged ((a.zip b).take i) ++ [max a[i] b[i]] := by
      rw [List.take_succ_eq_append_getElem (by simp; omega), HD.merged_snoc]; simp only [List.getElem_zip]
    have hih := ih (i + 1) (by omega) (by omega)
    rw [hs] at hih
    refine Ev.round hih (fun k => ?_)
    by_cases hgt : a[i] > b[i]
    · rw [dispatcherref18_Merge.l0, if_pos (by omega), if_pos (by omega), if_pos (by omega), if_pos (by rw [rd_lt h1, rd_lt h2]; exact hgt), if_pos hml, wrap64_nat i (by omega), rd_lt h1, show max a[i] b[i] = a[i] by omega]
    · rw [dispatcherref18_Merge.l0, if_pos (by omega), if_pos (by omega), if_pos (by omega), if_neg (by rw [rd_lt h1, rd_lt h2]; exact hgt), if_pos hml, wrap64_nat i (by omega), rd_lt h2, show max a[i] b[i] = b[i] by omega]

theorem odd_iff (n : Int) : HD.odd n = !(decide (0 ≤ n) && decide (n ≤ 1099511627776)) := by
  unfold HD.odd; rw [Bool.eq_iff_iff]; simp [Int.not_le]; try omega
theorem mayB_eq (l : List Int) : HD.mayB l = mayR l := by
  unfold HD.mayB mayR
  congr 1
  induction l with
  | nil => rfl
  | cons x t ih => rw [List.any_cons, List.all_cons, odd_iff, Bool.not_or, ih, Bool.not_not]

theorem fitB_eq (c d : List Int) : HD.fitB c d = (mayR c && mayR d && decide (c.length = d.length)) := by unfold HD.fitB; rw [mayB_eq, mayB_eq]
/-- what the document tells -/
def mergeR (c d : List Int) : List Int × Int := if HD.fitB c d = true then (HD.merged (c.zip d), 0) else ([], 2)
theorem ref18_merge (a b : List Int) (ha : a.length ≤ 80) (hb : b.length ≤ 80) : Ev (fun k => dispatcherref18_Merge.f k a b) (mergeR a b) := by
  unfold mergeR
  rw [fitB_eq]
  simp only [dispatcherref18_Merge.f]
  refine Ev.bind_of (ref18_may a (by omega)) ?_
  cases h1 : mayR a with
  | false =>
    refine Ev.neg (by simp) (Ev.round (f := fun _ => some _) (Ev.now _) (fun k => ?_))
    rw [dispatcherref18_Merge.j0, if_pos rfl]
    simp
  | true =>
    refine Ev.pos (by rfl) (Ev.bind_of (ref18_may b (by omega)) ?_)
    cases h2 : mayR b with
    | false =>
      refine Ev.neg (by simp) (Ev.round (f := fun _ => some _) (Ev.now _) (fun k => ?_))
      rw [dispatcherref18_Merge.j0, if_pos rfl]
      simp
    | true =>
      refine Ev.pos (by rfl) ?_
      by_cases hl : a.length = b.length
      · have hle : a.length ≤ 64 := by unfold mayR at h1; simp at h1; omega
        refine Ev.eq (Ev.round (ref18_merge_l0 a b hl hle a.length 0 (by omega) (by omega)) (fun k => ?_)) ?_
        · rw [dispatcherref18_Merge.j0, if_neg (by simp [hl])]; rfl
        · simp [hl]
      · refine Ev.eq (Ev.round (f := fun _ => some ([], 2)) (Ev.now _) (fun k => ?_)) ?_
        · rw [dispatcherref18_Merge.j0, if_pos (by rw [bne_iff_ne]; omega)]
        · simp [hl]

theorem law_l1 (x0 x1 x5 x6 x7 : List Int) (x8 x9 : Int) (r : Bool) (h : Ev (fun k => dispatcherlaw18_ClockMerges.l0 k x0 x1 x5 x6 x7 x8 (wrap64 (x9 + 1))) r) (d : Nat) : ∀ (x10 : List Int) (i : Nat), x10.length ≤ 1000 → i ≤ x10.length → x10.length - i = d →
    Ev (fun k => dispatcherlaw18_ClockMerges.l1 k x0 x1 x5 x6 x7 x8 x9 x10 i) r := by
  induction d with
  | zero =>
    intro x10 i hm hi hd
    refine Ev.round h (fun k => ?_)
    rw [dispatcherlaw18_ClockMerges.l1, if_neg (by omega)]
  | succ d ih =>
    intro x10 i hm hi hd
    refine Ev.round (ih (x10.set i (-9)) (i + 1) (by simpa using hm) (by simp; omega) (by simp; omega)) (fun k => ?_)
    rw [dispatcherlaw18_ClockMerges.l1, if_pos (by omega), if_pos (by omega), wrap64_nat i (by omega), Int.toNat_natCast]

theorem merge_len (a b : List Int) (ha : a.length ≤ 80) : (mergeR a b).1.length ≤ 1000 := by
  unfold mergeR
  split
  · simp [HD.merged]; omega
  · simp
theorem hand_merge (a b : List Int) : HD.clock_Clock_Merge.f a b = some (mergeR a b) := rfl

theorem law_round (a b : List Int) (ha : a.length ≤ 80) (hb : b.length ≤ 80) (t : Int) (ht : t < 2) (r : Bool) (h : Ev (fun k => dispatcherlaw18_ClockMerges.l0 k a b a b (mergeR a b).1 (mergeR a b).2 (wrap64 (t + 1))) r) :
    Ev (fun k => dispatcherlaw18_ClockMerges.l0 k a b a b (mergeR a b).1 (mergeR a b).2 t) r := by
  have hml := merge_len a b ha
  refine Ev.round (f := fun k => _) ?_ (fun k => by rw [dispatcherlaw18_ClockMerges.l0, if_pos ht, hand_merge])
  refine Ev.some_bind ?_
  refine Ev.bind_of (ref11_ints_same _ (by omega)) ?_
  refine Ev.pos (by rfl) ?_
  refine Ev.pos (by rfl) ?_
  refine Ev.bind_of (ref11_ints_same _ (by omega)) ?_
  refine Ev.pos (by rfl) ?_
  refine Ev.bind_of (ref11_ints_same _ (by omega)) ?_
  exact Ev.round (law_l1 a b a b _ _ t r h (mergeR a b).1.length (mergeR a b).1 0 hml (by omega) (by omega)) (fun k => by rw [dispatcherlaw18_ClockMerges.j2, if_neg (by simp)]; rfl)

theorem ClockMerges : dispatcherlaw18_ClockMerges.Pure := by
  intro a b _ _ _ _ _ _
  refine Ev.rounds ?_
  by_cases h1 : (a.length : Int) > 80
  · exact Ev.round (f := fun _ => some true) (Ev.now _) (fun k => by rw [dispatcherlaw18_ClockMerges.f, if_pos h1, dispatcherlaw18_ClockMerges.j0, if_pos rfl])
  · by_cases h2 : (b.length : Int) > 80
    · exact Ev.round (f := fun _ => some true) (Ev.now _) (fun k => by rw [dispatcherlaw18_ClockMerges.f, if_neg h1, dispatcherlaw18_ClockMerges.j0, if_pos (by simpa using h2)])
    · refine Ev.round (f := fun k => _) ?_ (fun k => by rw [dispatcherlaw18_ClockMerges.f, if_neg h1, dispatcherlaw18_ClockMerges.j0, if_neg (by simpa using h2)])
      refine Ev.some_bind (Ev.pos (by simp; omega) (Ev.some_bind (Ev.pos (by simp; omega) ?_)))
      refine Ev.bind_of (ref18_merge a b (by omega) (by omega)) ?_
      refine law_round a b (by omega) (by omega) 0 (by omega) true ?_
      refine law_round a b (by omega) (by omega) (wrap64 (0 + 1)) (by unfold wrap64; omega) true ?_
      exact Ev.round (f := fun _ => some true) (Ev.now _) (fun k => by rw [dispatcherlaw18_ClockMerges.l0, if_neg (by unfold wrap64; omega)])

end Go.Proofs.Ytdcmdmlbpcekaaa.Pure
