/-
  CONTRACTS BY HAND (sign, 6): the document's Agree, Within (dispatcherref23), over its printed At and May: what is answered; nothing that was there is changed.
-/
import Derived.Test.YtpkcnifchggbnaaSgL
import Derived.Test.YtpkcnifchggbnaaQrbasex1
import Derived.Test.YtpkcnifchggbnaaQrbasex2
namespace Go.Proofs.Ytpkcnifchggbnaa.HD
open Go.RowKit Go.Proofs.Ytpkcnifchggbnaa.HK Go.Proofs.Ytpkcnifchggbnaa.HP Go.Proofs.Ytpkcnifchggbnaa.Qrbase Go.Proofs.YtpkcnifchggbnaaW.PrintWords Go.Proofs.YtpkcnifchggbnaaW.PrintLast Go.Proofs.YtpkcnifchggbnaaW.PrintMore
set_option linter.unusedVariables false
set_option linter.unusedSimpArgs false

theorem ref_one (x : Ch) : dispatcherref23_one.f x.f0 x.f1 x.f2 x.f3 x.f4 = some (oneB x) := by
  unfold dispatcherref23_one.f oneB
  by_cases h : 0 ≤ x.f0 ∧ x.f0 ≤ 63 ∧ 0 ≤ x.f2 ∧ x.f2 ≤ 63 ∧ 0 ≤ x.f1 ∧ x.f1 ≤ 1099511627776 ∧ 0 ≤ x.f3 ∧ x.f3 ≤ 1099511627776 ∧ -1 ≤ x.f4 ∧ x.f4 ≤ 7
  · rw [decide_eq_true h, if_pos (by omega), if_pos (by omega), if_pos (by omega), if_pos (by omega), if_pos (by omega), if_pos (by omega), if_pos (by omega), if_pos (by omega), if_pos (by omega), decide_eq_true (by omega)]
  · rw [decide_eq_false h]
    repeat (split; rotate_left; rfl)
    congr 1
    rw [decide_eq_false_iff_not]
    omega
theorem ref_less (x y : Ch) : dispatcherref23_less.f x.f0 x.f1 x.f2 x.f3 x.f4 y.f0 y.f1 y.f2 y.f3 y.f4 = some (decide (Less x y)) := by
  unfold dispatcherref23_less.f
  split
  · rw [decide_eq_true (by unfold Less; omega)]
  · split
    · congr 1
      rw [decide_eq_decide]
      unfold Less
      omega
    · rw [decide_eq_false (by unfold Less; omega)]
theorem ref_may_loop (l : List Ch) (hl : l.length ≤ maxLen) : ∀ n i, n = l.length - i → i ≤ l.length → Ev (fun k => dispatcherref23_May.l0 k l (i : Int)) (mayR (if i = 0 then none else some (rd_T24 l ((i - 1 : Nat) : Int))) (l.drop i)) := by
  have hM : maxLen = 9223372036854775807 := rfl
  intro n
  induction n with
  | zero =>
    intro i hn hi
    refine Ev.round ?_ (fun k => by simp only [dispatcherref23_May.l0]; rfl)
    refine Ev.neg (by omega) ?_
    refine Ev.const ?_
    rw [List.drop_eq_nil_of_le (by omega)]
    cases (if i = 0 then none else some (rd_T24 l ((i - 1 : Nat) : Int))) <;> rfl
  | succ n ih =>
    intro i hn hi
    have hlt : i < l.length := by omega
    have ih := ih (i + 1) (by omega) (by omega)
    rw [if_neg (by omega), Nat.add_sub_cancel] at ih
    refine Ev.round ?_ (fun k => by simp only [dispatcherref23_May.l0]; rfl)
    refine Ev.pos (by omega) ?_
    refine Ev.pos (by omega) ?_
    refine Ev.plain_bind (ref_one _) ?_
    rw [drop_cons hlt]
    rw [rd_ch hlt] at ih ⊢
    refine Ev.ite (fun h1 => ?_) (fun h1 => ?_)
    · refine Ev.ite (fun h => ?_) (fun h => ?_)
      · have e : wrap64 ((i : Int) - 1) = ((i - 1 : Nat) : Int) := by rw [wrap64_of (by omega) (by omega)]; omega
        rw [e]
        refine Ev.pos (by omega) ?_
        refine Ev.pos (by omega) ?_
        refine Ev.plain_bind (ref_less _ _) ?_
        rw [if_neg (by omega)]
        refine Ev.ite (fun h2 => ?_) (fun h2 => Ev.const ?_)
        · rw [wrap64_nat i (by omega)]
          rw [decide_eq_true_eq, ← pts_lt] at h2
          simp only [mayR, h1, decide_eq_true h2, Bool.and_self, Bool.true_and]
          exact ih
        · rw [decide_eq_true_eq, ← pts_lt] at h2
          simp only [mayR, decide_eq_false h2, Bool.and_false, Bool.false_and]
      · rw [if_pos (by omega), wrap64_nat i (by omega)]
        simp only [mayR, h1, Bool.and_self, Bool.true_and]
        exact ih
    · refine Ev.const ?_
      have h1 : oneB l[i] = false := by simpa using h1
      simp only [mayR, h1, Bool.false_and]
theorem ref_may (l : List Ch) (hl : l.length ≤ maxLen) : Ev (fun k => dispatcherref23_May.f k l) (mayL l) := by
  have := ref_may_loop l hl l.length 0 (by omega) (by omega)
  simpa [dispatcherref23_May.f, mayL] using this
def tupG (p : Ch × Bool) : Int × Int × Int × Int × Int × Bool := (p.1.f0, p.1.f1, p.1.f2, p.1.f3, p.1.f4, p.2)
theorem ref_at_loop (l : List Ch) (r c : Int) (hl : l.length ≤ maxLen) : ∀ n i, n = l.length - i → i ≤ l.length → Ev (fun k => dispatcherref23_At.l0 k l r c (i : Int)) (tupG (atG (findC (l.drop i) r c))) := by
  have hM : maxLen = 9223372036854775807 := rfl
  intro n
  induction n with
  | zero =>
    intro i hn hi
    refine Ev.round ?_ (fun k => by simp only [dispatcherref23_At.l0]; rfl)
    refine Ev.neg (by omega) ?_
    refine Ev.const ?_
    rw [List.drop_eq_nil_of_le (by omega)]
    rfl
  | succ n ih =>
    intro i hn hi
    have hlt : i < l.length := by omega
    have ih := ih (i + 1) (by omega) (by omega)
    refine Ev.round ?_ (fun k => by simp only [dispatcherref23_At.l0]; rfl)
    refine Ev.pos (by omega) ?_
    refine Ev.pos (by omega) ?_
    rw [drop_cons hlt, rd_ch hlt]
    unfold findC
    rw [List.find?_cons]
    refine Ev.ite (fun h1 => ?_) (fun h1 => ?_)
    · refine Ev.ite (fun h2 => ?_) (fun h2 => ?_)
      · rw [show isAt r c l[i] = true from isAt_iff.2 ⟨h1, h2⟩]
        exact Ev.const rfl
      · rw [show isAt r c l[i] = false by rw [Bool.eq_false_iff]; intro h; exact h2 (isAt_iff.1 h).2, wrap64_nat i (by omega)]
        exact ih
    · rw [show isAt r c l[i] = false by rw [Bool.eq_false_iff]; intro h; exact h1 (isAt_iff.1 h).1, wrap64_nat i (by omega)]
      exact ih
theorem ref_at (l : List Ch) (r c : Int) (hl : l.length ≤ maxLen) : Ev (fun k => dispatcherref23_At.f k l r c) (tupG (atG (findC l r c))) := by
  have := ref_at_loop l r c hl l.length 0 (by omega) (by omega)
  simpa [dispatcherref23_At.f] using this
theorem neq_form (x y : Ch) : (!(x.f0 == y.f0) || (!(x.f1 == y.f1) || (!(x.f2 == y.f2) || (!(x.f3 == y.f3) || !(x.f4 == y.f4))))) = !eqC x y := by
  unfold eqC
  simp only [Bool.not_and]

theorem at_r (A : Option Addr) (c : Nat) (l : List Ch) (r q : Int) (W : World) (hr : Kd.C k24 W A l.length l) (hc : l.length ≤ c) :
    Calls Try.prog 6 #[.slice A l.length c, .int .i64 r, .int .i64 q] W fun e w' => e = .returned (.tuple #[cv (atG (findC l r q)).1, .bool (atG (findC l r q)).2]) ∧ Below W.heap.size W w' := by
  obtain ⟨K, h⟩ := ref_at l r q (Kd.C_max hr)
  exact Qrbase.dispatcherref23_At.calls K A c l r q _ _ _ _ _ _ W hr hc (h K (Nat.le_refl _))
theorem may_r (A : Option Addr) (c : Nat) (l : List Ch) (W : World) (hr : Kd.C k24 W A l.length l) (hc : l.length ≤ c) : Calls Try.prog 8 #[.slice A l.length c] W fun e w' => e = .returned (.bool (mayL l)) ∧ Below W.heap.size W w' := by
  obtain ⟨K, h⟩ := ref_may l (Kd.C_max hr)
  exact Qrbase.dispatcherref23_May.calls K A c l _ W hr hc (h K (Nat.le_refl _))
theorem keep_alloc {wr w' : World} (hb : Below wr.drew.heap.size wr.drew w') (o : Obj) {p : Addr} {v : Value} (h : wr.cell? p = some v) : (w'.alloc o).cell? p = some v :=
  pw_cell_below (below_alloc (w := wr.drew) hb o) h
theorem keep_call2 {wr w' : World} {o : Obj} (hb : Below (wr.alloc o).drew.heap.size (wr.alloc o).drew w') {p : Addr} {v : Value} (h : wr.cell? p = some v) : w'.cell? p = some v :=
  pw_cell_below hb (show (wr.alloc o).drew.cell? p = some v from pw_cell_below (below_alloc (Below.refl wr.heap.size wr) o) h)
theorem keep_blk {wr w' : World} {o : Obj} (hb : Below (wr.alloc o).drew.heap.size (wr.alloc o).drew w') : w'.heap[wr.heap.size]? = some o :=
  blk_below (w := (wr.alloc o).drew) (show (wr.alloc o).drew.heap[wr.heap.size]? = some o from blk_new wr o) hb
theorem keep_sets {wr w' : World} {o : Obj} (hb : Below (wr.alloc o).drew.heap.size (wr.alloc o).drew w') (v0 v1 v2 v3 v4 : Value) {p : Addr} {v : Value} (h : wr.cell? p = some v) :
    (((((w'.setCell ⟨wr.heap.size, 0, none⟩ v0).setCell ⟨wr.heap.size, 1, none⟩ v1).setCell ⟨wr.heap.size, 2, none⟩ v2).setCell ⟨wr.heap.size, 3, none⟩ v3).setCell ⟨wr.heap.size, 4, none⟩ v4).cell? p = some v :=
  pw_cell_below (below5 (below_then (w1 := (wr.alloc o).drew) (below_alloc (Below.refl wr.heap.size wr) o).drew (by simp) hb) (Nat.le_refl _) v0 v1 v2 v3 v4) h
attribute [local go_sem high] Qsbase.eqA24
set_option maxHeartbeats 4000000 in
theorem agree_r (A0 : Option Addr) (c0 : Nat) (a : List Ch) (A1 : Option Addr) (c1 : Nat) (b : List Ch) (w : World) (hr0 : Kd.C k24 w A0 a.length a) (hc0 : a.length ≤ c0) (hr1 : Kd.C k24 w A1 b.length b) (hc1 : b.length ≤ c1) :
    Calls Try.prog 10 #[.slice A0 a.length c0, .slice A1 b.length c1] w fun e w' => e = .returned (.bool (agreeB a b)) ∧ Below w.heap.size w w' := by
  have HR0 := Aside0.mk hr0
  have HR1 := Aside0.mk hr1
  have hm0 := Kd.C_max hr0
  have hm1 := Kd.C_max hr1
  have hu := Try.underlying24
  clear hr0 hr1
  go_enter Try.func10, Try.ntmps10
  go_wp2
  go_loopw [5] (fun v5 wr => ∃ i : Nat, i ≤ a.length ∧ v5 = .int .i64 i ∧ Aside0 (a.all (agP b) = (a.drop i).all (agP b)) ∧ Aside0 (Below w.heap.size w wr)) (fun v5 _ => a.length - (intOf v5).toNat)
  case atStart => exact ⟨0, by omega, rfl, ⟨rfl⟩, ⟨Below.refl _ _⟩⟩
  case round =>
    obtain ⟨i, hi, rfl, HE, HB⟩ := hrel
    by_cases ha : i < a.length
    · obtain ⟨ad, rfl, h0, h1, h2, h3, h4⟩ := at_T24 (Kd.C_below HR0.out HB.out) i (by omega) (by omega)
      rw [Int.toNat_natCast] at h0 h1 h2 h3 h4
      have HS : Aside0 (a.all (agP b) = (agP b (rd_T24 a (i : Int)) && (a.drop (i + 1)).all (agP b))) := ⟨by rw [HE.out, drop_cons ha, List.all_cons, rd_ch ha]⟩
      generalize rd_T24 a (i : Int) = x at HS h0 h1 h2 h3 h4
      have HRB := Aside0.mk (Kd.C_below HR1.out HB.out)
      go_wp2_with fail
      have HRB2 := Aside0.mk (Kd.C_below HRB.out (below_drew1 (below_alloc (Below.refl wr.heap.size wr) (.cells #[.int .i64 0, .int .i64 0, .int .i64 0, .int .i64 0, .int .i64 0] 24))))
      go_region_held3 (fun W => W.cell? (ad.add (i * 5)) = some (.int .i64 x.f0) ∧ W.cell? ⟨(ad.add (i * 5)).block, (ad.add (i * 5)).off + 1, none⟩ = some (.int .i64 x.f1))
        (first | go_keep | (refine ⟨?_, ?_⟩ <;> with_reducible exact keep_call hb (by assumption)) | (refine ⟨?_, ?_⟩ <;> with_reducible exact keep_alloc hb _ (by assumption)) | (refine ⟨?_, ?_⟩ <;> with_reducible exact keep_call2 hb (by assumption)) | (refine ⟨?_, ?_⟩ <;> with_reducible exact keep_sets hb _ _ _ _ _ (by assumption)))
        (first | (go_at_call 6; refine (at_r A1 c1 b x.f0 x.f1 wr.drew HRB.out hc1).mono ?_; rintro e w' ⟨rfl, hb⟩) | (go_at_call 6; refine (at_r A1 c1 b x.f0 x.f1 _ HRB2.out hc1).mono ?_; rintro e w' ⟨rfl, hb⟩; have z := keep_blk hb; have z0 := (blk_cell z 0).trans rfl; have z1 := (blk_cell z 1).trans rfl; have z2 := (blk_cell z 2).trans rfl; have z3 := (blk_cell z 3).trans rfl; have z4 := (blk_cell z 4).trans rfl; have y0 := blk_frozen z 0; have y1 := blk_frozen z 1; have y2 := blk_frozen z 2; have y3 := blk_frozen z 3; have y4 := blk_frozen z 4))
      · have hb3 : Below wr.heap.size wr (w'.alloc (cc (atG (findC b x.f0 x.f1)).1)) := below_alloc (below_then (below_drew1 (Below.refl wr.heap.size wr)) (Nat.le_refl _) hb) _
        have Z := blk_new w' (cc (atG (findC b x.f0 x.f1)).1)
        clear HRB HRB2 hb
        generalize w'.alloc (cc (atG (findC b x.f0 x.f1)).1) = W3 at Z hb3 ⊢
        generalize w'.heap.size = g at Z ⊢
        have HB3 := Aside0.mk (below_then HB.out HB.out.size hb3)
        have p0 : ((0 : Int) ≤ (i : Int)) = True := eq_true (by omega)
        have q0 : ((i : Int) < (a.length : Int)) = True := eq_true (by omega)
        have hz := Int.toNat_natCast i
        have g0 := pw_cell_below hb3 h0
        have g1 := pw_cell_below hb3 h1
        have g2 := pw_cell_below hb3 h2
        have g3 := pw_cell_below hb3 h3
        have g4 := pw_cell_below hb3 h4
        clear hb3 h0 h1 h2 h3 h4 HB HE
        cases hf : findC b x.f0 x.f1 with
        | none =>
          rw [hf] at Z
          obtain ⟨c0', c1', c2', c3', c4'⟩ := cells_c Z
          have HT : Aside0 (a.all (agP b) = (a.drop (i + 1)).all (agP b)) := ⟨by rw [HS.out, agP_none hf, Bool.true_and]⟩
          have e7 : (atG (none : Option Ch)).2 = false := rfl
          rw [e7]
          go_wp2_with fail
          go_quiet (fail)
          go_wp2
          go_roundw
          case rel => exact ⟨i + 1, by omega, by go_num, HT, ⟨pw_below_drewN HB3.out _⟩⟩
          case measure => simp [intOf]; omega
        | some y =>
          rw [hf] at Z
          obtain ⟨c0', c1', c2', c3', c4'⟩ := cells_c Z
          have e7 : (atG (some y)).2 = true := rfl
          have e6 : (atG (some y)).1 = y := rfl
          rw [e6] at c0' c1' c2' c3' c4'
          rw [e7, e6]
          have nf := neq_form y x
          by_cases he : eqC y x = true
          · have HT : Aside0 (a.all (agP b) = (a.drop (i + 1)).all (agP b)) := ⟨by rw [HS.out, agP_some hf, he, Bool.true_and]⟩
            rw [he, Bool.not_true] at nf
            go_wp2_with fail
            go_quiet (fail)
            go_wp2
            go_roundw
            case rel => exact ⟨i + 1, by omega, by go_num, HT, ⟨pw_below_drewN HB3.out _⟩⟩
            case measure => simp [intOf]; omega
          · have he : eqC y x = false := by simpa using he
            have HT : Aside0 (agreeB a b = false) := ⟨by rw [agree_eq, HS.out, agP_some hf, he, Bool.false_and, Bool.and_false]⟩
            rw [he, Bool.not_false] at nf
            go_wp2_with fail
            go_quiet (fail)
            go_wp2
            go_ret
            exact ⟨ret_bool HT.out.symm, pw_below_drewN HB3.out _⟩
      · have hb3 := below5 (below_then (w1 := (wr.alloc (.cells #[.int .i64 0, .int .i64 0, .int .i64 0, .int .i64 0, .int .i64 0] 24)).drew) (below_alloc (Below.refl wr.heap.size wr) (.cells #[.int .i64 0, .int .i64 0, .int .i64 0, .int .i64 0, .int .i64 0] 24)).drew (by simp) hb) (Nat.le_refl _) (.int .i64 (atG (findC b x.f0 x.f1)).1.f0) (.int .i64 (atG (findC b x.f0 x.f1)).1.f1) (.int .i64 (atG (findC b x.f0 x.f1)).1.f2) (.int .i64 (atG (findC b x.f0 x.f1)).1.f3) (.int .i64 (atG (findC b x.f0 x.f1)).1.f4)
        have Z := blk5 (v0 := .int .i64 (atG (findC b x.f0 x.f1)).1.f0) (v1 := .int .i64 (atG (findC b x.f0 x.f1)).1.f1) (v2 := .int .i64 (atG (findC b x.f0 x.f1)).1.f2) (v3 := .int .i64 (atG (findC b x.f0 x.f1)).1.f3) (v4 := .int .i64 (atG (findC b x.f0 x.f1)).1.f4) z
        clear HRB HRB2 hb z z0 z1 z2 z3 z4 y0 y1 y2 y3 y4
        generalize ((((w'.setCell ⟨wr.heap.size, 0, none⟩ (.int .i64 (atG (findC b x.f0 x.f1)).1.f0)).setCell ⟨wr.heap.size, 1, none⟩ (.int .i64 (atG (findC b x.f0 x.f1)).1.f1)).setCell ⟨wr.heap.size, 2, none⟩ (.int .i64 (atG (findC b x.f0 x.f1)).1.f2)).setCell ⟨wr.heap.size, 3, none⟩ (.int .i64 (atG (findC b x.f0 x.f1)).1.f3)).setCell ⟨wr.heap.size, 4, none⟩ (.int .i64 (atG (findC b x.f0 x.f1)).1.f4) = W3 at Z hb3 ⊢
        generalize wr.heap.size = g at Z ⊢
        have HB3 := Aside0.mk (below_then HB.out HB.out.size hb3)
        have p0 : ((0 : Int) ≤ (i : Int)) = True := eq_true (by omega)
        have q0 : ((i : Int) < (a.length : Int)) = True := eq_true (by omega)
        have hz := Int.toNat_natCast i
        have g0 := pw_cell_below hb3 h0
        have g1 := pw_cell_below hb3 h1
        have g2 := pw_cell_below hb3 h2
        have g3 := pw_cell_below hb3 h3
        have g4 := pw_cell_below hb3 h4
        clear hb3 h0 h1 h2 h3 h4 HB HE
        cases hf : findC b x.f0 x.f1 with
        | none =>
          rw [hf] at Z
          obtain ⟨c0', c1', c2', c3', c4'⟩ := cells_c Z
          have HT : Aside0 (a.all (agP b) = (a.drop (i + 1)).all (agP b)) := ⟨by rw [HS.out, agP_none hf, Bool.true_and]⟩
          have e7 : (atG (none : Option Ch)).2 = false := rfl
          rw [e7]
          go_wp2_with fail
          go_quiet (fail)
          go_wp2
          go_roundw
          case rel => exact ⟨i + 1, by omega, by go_num, HT, ⟨pw_below_drewN HB3.out _⟩⟩
          case measure => simp [intOf]; omega
        | some y =>
          rw [hf] at Z
          obtain ⟨c0', c1', c2', c3', c4'⟩ := cells_c Z
          have e7 : (atG (some y)).2 = true := rfl
          have e6 : (atG (some y)).1 = y := rfl
          rw [e6] at c0' c1' c2' c3' c4'
          rw [e7, e6]
          have nf := neq_form y x
          by_cases he : eqC y x = true
          · have HT : Aside0 (a.all (agP b) = (a.drop (i + 1)).all (agP b)) := ⟨by rw [HS.out, agP_some hf, he, Bool.true_and]⟩
            rw [he, Bool.not_true] at nf
            go_wp2_with fail
            go_quiet (fail)
            go_wp2
            go_roundw
            case rel => exact ⟨i + 1, by omega, by go_num, HT, ⟨pw_below_drewN HB3.out _⟩⟩
            case measure => simp [intOf]; omega
          · have he : eqC y x = false := by simpa using he
            have HT : Aside0 (agreeB a b = false) := ⟨by rw [agree_eq, HS.out, agP_some hf, he, Bool.false_and, Bool.and_false]⟩
            rw [he, Bool.not_false] at nf
            go_wp2_with fail
            go_quiet (fail)
            go_wp2
            go_ret
            exact ⟨ret_bool HT.out.symm, pw_below_drewN HB3.out _⟩
    · have HE2 : Aside0 (agreeB a b = (mayL a && mayL b)) := ⟨by rw [agree_eq, HE.out, List.drop_eq_nil_of_le (by omega), List.all_nil, Bool.and_true]⟩
      go_wp2_with fail
      refine (may_r A0 c0 a wr (Kd.C_below HR0.out HB.out) hc0).mono ?_
      rintro e w1 ⟨rfl, hb⟩
      have HB1 := Aside0.mk (below_then HB.out HB.out.size hb)
      clear hb
      by_cases hma : mayL a = true
      · go_wp2_with fail
        refine (may_r A1 c1 b w1 (Kd.C_below HR1.out HB1.out) hc1).mono ?_
        rintro e w2 ⟨rfl, hb⟩
        have HB2 := Aside0.mk (below_then HB1.out HB1.out.size hb)
        clear hb
        go_wp2
        go_ret
        exact ⟨ret_bool (by rw [HE2.out, hma, Bool.true_and]), HB2.out⟩
      · have hma : mayL a = false := by simpa using hma
        go_wp2
        go_ret
        exact ⟨ret_bool (by rw [HE2.out, hma, Bool.false_and]), HB1.out⟩
set_option maxHeartbeats 4000000 in
theorem within_r (A0 : Option Addr) (c0 : Nat) (a : List Ch) (A1 : Option Addr) (c1 : Nat) (b : List Ch) (w : World) (hr0 : Kd.C k24 w A0 a.length a) (hc0 : a.length ≤ c0) (hr1 : Kd.C k24 w A1 b.length b) (hc1 : b.length ≤ c1) :
    Calls Try.prog 12 #[.slice A0 a.length c0, .slice A1 b.length c1] w fun e w' => e = .returned (.bool (withinB a b)) ∧ Below w.heap.size w w' := by
  have HR0 := Aside0.mk hr0
  have HR1 := Aside0.mk hr1
  have hm0 := Kd.C_max hr0
  have hm1 := Kd.C_max hr1
  have hu := Try.underlying24
  clear hr0 hr1
  go_enter Try.func12, Try.ntmps12
  go_wp2
  go_loopw [5] (fun v5 wr => ∃ i : Nat, i ≤ a.length ∧ v5 = .int .i64 i ∧ Aside0 (a.all (wiP b) = (a.drop i).all (wiP b)) ∧ Aside0 (Below w.heap.size w wr)) (fun v5 _ => a.length - (intOf v5).toNat)
  case atStart => exact ⟨0, by omega, rfl, ⟨rfl⟩, ⟨Below.refl _ _⟩⟩
  case round =>
    obtain ⟨i, hi, rfl, HE, HB⟩ := hrel
    by_cases ha : i < a.length
    · obtain ⟨ad, rfl, h0, h1, h2, h3, h4⟩ := at_T24 (Kd.C_below HR0.out HB.out) i (by omega) (by omega)
      rw [Int.toNat_natCast] at h0 h1 h2 h3 h4
      have HS : Aside0 (a.all (wiP b) = (wiP b (rd_T24 a (i : Int)) && (a.drop (i + 1)).all (wiP b))) := ⟨by rw [HE.out, drop_cons ha, List.all_cons, rd_ch ha]⟩
      generalize rd_T24 a (i : Int) = x at HS h0 h1 h2 h3 h4
      have HRB := Aside0.mk (Kd.C_below HR1.out HB.out)
      go_wp2_with fail
      have HRB2 := Aside0.mk (Kd.C_below HRB.out (below_drew1 (below_alloc (Below.refl wr.heap.size wr) (.cells #[.int .i64 0, .int .i64 0, .int .i64 0, .int .i64 0, .int .i64 0] 24))))
      go_region_held3 (fun W => W.cell? (ad.add (i * 5)) = some (.int .i64 x.f0) ∧ W.cell? ⟨(ad.add (i * 5)).block, (ad.add (i * 5)).off + 1, none⟩ = some (.int .i64 x.f1))
        (first | go_keep | (refine ⟨?_, ?_⟩ <;> with_reducible exact keep_call hb (by assumption)) | (refine ⟨?_, ?_⟩ <;> with_reducible exact keep_alloc hb _ (by assumption)) | (refine ⟨?_, ?_⟩ <;> with_reducible exact keep_call2 hb (by assumption)) | (refine ⟨?_, ?_⟩ <;> with_reducible exact keep_sets hb _ _ _ _ _ (by assumption)))
        (first | (go_at_call 6; refine (at_r A1 c1 b x.f0 x.f1 wr.drew HRB.out hc1).mono ?_; rintro e w' ⟨rfl, hb⟩) | (go_at_call 6; refine (at_r A1 c1 b x.f0 x.f1 _ HRB2.out hc1).mono ?_; rintro e w' ⟨rfl, hb⟩; have z := keep_blk hb; have z0 := (blk_cell z 0).trans rfl; have z1 := (blk_cell z 1).trans rfl; have z2 := (blk_cell z 2).trans rfl; have z3 := (blk_cell z 3).trans rfl; have z4 := (blk_cell z 4).trans rfl; have y0 := blk_frozen z 0; have y1 := blk_frozen z 1; have y2 := blk_frozen z 2; have y3 := blk_frozen z 3; have y4 := blk_frozen z 4))
      · have hb3 : Below wr.heap.size wr (w'.alloc (cc (atG (findC b x.f0 x.f1)).1)) := below_alloc (below_then (below_drew1 (Below.refl wr.heap.size wr)) (Nat.le_refl _) hb) _
        have Z := blk_new w' (cc (atG (findC b x.f0 x.f1)).1)
        clear HRB HRB2 hb
        generalize w'.alloc (cc (atG (findC b x.f0 x.f1)).1) = W3 at Z hb3 ⊢
        generalize w'.heap.size = g at Z ⊢
        have HB3 := Aside0.mk (below_then HB.out HB.out.size hb3)
        have p0 : ((0 : Int) ≤ (i : Int)) = True := eq_true (by omega)
        have q0 : ((i : Int) < (a.length : Int)) = True := eq_true (by omega)
        have hz := Int.toNat_natCast i
        have g0 := pw_cell_below hb3 h0
        have g1 := pw_cell_below hb3 h1
        have g2 := pw_cell_below hb3 h2
        have g3 := pw_cell_below hb3 h3
        have g4 := pw_cell_below hb3 h4
        clear hb3 h0 h1 h2 h3 h4 HB HE
        cases hf : findC b x.f0 x.f1 with
        | none =>
          rw [hf] at Z
          obtain ⟨c0', c1', c2', c3', c4'⟩ := cells_c Z
          have HT : Aside0 (withinB a b = false) := ⟨by rw [within_eq, HS.out, wiP_none hf, Bool.false_and, Bool.and_false]⟩
          have e7 : (atG (none : Option Ch)).2 = false := rfl
          rw [e7]
          go_wp2_with fail
          go_quiet (fail)
          go_wp2
          go_ret
          exact ⟨ret_bool HT.out.symm, pw_below_drewN HB3.out _⟩
        | some y =>
          rw [hf] at Z
          obtain ⟨c0', c1', c2', c3', c4'⟩ := cells_c Z
          have e7 : (atG (some y)).2 = true := rfl
          have e6 : (atG (some y)).1 = y := rfl
          rw [e6] at c0' c1' c2' c3' c4'
          rw [e7, e6]
          have nf := neq_form y x
          by_cases he : eqC y x = true
          · have HT : Aside0 (a.all (wiP b) = (a.drop (i + 1)).all (wiP b)) := ⟨by rw [HS.out, wiP_some hf, he, Bool.true_and]⟩
            rw [he, Bool.not_true] at nf
            go_wp2_with fail
            go_quiet (fail)
            go_wp2
            go_roundw
            case rel => exact ⟨i + 1, by omega, by go_num, HT, ⟨pw_below_drewN HB3.out _⟩⟩
            case measure => simp [intOf]; omega
          · have he : eqC y x = false := by simpa using he
            have HT : Aside0 (withinB a b = false) := ⟨by rw [within_eq, HS.out, wiP_some hf, he, Bool.false_and, Bool.and_false]⟩
            rw [he, Bool.not_false] at nf
            go_wp2_with fail
            go_quiet (fail)
            go_wp2
            go_ret
            exact ⟨ret_bool HT.out.symm, pw_below_drewN HB3.out _⟩
      · have hb3 := below5 (below_then (w1 := (wr.alloc (.cells #[.int .i64 0, .int .i64 0, .int .i64 0, .int .i64 0, .int .i64 0] 24)).drew) (below_alloc (Below.refl wr.heap.size wr) (.cells #[.int .i64 0, .int .i64 0, .int .i64 0, .int .i64 0, .int .i64 0] 24)).drew (by simp) hb) (Nat.le_refl _) (.int .i64 (atG (findC b x.f0 x.f1)).1.f0) (.int .i64 (atG (findC b x.f0 x.f1)).1.f1) (.int .i64 (atG (findC b x.f0 x.f1)).1.f2) (.int .i64 (atG (findC b x.f0 x.f1)).1.f3) (.int .i64 (atG (findC b x.f0 x.f1)).1.f4)
        have Z := blk5 (v0 := .int .i64 (atG (findC b x.f0 x.f1)).1.f0) (v1 := .int .i64 (atG (findC b x.f0 x.f1)).1.f1) (v2 := .int .i64 (atG (findC b x.f0 x.f1)).1.f2) (v3 := .int .i64 (atG (findC b x.f0 x.f1)).1.f3) (v4 := .int .i64 (atG (findC b x.f0 x.f1)).1.f4) z
        clear HRB HRB2 hb z z0 z1 z2 z3 z4 y0 y1 y2 y3 y4
        generalize ((((w'.setCell ⟨wr.heap.size, 0, none⟩ (.int .i64 (atG (findC b x.f0 x.f1)).1.f0)).setCell ⟨wr.heap.size, 1, none⟩ (.int .i64 (atG (findC b x.f0 x.f1)).1.f1)).setCell ⟨wr.heap.size, 2, none⟩ (.int .i64 (atG (findC b x.f0 x.f1)).1.f2)).setCell ⟨wr.heap.size, 3, none⟩ (.int .i64 (atG (findC b x.f0 x.f1)).1.f3)).setCell ⟨wr.heap.size, 4, none⟩ (.int .i64 (atG (findC b x.f0 x.f1)).1.f4) = W3 at Z hb3 ⊢
        generalize wr.heap.size = g at Z ⊢
        have HB3 := Aside0.mk (below_then HB.out HB.out.size hb3)
        have p0 : ((0 : Int) ≤ (i : Int)) = True := eq_true (by omega)
        have q0 : ((i : Int) < (a.length : Int)) = True := eq_true (by omega)
        have hz := Int.toNat_natCast i
        have g0 := pw_cell_below hb3 h0
        have g1 := pw_cell_below hb3 h1
        have g2 := pw_cell_below hb3 h2
        have g3 := pw_cell_below hb3 h3
        have g4 := pw_cell_below hb3 h4
        clear hb3 h0 h1 h2 h3 h4 HB HE
        cases hf : findC b x.f0 x.f1 with
        | none =>
          rw [hf] at Z
          obtain ⟨c0', c1', c2', c3', c4'⟩ := cells_c Z
          have HT : Aside0 (withinB a b = false) := ⟨by rw [within_eq, HS.out, wiP_none hf, Bool.false_and, Bool.and_false]⟩
          have e7 : (atG (none : Option Ch)).2 = false := rfl
          rw [e7]
          go_wp2_with fail
          go_quiet (fail)
          go_wp2
          go_ret
          exact ⟨ret_bool HT.out.symm, pw_below_drewN HB3.out _⟩
        | some y =>
          rw [hf] at Z
          obtain ⟨c0', c1', c2', c3', c4'⟩ := cells_c Z
          have e7 : (atG (some y)).2 = true := rfl
          have e6 : (atG (some y)).1 = y := rfl
          rw [e6] at c0' c1' c2' c3' c4'
          rw [e7, e6]
          have nf := neq_form y x
          by_cases he : eqC y x = true
          · have HT : Aside0 (a.all (wiP b) = (a.drop (i + 1)).all (wiP b)) := ⟨by rw [HS.out, wiP_some hf, he, Bool.true_and]⟩
            rw [he, Bool.not_true] at nf
            go_wp2_with fail
            go_quiet (fail)
            go_wp2
            go_roundw
            case rel => exact ⟨i + 1, by omega, by go_num, HT, ⟨pw_below_drewN HB3.out _⟩⟩
            case measure => simp [intOf]; omega
          · have he : eqC y x = false := by simpa using he
            have HT : Aside0 (withinB a b = false) := ⟨by rw [within_eq, HS.out, wiP_some hf, he, Bool.false_and, Bool.and_false]⟩
            rw [he, Bool.not_false] at nf
            go_wp2_with fail
            go_quiet (fail)
            go_wp2
            go_ret
            exact ⟨ret_bool HT.out.symm, pw_below_drewN HB3.out _⟩
    · have HE2 : Aside0 (withinB a b = (mayL a && mayL b)) := ⟨by rw [within_eq, HE.out, List.drop_eq_nil_of_le (by omega), List.all_nil, Bool.and_true]⟩
      go_wp2_with fail
      refine (may_r A0 c0 a wr (Kd.C_below HR0.out HB.out) hc0).mono ?_
      rintro e w1 ⟨rfl, hb⟩
      have HB1 := Aside0.mk (below_then HB.out HB.out.size hb)
      clear hb
      by_cases hma : mayL a = true
      · go_wp2_with fail
        refine (may_r A1 c1 b w1 (Kd.C_below HR1.out HB1.out) hc1).mono ?_
        rintro e w2 ⟨rfl, hb⟩
        have HB2 := Aside0.mk (below_then HB1.out HB1.out.size hb)
        clear hb
        go_wp2
        go_ret
        exact ⟨ret_bool (by rw [HE2.out, hma, Bool.true_and]), HB2.out⟩
      · have hma : mayL a = false := by simpa using hma
        go_wp2
        go_ret
        exact ⟨ret_bool (by rw [HE2.out, hma, Bool.false_and]), HB1.out⟩

def dispatcherref23_Agree.f (l0 l1 : List S24) : Option Bool := some (agreeB l0 l1)
theorem dispatcherref23_Agree.calls (A0 : Option Addr) (c0 : Nat) (l0 : List (S24)) (A1 : Option Addr) (c1 : Nat) (l1 : List (S24)) (r : Bool) (w : World) (hr0 : Kd.C k24 w A0 l0.length l0) (hc0 : l0.length ≤ c0) (hr1 : Kd.C k24 w A1 l1.length l1) (hc1 : l1.length ≤ c1) (h : dispatcherref23_Agree.f l0 l1 = some r) :
    Calls Try.prog 10 #[.slice A0 l0.length c0, .slice A1 l1.length c1] w fun e w' => e = .returned (.bool r) ∧ Below w.heap.size w w' := by
  obtain rfl := Option.some.inj h
  exact agree_r A0 c0 l0 A1 c1 l1 w hr0 hc0 hr1 hc1
def dispatcherref23_Within.f (l0 l1 : List S24) : Option Bool := some (withinB l0 l1)
theorem dispatcherref23_Within.calls (A0 : Option Addr) (c0 : Nat) (l0 : List (S24)) (A1 : Option Addr) (c1 : Nat) (l1 : List (S24)) (r : Bool) (w : World) (hr0 : Kd.C k24 w A0 l0.length l0) (hc0 : l0.length ≤ c0) (hr1 : Kd.C k24 w A1 l1.length l1) (hc1 : l1.length ≤ c1) (h : dispatcherref23_Within.f l0 l1 = some r) :
    Calls Try.prog 12 #[.slice A0 l0.length c0, .slice A1 l1.length c1] w fun e w' => e = .returned (.bool r) ∧ Below w.heap.size w w' := by
  obtain rfl := Option.some.inj h
  exact within_r A0 c0 l0 A1 c1 l1 w hr0 hc0 hr1 hc1
end Go.Proofs.Ytpkcnifchggbnaa.HD
