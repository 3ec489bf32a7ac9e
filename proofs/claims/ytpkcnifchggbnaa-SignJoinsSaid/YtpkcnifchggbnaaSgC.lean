/-
  CONTRACTS BY HAND (sign, 3): Within; place (slices.BinarySearchFunc), Agree; slices.CompareFunc, Ahead: what is answered; nothing that was there is changed.
-/
import Derived.Test.YtpkcnifchggbnaaSgP
namespace Go.Proofs.Ytpkcnifchggbnaa.HD
open Go.RowKit Go.Proofs.Ytpkcnifchggbnaa.HK Go.Proofs.Ytpkcnifchggbnaa.HP Go.Proofs.YtpkcnifchggbnaaW.PrintWords Go.Proofs.YtpkcnifchggbnaaW.PrintLast Go.Proofs.YtpkcnifchggbnaaW.PrintMore
set_option linter.unusedVariables false
set_option linter.unusedSimpArgs false

/-- a choice, as a value -/
abbrev cv (x : Ch) : Value := .agg #[.int .i64 x.f0, .int .i64 x.f1, .int .i64 x.f2, .int .i64 x.f3, .int .i64 x.f4]
/-- a choice's cells -/
abbrev cc (x : Ch) : Obj := .cells #[.int .i64 x.f0, .int .i64 x.f1, .int .i64 x.f2, .int .i64 x.f3, .int .i64 x.f4] 24 (0, 0)
theorem points_c (x y : Ch) (W : World) : Calls Try.prog 23 #[cv x, cv y] W fun e w' => e = .returned (.int .i64 (ptsI x y)) ∧ Below W.heap.size W w' := by
  obtain ⟨K, h⟩ := pts_ev x y
  exact Qsbase.sign_points.calls K _ _ _ _ _ _ _ _ _ _ _ W (h K (Nat.le_refl _))
theorem whole_c (x y : Ch) (W : World) : Calls Try.prog 32 #[cv x, cv y] W fun e w' => e = .returned (.int .i64 (wholeI x y)) ∧ Below W.heap.size W w' := by
  obtain ⟨K, h⟩ := whole_ev x y
  exact Qsbase.sign_whole.calls K _ _ _ _ _ _ _ _ _ _ _ W (h K (Nat.le_refl _))
theorem may_c (A : Option Addr) (c : Nat) (l : List Ch) (W : World) (hr : Kd.C k24 W A l.length l) (hc : l.length ≤ c) : Calls Try.prog 7 #[.slice A l.length c] W fun e w' => e = .returned (.bool (mayL l)) ∧ Below W.heap.size W w' := by
  obtain ⟨K, h⟩ := may_ev l (Kd.C_max hr)
  exact Qsbase.sign_May.calls K A c l _ W hr hc (h K (Nat.le_refl _))
theorem has_c (A : Option Addr) (c : Nat) (l : List Ch) (x : Ch) (W : World) (hr : Kd.C k24 W A l.length l) (hc : l.length ≤ c) : Calls Try.prog 30 #[.slice A l.length c, cv x] W fun e w' => e = .returned (.bool (l.any (eqC x))) ∧ Below W.heap.size W w' := by
  obtain ⟨K, h⟩ := has_ev l x (Kd.C_max hr)
  exact Qsbase.api_Choice_30.calls K A c l _ _ _ _ _ _ W hr hc (h K (Nat.le_refl _))
theorem cells_c {g : Nat} {x : Ch} {w : World} (h : w.heap[g]? = some (cc x)) : w.cell? ⟨g, 0, none⟩ = some (.int .i64 x.f0) ∧ w.cell? ⟨g, 1, none⟩ = some (.int .i64 x.f1) ∧ w.cell? ⟨g, 2, none⟩ = some (.int .i64 x.f2) ∧ w.cell? ⟨g, 3, none⟩ = some (.int .i64 x.f3) ∧ w.cell? ⟨g, 4, none⟩ = some (.int .i64 x.f4) :=
  ⟨(blk_cell h 0).trans rfl, (blk_cell h 1).trans rfl, (blk_cell h 2).trans rfl, (blk_cell h 3).trans rfl, (blk_cell h 4).trans rfl⟩

/-- lacks a row this choice? -/
theorem within1_calls (b0 : Nat) (A : Option Addr) (c : Nat) (l : List Ch) (x : Ch) (W : World) (h0 : W.cell? ⟨b0, 0, none⟩ = some (.slice A l.length c)) (hr : Kd.C k24 W A l.length l) (hc : l.length ≤ c) :
    Calls Try.prog 29 #[cv x, .pointer (some ⟨b0, 0, none⟩)] W fun e w' => e = .returned (.bool (!l.any (eqC x))) ∧ Below W.heap.size W w' := by
  have hb := below_alloc (Below.refl W.heap.size W) (cc x)
  have g0 := pw_cell_below hb h0
  have HB := Aside0.mk hb
  have HR := Aside0.mk (Kd.C_below hr hb)
  clear h0 hr hb
  go_enter Try.func29, Try.ntmps29
  go_wp2_with fail
  refine (has_c A c l x _ HR.out hc).mono ?_
  rintro e w1 ⟨rfl, hb1⟩
  have HB1 := Aside0.mk (below_then HB.out HB.out.size hb1)
  clear hb1
  go_wp2
  go_ret
  exact ⟨rfl, HB1.out⟩

def withinB (a b : List Ch) : Bool := mayL a && mayL b && !a.any (fun x => !b.any (eqC x))
set_option maxHeartbeats 1000000 in
theorem within_calls (A0 : Option Addr) (c0 : Nat) (a : List Ch) (A1 : Option Addr) (c1 : Nat) (b : List Ch) (w : World) (hr0 : Kd.C k24 w A0 a.length a) (hc0 : a.length ≤ c0) (hr1 : Kd.C k24 w A1 b.length b) (hc1 : b.length ≤ c1) :
    Calls Try.prog 11 #[.slice A0 a.length c0, .slice A1 b.length c1] w fun e w' => e = .returned (.bool (withinB a b)) ∧ Below w.heap.size w w' := by
  have HR0 := Aside0.mk hr0
  have HR1 := Aside0.mk hr1
  clear hr0 hr1
  go_enter Try.func11, Try.ntmps11
  go_wp2_with fail
  have b0 := blk_new w (.cells #[.slice A1 b.length c1] 22)
  have hb0 := below_alloc (Below.refl w.heap.size w) (.cells #[.slice A1 b.length c1] 22)
  have R0 := Kd.C_below HR0.out hb0
  have R1 := Kd.C_below HR1.out hb0
  generalize w.alloc (.cells #[.slice A1 b.length c1] 22) = W1 at b0 hb0 R0 R1 ⊢
  refine (may_c A0 c0 a W1 R0 hc0).mono ?_
  rintro e w2 ⟨rfl, hb⟩
  have HB := Aside0.mk (below_then hb0 hb0.size hb)
  have b0 := blk_below b0 hb
  have R0 := Kd.C_below R0 hb
  have R1 := Kd.C_below R1 hb
  have B0 := Aside0.mk b0
  have RA := Aside0.mk R0
  have RB := Aside0.mk R1
  have g0 := (blk_cell b0 0).trans rfl
  clear hb hb0 b0 R0 R1
  by_cases ha : mayL a = true
  · go_wp2_with fail
    refine (may_c A1 c1 b w2 RB.out hc1).mono ?_
    rintro e w3 ⟨rfl, hb⟩
    have HB3 := Aside0.mk (below_then HB.out HB.out.size hb)
    have b0 := blk_below B0.out hb
    have R0 := Kd.C_below RA.out hb
    have R1 := Kd.C_below RB.out hb
    have B03 := Aside0.mk b0
    have RA3 := Aside0.mk R0
    have RB3 := Aside0.mk R1
    clear hb b0 R0 R1 g0
    by_cases hbb : mayL b = true
    · go_wp2_with fail
      refine (contains_Within w.heap.size (fun x => !b.any (eqC x)) w3 (fun x W hW => within1_calls w.heap.size A1 c1 b x W ((blk_cell (blk_below B03.out hW) 0).trans rfl) (Kd.C_below RB3.out hW) hc1) A0 c0 a w3 (Below.refl _ _) RA3.out hc0).mono ?_
      rintro e w4 ⟨rfl, hb⟩
      have HB4 := Aside0.mk (below_then HB3.out HB3.out.size hb)
      clear hb
      go_wp2
      go_ret
      exact ⟨ret_bool (by unfold withinB; rw [ha, hbb]; simp), HB4.out⟩
    · have hbb : mayL b = false := by simpa using hbb
      go_wp2
      go_ret
      exact ⟨ret_bool (by unfold withinB; rw [ha, hbb]; simp), HB3.out⟩
  · have ha : mayL a = false := by simpa using ha
    go_wp2
    go_ret
    exact ⟨ret_bool (by unfold withinB; rw [ha]; simp), HB.out⟩

theorem keep_call {wr w' : World} (hb : Below wr.drew.heap.size wr.drew w') {p : Addr} {v : Value} (h : wr.cell? p = some v) : w'.cell? p = some v := pw_cell_below hb h
/-- where a choice's point stands, or would, between two places -/
def bsW (l : List Ch) (c : Ch) (i j : Nat) : Nat :=
  if h : i < j then (if ptsI (rd_T24 l (((i + j) / 2 : Nat) : Int)) c < 0 then bsW l c ((i + j) / 2 + 1) j else bsW l c i ((i + j) / 2)) else i
termination_by j - i
theorem bsW_go {l : List Ch} {c : Ch} {i j : Nat} (h : i < j) : bsW l c i j = if ptsI (rd_T24 l (((i + j) / 2 : Nat) : Int)) c < 0 then bsW l c ((i + j) / 2 + 1) j else bsW l c i ((i + j) / 2) := by
  rw [bsW, dif_pos h]
theorem bsW_end {l : List Ch} {c : Ch} {i j : Nat} (h : ¬ i < j) : bsW l c i j = i := by
  rw [bsW, dif_neg h]
/-- where a choice's point stands, or would -/
def bsI (l : List Ch) (c : Ch) : Nat := bsW l c 0 l.length
/-- stands it there? -/
def bsHas (l : List Ch) (c : Ch) : Bool := decide (bsI l c < l.length) && decide (ptsI (rd_T24 l (bsI l c : Int)) c = 0)
theorem mid_eq {i j : Nat} (h : i ≤ j) (hj : j ≤ 9223372036854775807) : wrap64 (IntKind.u64.wrap (wrap64 ((i : Int) + (j : Int))) / 2) = (((i + j) / 2 : Nat) : Int) := by
  have e : IntKind.u64.wrap (wrap64 ((i : Int) + (j : Int))) = (i : Int) + j := by
    simp only [IntKind.wrap, wrap64]
    first | omega | (simp [IntKind.bits, IntKind.signed]; omega)
  rw [e, wrap64_of (by omega) (by omega)]
  omega
set_option maxHeartbeats 2000000 in
theorem search_calls (A : Option Addr) (c : Nat) (l : List Ch) (x : Ch) (w : World) (hr : Kd.C k24 w A l.length l) (hc : l.length ≤ c) :
    Calls Try.prog 42 #[.slice A l.length c, cv x, .func (.func 23) #[] #[]] w fun e w' => e = .returned (.tuple #[.int .i64 (bsI l x), .bool (bsHas l x)]) ∧ Below w.heap.size w w' := by
  have HR := Aside0.mk hr
  have hm := Kd.C_max hr
  clear hr
  have b0 := Aside0.mk (blk_new w (cc x))
  have hb0 := Aside0.mk (below_alloc (Below.refl w.heap.size w) (cc x))
  go_enter Try.func42, Try.ntmps42
  go_wp2_with fail
  go_loopw [9, 10] (fun v9 v10 wr => ∃ i j : Nat, i ≤ j ∧ j ≤ l.length ∧ v9 = .int .i64 i ∧ v10 = .int .i64 j ∧ Aside0 (bsI l x = bsW l x i j) ∧ Aside0 (Below w.heap.size w wr) ∧ Aside0 (wr.heap[w.heap.size]? = some (cc x))) (fun v9 v10 _ => (intOf v10).toNat - (intOf v9).toNat)
  case atStart => exact ⟨0, l.length, by omega, by omega, rfl, rfl, ⟨rfl⟩, hb0, b0⟩
  case round =>
    clear b0 hb0
    obtain ⟨i, j, hij, hj, rfl, rfl, HI, HB, HC⟩ := hrel
    by_cases hlt : i < j
    · have HG := Aside0.mk (bsW_go (l := l) (c := x) hlt)
      have hmid : wrap64 (IntKind.u64.wrap (wrap64 ((i : Int) + (j : Int))) / 2) = (((i + j) / 2 : Nat) : Int) := mid_eq hij (Nat.le_trans hj hm)
      go_wp2_with fail
      rw [hmid]
      clear hmid
      obtain ⟨m, hmm⟩ : ∃ m, m = (i + j) / 2 := ⟨_, rfl⟩
      rw [← hmm] at HG ⊢
      have him : i ≤ m := by omega
      have hmj : m < j := by omega
      clear hmm
      obtain ⟨c0, c1, c2, c3, c4⟩ := cells_c HC.out
      obtain ⟨ad, rfl, h0, h1, h2, h3, h4⟩ := at_T24 (Kd.C_below HR.out HB.out) m (by omega) (by omega)
      rw [Int.toNat_natCast] at h0 h1 h2 h3 h4
      go_region_with (go_at_call 23; refine (points_c (rd_T24 l (m : Int)) x wr.drew).mono ?_; rintro e w' ⟨rfl, hb⟩)
      all_goals (
        have hb : Below wr.heap.size wr w' := below_then (below_drew1 (Below.refl wr.heap.size wr)) (Nat.le_refl _) hb
        have HB1 := Aside0.mk (below_then HB.out HB.out.size hb)
        have HC1 := Aside0.mk (blk_below HC.out hb)
        clear hb h0 h1 h2 h3 h4 c0 c1 c2 c3 c4 HB HC
        by_cases hp : ptsI (rd_T24 l (m : Int)) x < 0
        · have hd : decide (ptsI (rd_T24 l (m : Int)) x < 0) = true := by simpa using hp
          go_wp2
          go_roundw
          case rel => exact ⟨m + 1, j, by omega, by omega, by go_num, rfl, ⟨by rw [HI.out, HG.out, if_pos hp]⟩, HB1, HC1⟩
          case measure => simp [intOf]; omega
        · have hd : decide (ptsI (rd_T24 l (m : Int)) x < 0) = false := by simpa using hp
          go_wp2
          go_roundw
          case rel => exact ⟨i, m, by omega, by omega, rfl, by go_num, ⟨by rw [HI.out, HG.out, if_neg hp]⟩, HB1, HC1⟩
          case measure => simp [intOf]; omega)
    · have hij : i = j := by omega
      subst hij
      have HE : Aside0 (bsI l x = i) := ⟨by rw [HI.out, bsW_end hlt]⟩
      clear hlt HI
      by_cases hl : i < l.length
      · obtain ⟨c0, c1, c2, c3, c4⟩ := cells_c HC.out
        obtain ⟨ad, rfl, h0, h1, h2, h3, h4⟩ := at_T24 (Kd.C_below HR.out HB.out) i (by omega) (by omega)
        rw [Int.toNat_natCast] at h0 h1 h2 h3 h4
        have hd : decide ((i : Int) < (l.length : Int)) = true := by simpa using hl
        go_wp2_with fail
        go_region_held3 (fun W => (W.cell? ⟨w.heap.size, 0, none⟩ = some (.int .i64 x.f0) ∧ W.cell? ⟨w.heap.size, 1, none⟩ = some (.int .i64 x.f1) ∧ W.cell? ⟨w.heap.size, 2, none⟩ = some (.int .i64 x.f2) ∧ W.cell? ⟨w.heap.size, 3, none⟩ = some (.int .i64 x.f3) ∧ W.cell? ⟨w.heap.size, 4, none⟩ = some (.int .i64 x.f4))
            ∧ (W.cell? (ad.add (i * 5)) = some (.int .i64 (rd_T24 l (i : Int)).f0) ∧ W.cell? ⟨(ad.add (i * 5)).block, (ad.add (i * 5)).off + 1, none⟩ = some (.int .i64 (rd_T24 l (i : Int)).f1) ∧ W.cell? ⟨(ad.add (i * 5)).block, (ad.add (i * 5)).off + 2, none⟩ = some (.int .i64 (rd_T24 l (i : Int)).f2) ∧ W.cell? ⟨(ad.add (i * 5)).block, (ad.add (i * 5)).off + 3, none⟩ = some (.int .i64 (rd_T24 l (i : Int)).f3) ∧ W.cell? ⟨(ad.add (i * 5)).block, (ad.add (i * 5)).off + 4, none⟩ = some (.int .i64 (rd_T24 l (i : Int)).f4)))
          (first | go_keep | (refine ⟨⟨?_, ?_, ?_, ?_, ?_⟩, ?_, ?_, ?_, ?_, ?_⟩ <;> exact keep_call hb (by assumption)))
          (first | (go_at_call 23; refine (points_c (rd_T24 l (i : Int)) x _).mono ?_; rintro e w' ⟨rfl, hb⟩))
        have hb : Below wr.heap.size wr w' := below_then (below_drew1 (Below.refl wr.heap.size wr)) (Nat.le_refl _) hb
        have HB1 := Aside0.mk (below_then HB.out HB.out.size hb)
        have hh : bsHas l x = (ptsI (rd_T24 l (i : Int)) x == 0) := by unfold bsHas; rw [HE.out, decide_eq_true hl, Bool.true_and]; by_cases h : ptsI (rd_T24 l (i : Int)) x = 0 <;> simp [h]
        go_wp2
        go_ret2
        exact ⟨by rw [HE.out, hh]; rfl, HB1.out⟩
      · have hd : decide ((i : Int) < (l.length : Int)) = false := by simpa using hl
        have hh : bsHas l x = false := by unfold bsHas; rw [HE.out, decide_eq_false hl, Bool.false_and]
        have HH := Aside0.mk hh
        clear hh
        go_wp2_with fail
        go_quiet (fail)
        go_wp2
        go_ret2
        exact ⟨by rw [HE.out, HH.out]; rfl, pw_below_drewN HB.out _⟩

theorem place_calls (A : Option Addr) (c : Nat) (l : List Ch) (x : Ch) (w : World) (hr : Kd.C k24 w A l.length l) (hc : l.length ≤ c) :
    Calls Try.prog 27 #[.slice A l.length c, cv x] w fun e w' => e = .returned (.tuple #[.int .i64 (bsI l x), .bool (bsHas l x)]) ∧ Below w.heap.size w w' := by
  have hb := below_alloc (Below.refl w.heap.size w) (cc x)
  have HB := Aside0.mk hb
  have HR := Aside0.mk (Kd.C_below hr hb)
  clear hr hb
  go_enter Try.func27, Try.ntmps27
  go_wp2_with fail
  refine (search_calls A c l x _ HR.out hc).mono ?_
  rintro e w1 ⟨rfl, hb1⟩
  have HB1 := Aside0.mk (below_then HB.out HB.out.size hb1)
  clear hb1
  go_wp2
  go_ret2
  exact ⟨rfl, HB1.out⟩
/-- stands another choice at this one's point? -/
def otherB (l : List Ch) (x : Ch) : Bool := bsHas l x && !eqC (rd_T24 l (bsI l x : Int)) x
theorem bsHas_lt {l : List Ch} {x : Ch} (h : bsHas l x = true) : bsI l x < l.length := by
  unfold bsHas at h
  simp at h
  exact h.1
attribute [local go_sem high] Qsbase.eqA24
set_option maxHeartbeats 2000000 in
theorem agree1_calls (b0 : Nat) (A : Option Addr) (c : Nat) (l : List Ch) (x : Ch) (W : World) (h0 : W.cell? ⟨b0, 0, none⟩ = some (.slice A l.length c)) (hr : Kd.C k24 W A l.length l) (hc : l.length ≤ c) :
    Calls Try.prog 26 #[cv x, .pointer (some ⟨b0, 0, none⟩)] W fun e w' => e = .returned (.bool (otherB l x)) ∧ Below W.heap.size W w' := by
  have hb := below_alloc (Below.refl W.heap.size W) (cc x)
  have g0 := pw_cell_below hb h0
  have B0 := Aside0.mk (blk_new W (cc x))
  have HB := Aside0.mk hb
  have HR := Aside0.mk (Kd.C_below hr hb)
  clear h0 hr hb
  go_enter Try.func26, Try.ntmps26
  go_wp2_with fail
  refine (place_calls A c l x _ HR.out hc).mono ?_
  rintro e w1 ⟨rfl, hb⟩
  have HB1 := Aside0.mk (below_then HB.out HB.out.size hb)
  have HR1 := Aside0.mk (Kd.C_below HR.out hb)
  have HC := Aside0.mk (blk_below B0.out hb)
  have g1 := pw_cell_below hb g0
  clear hb HR HB B0 g0
  by_cases hh : bsHas l x = true
  · have hlt := bsHas_lt hh
    have HE : Aside0 (otherB l x = !eqC (rd_T24 l (bsI l x : Int)) x) := ⟨by unfold otherB; rw [hh, Bool.true_and]⟩
    have hm := Kd.C_max HR1.out
    generalize bsI l x = i at hlt HE ⊢
    obtain ⟨c0, c1, c2, c3, c4⟩ := cells_c HC.out
    obtain ⟨ad, rfl, h0, h1, h2, h3, h4⟩ := at_T24 HR1.out i (by omega) (by omega)
    rw [Int.toNat_natCast] at h0 h1 h2 h3 h4
    rw [hh]
    have p0 : ((0 : Int) ≤ (i : Int)) = True := eq_true (by omega)
    have q0 : ((i : Int) < (l.length : Int)) = True := eq_true (by omega)
    have hu := Try.underlying24
    have hz := Int.toNat_natCast i
    generalize rd_T24 l (i : Int) = y at HE h0 h1 h2 h3 h4
    by_cases c7 : (!(y.f0 == x.f0) || (!(y.f1 == x.f1) || (!(y.f2 == x.f2) || (!(y.f3 == x.f3) || !(y.f4 == x.f4))))) = true
    · have HQ : Aside0 (otherB l x = true) := ⟨by rw [HE.out, ← c7]; unfold eqC; simp only [Bool.not_and]⟩
      go_wp2_with fail
      go_quiet (fail)
      go_wp2
      go_ret
      exact ⟨ret_bool (by rw [HQ.out]), pw_below_drewN HB1.out _⟩
    · have c7 : (!(y.f0 == x.f0) || (!(y.f1 == x.f1) || (!(y.f2 == x.f2) || (!(y.f3 == x.f3) || !(y.f4 == x.f4))))) = false := by simpa using c7
      have HQ : Aside0 (otherB l x = false) := ⟨by rw [HE.out, ← c7]; unfold eqC; simp only [Bool.not_and]⟩
      go_wp2_with fail
      go_quiet (fail)
      go_wp2
      go_ret
      exact ⟨ret_bool (by rw [HQ.out]), pw_below_drewN HB1.out _⟩
  · have hh : bsHas l x = false := by simpa using hh
    have HE : Aside0 (otherB l x = false) := ⟨by unfold otherB; rw [hh, Bool.false_and]⟩
    rw [hh]
    go_wp2_with fail
    go_quiet (fail)
    go_wp2
    go_ret
    exact ⟨ret_bool (by rw [HE.out]), pw_below_drewN HB1.out _⟩
def agreeB (a b : List Ch) : Bool := mayL a && mayL b && !a.any (otherB b)
set_option maxHeartbeats 1000000 in
theorem agree_calls (A0 : Option Addr) (c0 : Nat) (a : List Ch) (A1 : Option Addr) (c1 : Nat) (b : List Ch) (w : World) (hr0 : Kd.C k24 w A0 a.length a) (hc0 : a.length ≤ c0) (hr1 : Kd.C k24 w A1 b.length b) (hc1 : b.length ≤ c1) :
    Calls Try.prog 9 #[.slice A0 a.length c0, .slice A1 b.length c1] w fun e w' => e = .returned (.bool (agreeB a b)) ∧ Below w.heap.size w w' := by
  have HR0 := Aside0.mk hr0
  have HR1 := Aside0.mk hr1
  clear hr0 hr1
  go_enter Try.func9, Try.ntmps9
  go_wp2_with fail
  have b0 := blk_new w (.cells #[.slice A1 b.length c1] 22)
  have hb0 := below_alloc (Below.refl w.heap.size w) (.cells #[.slice A1 b.length c1] 22)
  have R0 := Kd.C_below HR0.out hb0
  have R1 := Kd.C_below HR1.out hb0
  generalize w.alloc (.cells #[.slice A1 b.length c1] 22) = W1 at b0 hb0 R0 R1 ⊢
  refine (may_c A0 c0 a W1 R0 hc0).mono ?_
  rintro e w2 ⟨rfl, hb⟩
  have HB := Aside0.mk (below_then hb0 hb0.size hb)
  have b0 := blk_below b0 hb
  have R0 := Kd.C_below R0 hb
  have R1 := Kd.C_below R1 hb
  have B0 := Aside0.mk b0
  have RA := Aside0.mk R0
  have RB := Aside0.mk R1
  have g0 := (blk_cell b0 0).trans rfl
  clear hb hb0 b0 R0 R1
  by_cases ha : mayL a = true
  · go_wp2_with fail
    refine (may_c A1 c1 b w2 RB.out hc1).mono ?_
    rintro e w3 ⟨rfl, hb⟩
    have HB3 := Aside0.mk (below_then HB.out HB.out.size hb)
    have b0 := blk_below B0.out hb
    have R0 := Kd.C_below RA.out hb
    have R1 := Kd.C_below RB.out hb
    have B03 := Aside0.mk b0
    have RA3 := Aside0.mk R0
    have RB3 := Aside0.mk R1
    clear hb b0 R0 R1 g0
    by_cases hbb : mayL b = true
    · go_wp2_with fail
      refine (contains_Agree w.heap.size (otherB b) w3 (fun x W hW => agree1_calls w.heap.size A1 c1 b x W ((blk_cell (blk_below B03.out hW) 0).trans rfl) (Kd.C_below RB3.out hW) hc1) A0 c0 a w3 (Below.refl _ _) RA3.out hc0).mono ?_
      rintro e w4 ⟨rfl, hb⟩
      have HB4 := Aside0.mk (below_then HB3.out HB3.out.size hb)
      clear hb
      go_wp2
      go_ret
      exact ⟨ret_bool (by unfold agreeB; rw [ha, hbb]; simp), HB4.out⟩
    · have hbb : mayL b = false := by simpa using hbb
      go_wp2
      go_ret
      exact ⟨ret_bool (by unfold agreeB; rw [ha, hbb]; simp), HB3.out⟩
  · have ha : mayL a = false := by simpa using ha
    go_wp2
    go_ret
    exact ⟨ret_bool (by unfold agreeB; rw [ha]; simp), HB.out⟩


end Go.Proofs.Ytpkcnifchggbnaa.HD
