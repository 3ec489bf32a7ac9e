/-
  WHAT HAPPENED AHEAD OF WHAT, said plainly: the document's rows are an order; who stands just ahead of an event tells all of its past. No program is walked here.
-/
import Derived.Test.YtnblmjkaieibhaaOrA
namespace Go.Proofs.Ytnblmjkaieibhaa.HO
open Go.Proofs.Ytnblmjkaieibhaa.HU Go.RowKit Go.Proofs.Ytnblmjkaieibhaa.HK Go.Proofs.Ytnblmjkaieibhaa.HP Go.Proofs.YtnblmjkaieibhaaW.PrintWords Go.Proofs.YtnblmjkaieibhaaW.PrintLast Go.Proofs.YtnblmjkaieibhaaW.PrintMore
set_option linter.unusedVariables false
set_option linter.unusedSimpArgs false
theorem dn_base (A : Nat → Nat → Bool) : ∀ (K : Nat) (f : Nat → Bool) (m : Nat), f m = true → dn A K f m = true
  | 0, _, _, h => h
  | K + 1, f, m, h => dn_base A K _ m (by simp [h])
theorem dn_hi (A : Nat → Nat → Bool) : ∀ (K : Nat) (f : Nat → Bool) (m : Nat), K ≤ m → dn A K f m = f m
  | 0, _, _, _ => rfl
  | K + 1, f, m, h => by
    have h1 := dn_hi A K (fun m => f m || (decide (m < K) && (f K && A K m))) m (by omega)
    show dn A K _ m = f m
    rw [h1]
    simp [show ¬ m < K by omega]
theorem dn_close (A : Nat → Nat → Bool) : ∀ (K : Nat) (f : Nat → Bool) (q m : Nat), q < K → dn A K f q = true → m < q → A q m = true → dn A K f m = true
  | 0, _, _, _, h, _, _, _ => by omega
  | K + 1, f, q, m, hq, h, hm, ha => by
    rcases Nat.lt_succ_iff_lt_or_eq.1 hq with h1 | h1
    · exact dn_close A K _ q m h1 h hm ha
    · subst h1
      have h2 : f q = true := by
        have h3 := dn_hi A q (fun m => f m || (decide (m < q) && (f q && A q m))) q (Nat.le_refl _)
        have h4 : dn A q (fun m => f m || (decide (m < q) && (f q && A q m))) q = true := h
        rw [h3] at h4
        simpa using h4
      exact dn_base A q _ m (by simp [h2, hm, ha])
theorem dn_from (A : Nat → Nat → Bool) : ∀ (K : Nat) (f : Nat → Bool) (m : Nat), dn A K f m = true → f m = true ∨ ∃ q, q < K ∧ dn A K f q = true ∧ m < q ∧ A q m = true
  | 0, _, _, h => .inl h
  | K + 1, f, m, h => by
    rcases dn_from A K _ m h with h1 | ⟨q, h1, h2, h3, h4⟩
    · simp only [Bool.or_eq_true, Bool.and_eq_true, decide_eq_true_eq] at h1
      rcases h1 with h1 | ⟨h1, h2, h3⟩
      · exact .inl h1
      · refine .inr ⟨K, by omega, ?_, h1, h3⟩
        exact dn_base A K _ K (by simp [h2])
    · exact .inr ⟨q, by omega, h2, h3, h4⟩
section
variable {l : List Ev_}
/-- the rank of an event -/
abbrev rk (l : List Ev_) (m : Nat) : Int := (ek l m).f0
/-- did m happen ahead of i? -/
def HH (l : List Ev_) (i m : Nat) : Bool := dn (aH l i) i (afterF l i (ek l i).f1.length) m
theorem rows_get : ∀ (L i : Nat), i < L → (rowsF l L).getD i (fun _ => false) = HH l i
  | 0, _, h => by omega
  | L + 1, i, h => by
    rw [rowsF, List.getD_eq_getElem?_getD]
    rcases Nat.lt_succ_iff_lt_or_eq.1 h with h1 | h1
    · rw [List.getElem?_append_left (by rw [rowsF_len]; exact h1), ← List.getD_eq_getElem?_getD]
      exact rows_get L i h1
    · subst h1
      rw [List.getElem?_append_right (by rw [rowsF_len]; exact Nat.le_refl _), rowsF_len, Nat.sub_self]
      rfl
theorem aH_eq {i k : Nat} (h : k < i) : aH l i k = HH l k := rows_get i k h
/-- just ahead: of the same rank, or what it is after -/
def bb (l : List Ev_) (i m : Nat) : Prop := (m < i ∧ rk l m = rk l i) ∨ (m : Int) ∈ (ek l i).f1
theorem bb_iff {i m : Nat} : afterF l i (ek l i).f1.length m = true ↔ bb l i m := by
  unfold afterF sameF bb
  rw [List.take_length]
  simp [List.any_eq_true]
theorem H_base {i m : Nat} (h : bb l i m) : HH l i m = true := dn_base _ _ _ _ (bb_iff.2 h)
theorem H_close {i q m : Nat} (hq : q < i) (h1 : HH l i q = true) (hm : m < q) (h2 : HH l q m = true) : HH l i m = true := dn_close _ _ _ q m hq h1 hm (by rw [aH_eq hq]; exact h2)
theorem H_from {i m : Nat} (h : HH l i m = true) : bb l i m ∨ ∃ q, q < i ∧ HH l i q = true ∧ m < q ∧ HH l q m = true := by
  rcases dn_from _ _ _ _ h with h1 | ⟨q, h1, h2, h3, h4⟩
  · exact .inl (bb_iff.1 h1)
  · exact .inr ⟨q, h1, h2, h3, by rw [aH_eq h1] at h4; exact h4⟩
/-- each is after earlier ones -/
def Vld (l : List Ev_) : Prop := ∀ i, i < l.length → ∀ a ∈ (ek l i).f1, 0 ≤ a ∧ a < (i : Int)
variable (hv : Vld l)
include hv
theorem bb_lt {i m : Nat} (hi : i < l.length) (h : bb l i m) : m < i := by
  rcases h with h | h
  · exact h.1
  · have := (hv i hi _ h).2
    omega
theorem H_lt {i m : Nat} (hi : i < l.length) (h : HH l i m = true) : m < i := by
  rcases H_from h with h1 | ⟨q, h1, _, h3, _⟩
  · exact bb_lt hv hi h1
  · omega
theorem H_trans {i q m : Nat} (hi : i < l.length) (h1 : HH l i q = true) (h2 : HH l q m = true) : HH l i m = true := by
  have hq := H_lt hv hi h1
  exact H_close hq h1 (H_lt hv (by omega) h2) h2
theorem H_min {i : Nat} (hi : i < l.length) : ∀ (d m : Nat), i - m ≤ d → HH l i m = true → ∃ q, bb l i q ∧ (q = m ∨ HH l q m = true)
  | 0, m, hd, h => by have := H_lt hv hi h; omega
  | d + 1, m, hd, h => by
    rcases H_from h with h1 | ⟨q, h1, h2, h3, h4⟩
    · exact ⟨m, h1, .inl rfl⟩
    · obtain ⟨q', h5, h6⟩ := H_min hi d q (by omega) h2
      refine ⟨q', h5, .inr ?_⟩
      rcases h6 with rfl | h6
      · exact h4
      · exact H_trans hv (by have := bb_lt hv hi h5; omega) h6 h4
omit hv
theorem last_of {r : Int} : ∀ (i q : Nat), q < i → rk l q = r → ∃ p, q ≤ p ∧ p < i ∧ rk l p = r ∧ ∀ m, p < m → m < i → rk l m ≠ r
  | 0, q, h, _ => by omega
  | i + 1, q, h, hr => by
    by_cases hi : rk l i = r
    · exact ⟨i, by omega, by omega, hi, fun m h1 h2 => by omega⟩
    · have hqi : q < i := by
        rcases Nat.lt_succ_iff_lt_or_eq.1 h with h1 | h1
        · exact h1
        · subst h1; exact absurd hr hi
      obtain ⟨p, h0, h1, h2, h3⟩ := last_of i q hqi hr
      refine ⟨p, h0, by omega, h2, fun m h4 h5 => ?_⟩
      rcases Nat.lt_succ_iff_lt_or_eq.1 h5 with h6 | h6
      · exact h3 m h4 h6
      · subst h6; exact hi
/-- those that stand just ahead, as the program has them -/
def BH (l : List Ev_) (i : Nat) (bh : List Int) : Prop := ∀ x : Int, x ∈ bh ↔ (x ∈ (ek l i).f1 ∨ ∃ p : Nat, x = p ∧ p < i ∧ rk l p = rk l i ∧ ∀ m, p < m → m < i → rk l m ≠ rk l i)
include hv
theorem BH_rng {i : Nat} {bh : List Int} (hi : i < l.length) (h : BH l i bh) {x : Int} (hx : x ∈ bh) : 0 ≤ x ∧ x < (i : Int) := by
  rcases (h x).1 hx with h1 | ⟨p, rfl, h2, _⟩
  · exact hv i hi x h1
  · omega
/-- the past by those that stand just ahead -/
theorem H_bh {i : Nat} {bh : List Int} (hi : i < l.length) (h : BH l i bh) (m : Nat) : HH l i m = true ↔ ∃ q : Nat, (q : Int) ∈ bh ∧ (m = q ∨ HH l q m = true) := by
  constructor
  · intro h1
    obtain ⟨q, h2, h3⟩ := H_min hv hi (i - m) m (Nat.le_refl _) h1
    rcases h2 with ⟨h4, h5⟩ | h4
    · obtain ⟨p, hp0, hp1, hp2, hp3⟩ := last_of i q h4 h5
      refine ⟨p, (h p).2 (.inr ⟨p, rfl, hp1, hp2, hp3⟩), ?_⟩
      have hpq : q = p ∨ HH l p q = true := by
        rcases Nat.lt_or_eq_of_le hp0 with h6 | h6
        · exact .inr (H_base (.inl ⟨h6, h5.trans hp2.symm⟩))
        · exact .inl h6
      rcases hpq with rfl | hpq
      · exact h3.imp Eq.symm id
      · rcases h3 with rfl | h3
        · exact .inr hpq
        · exact .inr (H_trans hv (by omega) hpq h3)
    · exact ⟨q, (h q).2 (.inl h4), h3.imp Eq.symm id⟩
  · rintro ⟨q, h1, h2⟩
    have hb : bb l i q := by
      rcases (h q).1 h1 with h3 | ⟨p, h3, h4, h5, _⟩
      · exact .inr h3
      · obtain rfl : q = p := by omega
        exact .inl ⟨h4, h5⟩
    rcases h2 with rfl | h2
    · exact H_base hb
    · exact H_trans hv hi (H_base hb) h2
/-- an event and its past -/
def PP (l : List Ev_) (i m : Nat) : Bool := decide (m = i) || HH l i m
omit hv
/-- how many there are of a rank -/
def cn (l : List Ev_) (S : Nat → Bool) (r : Int) : Nat := (List.range l.length).countP (fun m => S m && decide (rk l m = r))
theorem cn_mono {S T : Nat → Bool} {r : Int} (h : ∀ m, m < l.length → S m = true → rk l m = r → T m = true) : cn l S r ≤ cn l T r := by
  unfold cn
  refine List.countP_mono_left (fun m hm hs => ?_)
  simp only [Bool.and_eq_true, decide_eq_true_eq] at hs ⊢
  exact ⟨h m (by simpa using hm) hs.1 hs.2, hs.2⟩
theorem cn_le (S : Nat → Bool) (r : Int) : cn l S r ≤ l.length := by
  unfold cn
  exact Nat.le_trans List.countP_le_length (by simp)
theorem cn_pos {S : Nat → Bool} {r : Int} (h : 0 < cn l S r) : ∃ m, m < l.length ∧ S m = true ∧ rk l m = r := by
  unfold cn at h
  obtain ⟨m, h1, h2⟩ := List.countP_pos_iff.1 h
  simp only [Bool.and_eq_true, decide_eq_true_eq] at h2
  exact ⟨m, by simpa using h1, h2.1, h2.2⟩
theorem cn_zero {r : Int} : cn l (fun _ => false) r = 0 := by
  unfold cn
  simp
/-- the last one of some, below a bound -/
theorem max_of {p : Nat → Prop} : ∀ (L m : Nat), m < L → p m → ∃ k, k < L ∧ p k ∧ ∀ j, j < L → p j → j ≤ k
  | 0, m, h, _ => by omega
  | L + 1, m, h, hp => by
    by_cases hL : p L
    · exact ⟨L, by omega, hL, fun j hj _ => by omega⟩
    · have hm : m < L := by
        rcases Nat.lt_succ_iff_lt_or_eq.1 h with h1 | h1
        · exact h1
        · subst h1; exact absurd hp hL
      obtain ⟨k, h1, h2, h3⟩ := max_of L m hm hp
      refine ⟨k, by omega, h2, fun j hj hpj => ?_⟩
      rcases Nat.lt_succ_iff_lt_or_eq.1 hj with h4 | h4
      · exact h3 j h4 hpj
      · subst h4; exact absurd hpj hL
include hv
/-- one of those just ahead knows all that is known of a rank -/
theorem cn_bh {i : Nat} {bh : List Int} (hi : i < l.length) (h : BH l i bh) (r : Int) :
    (∀ q : Nat, (q : Int) ∈ bh → cn l (PP l q) r ≤ cn l (HH l i) r) ∧ (cn l (HH l i) r = 0 ∨ ∃ q : Nat, (q : Int) ∈ bh ∧ cn l (HH l i) r ≤ cn l (PP l q) r) := by
  refine ⟨fun q hq => cn_mono (fun m hm hs hr => (H_bh hv hi h m).2 ⟨q, hq, ?_⟩), ?_⟩
  · unfold PP at hs
    simpa using hs
  · rcases Nat.eq_zero_or_pos (cn l (HH l i) r) with h0 | h0
    · exact .inl h0
    · obtain ⟨m, h1, h2, h3⟩ := cn_pos h0
      obtain ⟨k, k1, ⟨k2, k3⟩, k4⟩ := max_of (p := fun m => HH l i m = true ∧ rk l m = r) l.length m h1 ⟨h2, h3⟩
      obtain ⟨q, q1, q2⟩ := (H_bh hv hi h k).1 k2
      refine .inr ⟨q, q1, cn_mono (fun j hj hs hr => ?_)⟩
      have hqi := (BH_rng hv hi h q1).2
      have hjk := k4 j hj ⟨hs, hr⟩
      have hjp : j = k ∨ HH l k j = true := by
        rcases Nat.lt_or_eq_of_le hjk with h5 | h5
        · exact .inr (H_base (.inl ⟨h5, hr.trans k3.symm⟩))
        · exact .inl h5
      unfold PP
      simp only [Bool.or_eq_true, decide_eq_true_eq]
      rcases q2 with rfl | q2
      · exact hjp
      · rcases hjp with rfl | hjp
        · exact .inr q2
        · exact .inr (H_trans hv (by omega) q2 hjp)
/-- an event is one more of its rank -/
theorem cn_self {i : Nat} (hi : i < l.length) (r : Int) : cn l (PP l i) r = cn l (HH l i) r + (if rk l i = r then 1 else 0) := by
  have hni : HH l i i = false := by
    cases hh : HH l i i with
    | false => rfl
    | true => have := H_lt hv hi hh; omega
  unfold cn
  have gen : ∀ L, (List.range L).countP (fun m => PP l i m && decide (rk l m = r)) = (List.range L).countP (fun m => HH l i m && decide (rk l m = r)) + (if i < L ∧ rk l i = r then 1 else 0) := by
    intro L
    induction L with
    | zero => simp
    | succ L ih =>
      rw [List.range_succ, List.countP_append, List.countP_append, ih]
      simp only [List.countP_singleton, PP]
      by_cases hL : L = i
      · subst hL
        by_cases hr : rk l L = r
        · simp [hr, hni]
        · simp [hr]
      · by_cases h1 : i < L
        · simp only [h1, show i < L + 1 by omega, hL, decide_false, Bool.false_or, true_and]
          omega
        · simp only [h1, show ¬ i < L + 1 by omega, hL, decide_false, Bool.false_or, false_and]
          simp
  rw [gen]
  simp [hi]
/-- who knows of as much, is behind -/
theorem H_of_cn {i k : Nat} (hi : i < l.length) (hk : k < l.length) (h : cn l (PP l i) (rk l i) ≤ cn l (PP l k) (rk l i)) : i = k ∨ HH l k i = true := by
  by_cases hp : PP l k i = true
  · unfold PP at hp
    simpa using hp
  · exfalso
    have hlt : cn l (PP l k) (rk l i) < cn l (PP l i) (rk l i) := by
      have h1 : cn l (PP l k) (rk l i) ≤ cn l (HH l i) (rk l i) := by
        refine cn_mono (fun m hm hs hr => ?_)
        rcases Nat.lt_trichotomy m i with h2 | h2 | h2
        · exact H_base (.inl ⟨h2, hr⟩)
        · subst h2; exact absurd hs hp
        · exfalso
          apply hp
          have h3 : HH l m i = true := H_base (.inl ⟨h2, hr.symm⟩)
          unfold PP at hs ⊢
          simp only [Bool.or_eq_true, decide_eq_true_eq] at hs ⊢
          rcases hs with rfl | hs
          · exact .inr h3
          · exact .inr (H_trans hv hk hs h3)
      have h2 := cn_self hv hi (rk l i)
      rw [if_pos rfl] at h2
      omega
    omega
/-- what is ahead knows of no more, and of less of the other one's rank -/
theorem cn_of_H {i k : Nat} (hi : i < l.length) (hk : k < l.length) (h : HH l k i = true) : (∀ r, cn l (PP l i) r ≤ cn l (PP l k) r) ∧ cn l (PP l i) (rk l k) < cn l (PP l k) (rk l k) := by
  have hs : ∀ m, PP l i m = true → HH l k m = true := fun m hm => by
    unfold PP at hm
    simp only [Bool.or_eq_true, decide_eq_true_eq] at hm
    rcases hm with rfl | hm
    · exact h
    · exact H_trans hv hk h hm
  have h1 : ∀ r, cn l (PP l i) r ≤ cn l (HH l k) r := fun r => cn_mono (fun m _ hm _ => hs m hm)
  refine ⟨fun r => Nat.le_trans (h1 r) ?_, ?_⟩
  · rw [cn_self hv hk]
    omega
  · have h2 := cn_self hv hk (rk l k)
    rw [if_pos rfl] at h2
    have := h1 (rk l k)
    omega
end
end Go.Proofs.Ytnblmjkaieibhaa.HO
