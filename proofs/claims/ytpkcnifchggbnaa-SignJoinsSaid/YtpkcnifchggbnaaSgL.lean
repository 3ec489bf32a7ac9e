/-
  PLAIN: what rows of choices come to: points are an order; a binary search finds the one at a point. No program is in sight.
-/
import Derived.Test.YtpkcnifchggbnaaSgE
namespace Go.Proofs.Ytpkcnifchggbnaa.HD
open Go.RowKit Go.Proofs.Ytpkcnifchggbnaa.HK Go.Proofs.Ytpkcnifchggbnaa.HP Go.Proofs.YtpkcnifchggbnaaW.PrintWords Go.Proofs.YtpkcnifchggbnaaW.PrintLast Go.Proofs.YtpkcnifchggbnaaW.PrintMore
set_option linter.unusedVariables false
set_option linter.unusedSimpArgs false

theorem cmpI_cases (a b : Int) : (a < b ∧ cmpI a b = -1) ∨ (a = b ∧ cmpI a b = 0) ∨ (b < a ∧ cmpI a b = 1) := by
  unfold cmpI
  split
  · exact .inl ⟨by assumption, rfl⟩
  · split
    · exact .inr (.inr ⟨by omega, rfl⟩)
    · exact .inr (.inl ⟨by omega, rfl⟩)
/-- stands a point ahead of another one? -/
def Less (x y : Ch) : Prop := x.f0 < y.f0 ∨ (x.f0 = y.f0 ∧ x.f1 < y.f1)
instance (x y : Ch) : Decidable (Less x y) := inferInstanceAs (Decidable (_ ∨ _))
theorem pts_lt (x y : Ch) : ptsI x y < 0 ↔ Less x y := by
  unfold ptsI Less
  rcases cmpI_cases x.f0 y.f0 with ⟨h, e⟩ | ⟨h, e⟩ | ⟨h, e⟩ <;> rcases cmpI_cases x.f1 y.f1 with ⟨h', e'⟩ | ⟨h', e'⟩ | ⟨h', e'⟩ <;> simp [orF, e, e'] <;> omega
theorem pts_eq (x y : Ch) : ptsI x y = 0 ↔ x.f0 = y.f0 ∧ x.f1 = y.f1 := by
  unfold ptsI
  rcases cmpI_cases x.f0 y.f0 with ⟨h, e⟩ | ⟨h, e⟩ | ⟨h, e⟩ <;> rcases cmpI_cases x.f1 y.f1 with ⟨h', e'⟩ | ⟨h', e'⟩ | ⟨h', e'⟩ <;> simp [orF, e, e'] <;> omega
theorem Less.trans {x y z : Ch} (h : Less x y) (k : Less y z) : Less x z := by unfold Less at *; omega
theorem Less.irrefl {x y : Ch} (h : Less x y) : ¬ (x.f0 = y.f0 ∧ x.f1 = y.f1) := by unfold Less at h; omega
theorem Less.asymm {x y : Ch} (h : Less x y) : ¬ Less y x := by unfold Less at *; omega
theorem less_total (x y : Ch) : Less x y ∨ (x.f0 = y.f0 ∧ x.f1 = y.f1) ∨ Less y x := by unfold Less; omega

theorem ch_ext {x y : Ch} (h0 : x.f0 = y.f0) (h1 : x.f1 = y.f1) (h2 : x.f2 = y.f2) (h3 : x.f3 = y.f3) (h4 : x.f4 = y.f4) : x = y := by
  cases x; cases y; simp_all
theorem eqC_iff {x y : Ch} : eqC x y = true ↔ x = y := by
  constructor
  · intro h
    unfold eqC at h
    simp only [Bool.and_eq_true, beq_iff_eq] at h
    exact ch_ext h.1 h.2.1 h.2.2.1 h.2.2.2.1 h.2.2.2.2
  · rintro rfl
    simp [eqC]
theorem eqC_self (x : Ch) : eqC x x = true := eqC_iff.2 rfl
theorem eqC_comm (x y : Ch) : eqC x y = eqC y x := by
  rw [Bool.eq_iff_iff, eqC_iff, eqC_iff]
  exact eq_comm
theorem isAt_iff {r c : Int} {x : Ch} : isAt r c x = true ↔ x.f0 = r ∧ x.f1 = c := by simp [isAt]

/-- each is one that may be, and the points rise -/
theorem mayR_some {q : Ch} {l : List Ch} : mayR (some q) l = true ↔ (∀ x ∈ l, oneB x = true) ∧ (q :: l).Pairwise Less := by
  induction l generalizing q with
  | nil => simp [mayR]
  | cons x t ih =>
    simp only [mayR, Bool.and_eq_true, decide_eq_true_eq, pts_lt, ih, List.mem_cons, List.pairwise_cons, forall_eq_or_imp]
    constructor
    · rintro ⟨⟨h1, h2⟩, h3, h4, h5⟩
      exact ⟨⟨h1, h3⟩, ⟨h2, fun y hy => h2.trans (h4 y hy)⟩, h4, h5⟩
    · rintro ⟨⟨h1, h3⟩, ⟨h2, _⟩, h4, h5⟩
      exact ⟨⟨h1, h2⟩, h3, h4, h5⟩
theorem mayL_iff {l : List Ch} : mayL l = true ↔ (∀ x ∈ l, oneB x = true) ∧ l.Pairwise Less := by
  unfold mayL
  cases l with
  | nil => simp [mayR]
  | cons x t =>
    simp only [mayR, Bool.and_true, Bool.and_eq_true, mayR_some, List.mem_cons, forall_eq_or_imp]
    exact ⟨fun ⟨a, b, c⟩ => ⟨⟨a, b⟩, c⟩, fun ⟨⟨a, b⟩, c⟩ => ⟨a, b, c⟩⟩
theorem sorted_get {l : List Ch} (h : l.Pairwise Less) {i j : Nat} (hij : i < j) (hj : j < l.length) : Less (rd_T24 l (i : Int)) (rd_T24 l (j : Int)) := by
  rw [rd_ch (by omega : i < l.length), rd_ch hj]
  exact List.pairwise_iff_getElem.1 h i j (by omega) hj hij
/-- two of a row that may be, at one point, are one -/
theorem sorted_one {l : List Ch} (h : l.Pairwise Less) {x y : Ch} (hx : x ∈ l) (hy : y ∈ l) (e : x.f0 = y.f0 ∧ x.f1 = y.f1) : x = y := by
  obtain ⟨i, hi, rfl⟩ := List.getElem_of_mem hx
  obtain ⟨j, hj, rfl⟩ := List.getElem_of_mem hy
  rcases Nat.lt_trichotomy i j with hl | rfl | hl
  · exact absurd e (List.pairwise_iff_getElem.1 h i j hi hj hl).irrefl
  · rfl
  · exact absurd ⟨e.1.symm, e.2.symm⟩ (List.pairwise_iff_getElem.1 h j i hj hi hl).irrefl
theorem bsW_spec {l : List Ch} {x : Ch} (h : l.Pairwise Less) : ∀ n i j : Nat, j - i = n → i ≤ j → j ≤ l.length →
    (∀ m : Nat, m < i → Less (rd_T24 l (m : Int)) x) → (∀ m : Nat, j ≤ m → m < l.length → ¬ Less (rd_T24 l (m : Int)) x) →
    bsW l x i j ≤ l.length ∧ (∀ m : Nat, m < bsW l x i j → Less (rd_T24 l (m : Int)) x) ∧ (∀ m : Nat, bsW l x i j ≤ m → m < l.length → ¬ Less (rd_T24 l (m : Int)) x) := by
  intro n
  induction n using Nat.strongRecOn with
  | ind n ih =>
    intro i j hn hij hj hlo hhi
    by_cases hlt : i < j
    · rw [bsW_go hlt]
      have h1 : (i + j) / 2 < j := by omega
      have h2 : i ≤ (i + j) / 2 := by omega
      split
      · rename_i hp
        rw [pts_lt] at hp
        refine ih (j - ((i + j) / 2 + 1)) (by omega) _ _ rfl (by omega) hj (fun m hm => ?_) hhi
        rcases Nat.lt_or_ge m ((i + j) / 2) with hm' | hm'
        · exact (sorted_get h hm' (by omega)).trans hp
        · obtain rfl : m = (i + j) / 2 := by omega
          exact hp
      · rename_i hp
        rw [pts_lt] at hp
        refine ih ((i + j) / 2 - i) (by omega) _ _ rfl (by omega) (by omega) hlo (fun m hm hml hp' => ?_)
        rcases Nat.lt_or_ge ((i + j) / 2) m with hm' | hm'
        · exact hp ((sorted_get h hm' hml).trans hp')
        · obtain rfl : m = (i + j) / 2 := by omega
          exact hp hp'
    · rw [bsW_end hlt]
      exact ⟨by omega, hlo, fun m hm hml => hhi m (by omega) hml⟩
theorem bsI_spec {l : List Ch} {x : Ch} (h : l.Pairwise Less) :
    bsI l x ≤ l.length ∧ (∀ m : Nat, m < bsI l x → Less (rd_T24 l (m : Int)) x) ∧ (∀ m : Nat, bsI l x ≤ m → m < l.length → ¬ Less (rd_T24 l (m : Int)) x) :=
  bsW_spec h _ 0 l.length rfl (by omega) (by omega) (fun m hm => absurd hm (by omega)) (fun m hm hml => absurd hm (by omega))
/-- the choice of a row at a point, by going through it -/
def findC (l : List Ch) (r c : Int) : Option Ch := l.find? (isAt r c)
theorem findC_some {l : List Ch} {r c : Int} {y : Ch} (h : findC l r c = some y) : y ∈ l ∧ y.f0 = r ∧ y.f1 = c :=
  ⟨List.mem_of_find?_eq_some h, isAt_iff.1 (List.find?_some h)⟩
theorem findC_of {l : List Ch} (h : l.Pairwise Less) {y : Ch} (hy : y ∈ l) : findC l y.f0 y.f1 = some y := by
  cases hf : findC l y.f0 y.f1 with
  | none => exact absurd (isAt_iff.2 ⟨rfl, rfl⟩) (List.find?_eq_none.1 hf y hy)
  | some z =>
    obtain ⟨hz, e⟩ := findC_some hf
    rw [sorted_one h hz hy e]
/-- what the binary search tells is what going through the row tells -/
theorem bs_find {l : List Ch} (h : l.Pairwise Less) (x : Ch) : (if bsHas l x then some (rd_T24 l (bsI l x : Int)) else none) = findC l x.f0 x.f1 := by
  obtain ⟨h1, h2, h3⟩ := bsI_spec (x := x) h
  cases hb : bsHas l x with
  | true =>
    unfold bsHas at hb
    simp only [Bool.and_eq_true, decide_eq_true_eq, pts_eq] at hb
    rw [if_pos rfl, ← hb.2.1, ← hb.2.2]
    refine (findC_of h ?_).symm
    rw [rd_ch hb.1]
    exact List.getElem_mem _
  | false =>
    rw [if_neg (by simp)]
    cases hf : findC l x.f0 x.f1 with
    | none => rfl
    | some y =>
      exfalso
      obtain ⟨hy, e⟩ := findC_some hf
      obtain ⟨m, hm, rfl⟩ := List.getElem_of_mem hy
      rw [← rd_ch hm] at e
      have hge : bsI l x ≤ m := by
        rcases Nat.lt_or_ge m (bsI l x) with hlt | hge
        · exact absurd e (h2 m hlt).irrefl
        · exact hge
      have : bsI l x = m := by
        rcases Nat.lt_or_ge (bsI l x) m with hlt | hge'
        · have hs := sorted_get h hlt hm
          exact absurd (show Less (rd_T24 l (bsI l x : Int)) x by unfold Less at *; omega) (h3 _ (Nat.le_refl _) (by omega))
        · omega
      unfold bsHas at hb
      rw [this, decide_eq_true hm, Bool.true_and, decide_eq_false_iff_not, pts_eq] at hb
      exact hb e
/-- At, by going through the row -/
def atG (o : Option Ch) : Ch × Bool := match o with | some x => (x, true) | none => (z24, false)
theorem idxF_find {p : Ch → Bool} (l : List Ch) : ∀ i : Int, 0 ≤ i → (idxF p l i < 0 → l.find? p = none) ∧ (0 ≤ idxF p l i → i ≤ idxF p l i ∧ l[(idxF p l i - i).toNat]? = l.find? p ∧ (l.find? p).isSome = true) := by
  induction l with
  | nil => intro i hi; simp [idxF]
  | cons a t ih =>
    intro i hi
    simp only [idxF, List.find?_cons]
    cases hp : p a with
    | true => simp; omega
    | false =>
      simp only [Bool.false_eq_true, if_false]
      obtain ⟨h1, h2⟩ := ih (i + 1) (by omega)
      refine ⟨h1, fun h => ?_⟩
      obtain ⟨h3, h4, h5⟩ := h2 h
      refine ⟨by omega, ?_, h5⟩
      rw [← h4, show (idxF p t (i + 1) - i).toNat = (idxF p t (i + 1) - (i + 1)).toNat + 1 by omega]
      rfl
theorem atF_eq (l : List Ch) (r c : Int) : atF l r c = atG (findC l r c) := by
  obtain ⟨h1, h2⟩ := idxF_find (p := isAt r c) l 0 (by omega)
  unfold atF findC
  split
  · rename_i h
    rw [h1 h]
    rfl
  · rename_i h
    obtain ⟨h3, h4, h5⟩ := h2 (by omega)
    obtain ⟨y, hy⟩ := Option.isSome_iff_exists.1 h5
    rw [hy] at h4 ⊢
    simp only [Int.sub_zero] at h4
    unfold atG rd_T24
    simp [h4]
/-- what a row says of a choice: none other stands at its point -/
def agP (b : List Ch) (x : Ch) : Bool := match findC b x.f0 x.f1 with | some y => eqC y x | none => true
/-- what a row says of a choice: it has it -/
def wiP (b : List Ch) (x : Ch) : Bool := match findC b x.f0 x.f1 with | some y => eqC y x | none => false
theorem agP_some {b : List Ch} {x y : Ch} (h : findC b x.f0 x.f1 = some y) : agP b x = eqC y x := by unfold agP; rw [h]
theorem agP_none {b : List Ch} {x : Ch} (h : findC b x.f0 x.f1 = none) : agP b x = true := by unfold agP; rw [h]
theorem wiP_some {b : List Ch} {x y : Ch} (h : findC b x.f0 x.f1 = some y) : wiP b x = eqC y x := by unfold wiP; rw [h]
theorem wiP_none {b : List Ch} {x : Ch} (h : findC b x.f0 x.f1 = none) : wiP b x = false := by unfold wiP; rw [h]
/-- Agree, by going through the rows -/
theorem other_eq {b : List Ch} (h : b.Pairwise Less) (x : Ch) : otherB b x = (match findC b x.f0 x.f1 with | some y => !eqC y x | none => false) := by
  unfold otherB
  rw [← bs_find h x]
  cases bsHas b x <;> simp
theorem has_eq {b : List Ch} (h : b.Pairwise Less) (x : Ch) : b.any (eqC x) = (match findC b x.f0 x.f1 with | some y => eqC y x | none => false) := by
  rw [Bool.eq_iff_iff, List.any_eq_true]
  constructor
  · rintro ⟨y, hy, e⟩
    obtain rfl := eqC_iff.1 e
    rw [findC_of h hy]
    exact eqC_self _
  · intro hh
    cases hf : findC b x.f0 x.f1 with
    | none => rw [hf] at hh; exact absurd hh (by simp)
    | some y =>
      rw [hf] at hh
      exact ⟨y, (findC_some hf).1, by rw [eqC_comm]; exact hh⟩
theorem not_any_all {α : Type} (l : List α) (f g : α → Bool) (h : ∀ x, g x = !f x) : (!l.any f) = l.all g := by
  induction l with
  | nil => rfl
  | cons a t ih => simp only [List.any_cons, List.all_cons, Bool.not_or, ih, h]
theorem agree_eq (a b : List Ch) : agreeB a b = (mayL a && mayL b && a.all (agP b)) := by
  unfold agreeB
  cases hb : mayL b with
  | false => simp
  | true =>
    have hs := (mayL_iff.1 hb).2
    congr 1
    refine not_any_all a _ _ (fun x => ?_)
    rw [other_eq hs x]
    unfold agP
    cases findC b x.f0 x.f1 <;> simp
theorem within_eq (a b : List Ch) : withinB a b = (mayL a && mayL b && a.all (wiP b)) := by
  unfold withinB
  cases hb : mayL b with
  | false => simp
  | true =>
    have hs := (mayL_iff.1 hb).2
    congr 1
    refine not_any_all a _ _ (fun x => ?_)
    rw [has_eq hs x, Bool.not_not]
    rfl
end Go.Proofs.Ytpkcnifchggbnaa.HD
