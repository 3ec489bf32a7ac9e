/-
  CONTRACTS BY HAND (sign, 26): how rows stand to each other: one ahead of the other, or the same.
-/
import Derived.Test.YtpkcnifchggbnaaSpC
import Derived.Test.YtpkcnifchggbnaaSgE
import Derived.Test.YtpkcnifchggbnaaSgL
namespace Go.Proofs.Ytpkcnifchggbnaa.HI
open Go.RowKit Go.Proofs.Ytpkcnifchggbnaa.HD Go.Proofs.Ytpkcnifchggbnaa.HK Go.Proofs.Ytpkcnifchggbnaa.HP Go.Proofs.Ytpkcnifchggbnaa.HU Go.Proofs.YtpkcnifchggbnaaW.PrintWords Go.Proofs.YtpkcnifchggbnaaW.PrintLast Go.Proofs.YtpkcnifchggbnaaW.PrintMore
set_option linter.unusedVariables false
set_option linter.unusedSimpArgs false
theorem cmpI_lt (a b : Int) : cmpI a b < 0 ↔ a < b := by unfold cmpI; split <;> (try split) <;> omega
theorem cmpI_eq (a b : Int) : cmpI a b = 0 ↔ a = b := by unfold cmpI; split <;> (try split) <;> omega
theorem orF_lt (a : Int) (t : List Int) : orF (a :: t) < 0 ↔ a < 0 ∨ a = 0 ∧ orF t < 0 := by
  show (if a = 0 then orF t else a) < 0 ↔ _
  split
  · rename_i h; simp [h]
  · rename_i h; simp [h]
theorem orF_eq (a : Int) (t : List Int) : orF (a :: t) = 0 ↔ a = 0 ∧ orF t = 0 := by
  show (if a = 0 then orF t else a) = 0 ↔ _
  split
  · rename_i h; simp [h]
  · rename_i h; simp [h]
theorem orF_nil : orF [] = 0 := rfl
theorem whole_lt (x y : Cho) : wholeI x y < 0 ↔ (x.f0 < y.f0 ∨ x.f0 = y.f0 ∧ (x.f1 < y.f1 ∨ x.f1 = y.f1 ∧ (x.f4 < y.f4 ∨ x.f4 = y.f4 ∧ (x.f2 < y.f2 ∨ x.f2 = y.f2 ∧ x.f3 < y.f3)))) := by
  unfold wholeI ptsI
  simp only [orF_lt, orF_eq, cmpI_lt, cmpI_eq, orF_nil, Int.lt_irrefl, and_false, or_false, and_true]
  constructor <;> intro h <;> omega
theorem whole_eq (x y : Cho) : wholeI x y = 0 ↔ x = y := by
  unfold wholeI ptsI
  simp only [orF_eq, cmpI_eq, orF_nil]
  constructor
  · rintro ⟨⟨h0, h1, _⟩, h4, h2, h3, _⟩
    exact ch_ext h0 h1 h2 h3 h4
  · rintro rfl
    simp
theorem whole_tri (x y : Cho) : wholeI x y < 0 ∨ x = y ∨ wholeI y x < 0 := by
  rw [whole_lt, whole_lt]
  by_cases h : x = y
  · exact .inr (.inl h)
  · have : ¬ (x.f0 = y.f0 ∧ x.f1 = y.f1 ∧ x.f2 = y.f2 ∧ x.f3 = y.f3 ∧ x.f4 = y.f4) := fun ⟨h0, h1, h2, h3, h4⟩ => h (ch_ext h0 h1 h2 h3 h4)
    omega
theorem whole_asym (x y : Cho) (h : wholeI x y < 0) : ¬ wholeI y x < 0 := by rw [whole_lt] at *; omega
theorem whole_trans (x y z : Cho) (h : wholeI x y < 0) (k : wholeI y z < 0) : wholeI x z < 0 := by rw [whole_lt] at *; omega
theorem whole_ne {x y : Cho} (h : wholeI x y < 0) : ¬ wholeI x y = 0 := by omega
theorem cmpR_lt (x y : Cho) (t s : List Cho) : cmpR (x :: t) (y :: s) < 0 ↔ wholeI x y < 0 ∨ x = y ∧ cmpR t s < 0 := by
  simp only [cmpR]
  rw [← whole_eq]
  split <;> omega
theorem cmpR_tri : ∀ a b : List Cho, cmpR a b < 0 ∨ a = b ∨ cmpR b a < 0
  | [], [] => .inr (.inl rfl)
  | [], _ :: _ => .inl (by simp [cmpR])
  | _ :: _, [] => .inr (.inr (by simp [cmpR]))
  | x :: t, y :: s => by
    rw [cmpR_lt, cmpR_lt]
    rcases whole_tri x y with h | rfl | h
    · exact .inl (.inl h)
    · rcases cmpR_tri t s with h | rfl | h
      · exact .inl (.inr ⟨rfl, h⟩)
      · exact .inr (.inl rfl)
      · exact .inr (.inr (.inr ⟨rfl, h⟩))
    · exact .inr (.inr (.inl h))
theorem cmpR_asym : ∀ a b : List Cho, cmpR a b < 0 → ¬ cmpR b a < 0
  | [], [] => by simp [cmpR]
  | [], _ :: _ => by simp [cmpR]
  | _ :: _, [] => by simp [cmpR]
  | x :: t, y :: s => by
    rw [cmpR_lt, cmpR_lt]
    rintro (h | ⟨rfl, h⟩) (k | ⟨e, k⟩)
    · exact whole_asym _ _ h k
    · subst e; exact whole_asym _ _ h h
    · exact whole_asym _ _ k k
    · exact cmpR_asym t s h k
theorem cmpR_trans : ∀ a b c : List Cho, cmpR a b < 0 → cmpR b c < 0 → cmpR a c < 0
  | [], _, _ :: _, _, _ => by simp [cmpR]
  | [], [], [], h, _ => by simp [cmpR] at h
  | [], _ :: _, [], _, k => by simp [cmpR] at k
  | _ :: _, [], _, h, _ => by simp [cmpR] at h
  | _ :: _, _ :: _, [], _, k => by simp [cmpR] at k
  | x :: t, y :: s, z :: r, h, k => by
    rw [cmpR_lt] at *
    rcases h with h | ⟨rfl, h⟩
    · rcases k with k | ⟨rfl, k⟩
      · exact .inl (whole_trans _ _ _ h k)
      · exact .inl h
    · rcases k with k | ⟨rfl, k⟩
      · exact .inl k
      · exact .inr ⟨rfl, cmpR_trans t s r h k⟩
theorem cmpR_take : ∀ (a : List Cho), a ≠ [] → cmpR (a.take (a.length - 1)) a < 0
  | [], h => absurd rfl h
  | [x], _ => by simp [cmpR]
  | x :: y :: t, _ => by
    have := cmpR_take (y :: t) (by simp)
    rw [show (x :: y :: t).take ((x :: y :: t).length - 1) = x :: (y :: t).take ((y :: t).length - 1) from rfl, cmpR_lt]
    exact .inr ⟨rfl, this⟩
/-! ### the same rows -/
def sameB : List Cho → List Cho → Bool
  | [], [] => true
  | x :: t, y :: s => eqC x y && sameB t s
  | _, _ => false
theorem sameB_iff : ∀ a b : List Cho, sameB a b = true ↔ a = b
  | [], [] => by simp [sameB]
  | [], _ :: _ => by simp [sameB]
  | _ :: _, [] => by simp [sameB]
  | x :: t, y :: s => by simp [sameB, eqC_iff, sameB_iff t s]
theorem same_loop (a b : List Cho) (hl : a.length = b.length) (hM : a.length ≤ maxLen) : ∀ n i, n = a.length - i → i ≤ a.length → Ev (fun k => Qsbase.dispatcherref20_SameChoices.l0 k a b (i : Int)) (sameB (a.drop i) (b.drop i)) := by
  have hM' : maxLen = 9223372036854775807 := rfl
  intro n
  induction n with
  | zero =>
    intro i hn hi
    refine Ev.round ?_ (fun k => by simp only [Qsbase.dispatcherref20_SameChoices.l0]; rfl)
    refine Ev.neg (by omega) ?_
    refine Ev.const ?_
    rw [List.drop_eq_nil_of_le (by omega), List.drop_eq_nil_of_le (by omega)]
    rfl
  | succ n ih =>
    intro i hn hi
    have hlt : i < a.length := by omega
    have hlt' : i < b.length := by omega
    refine Ev.round ?_ (fun k => by simp only [Qsbase.dispatcherref20_SameChoices.l0]; rfl)
    refine Ev.pos (by omega) ?_
    refine Ev.pos (by omega) ?_
    refine Ev.pos (by omega) ?_
    rw [drop_cons hlt, drop_cons hlt', rd_ch hlt, rd_ch hlt']
    unfold sameB
    refine Ev.ite (fun h => ?_) (fun h => ?_)
    · rw [show eqC a[i] b[i] = false by
        cases he : eqC a[i] b[i] with
        | false => rfl
        | true =>
          exfalso
          have he := eqC_iff.1 he
          rw [he] at h
          simp at h]
      exact Ev.const rfl
    · rw [show eqC a[i] b[i] = true by
        unfold eqC
        simp only [Bool.or_eq_true, Bool.not_eq_true', not_or, Bool.not_eq_false] at h
        obtain ⟨h0, h1, h2, h3, h4⟩ := h
        simp [h0, h1, h2, h3, h4], wrap64_nat i (by omega)]
      exact ih (i + 1) (by omega) (by omega)
theorem same_ev (a b : List Cho) (hM : a.length ≤ maxLen) : ∃ k, Qsbase.dispatcherref20_SameChoices.f k a b = some (sameB a b) := by
  by_cases hl : a.length = b.length
  · obtain ⟨K, h⟩ := same_loop a b hl hM a.length 0 (by omega) (by omega)
    refine ⟨K, ?_⟩
    unfold Qsbase.dispatcherref20_SameChoices.f
    rw [if_pos (by omega)]
    exact h K (Nat.le_refl _)
  · refine ⟨0, ?_⟩
    unfold Qsbase.dispatcherref20_SameChoices.f
    rw [if_neg (by omega)]
    rw [show sameB a b = false by
      cases h : sameB a b with
      | false => rfl
      | true => exact absurd (congrArg List.length ((sameB_iff a b).1 h)) hl]
theorem same_c (A0 : Option Addr) (c0 : Nat) (a : List Cho) (A1 : Option Addr) (c1 : Nat) (b : List Cho) (w : World) (h0 : Kd.C k24 w A0 a.length a) (hc0 : a.length ≤ c0) (h1 : Kd.C k24 w A1 b.length b) (hc1 : b.length ≤ c1) :
    Calls Try.prog 19 #[.slice A0 a.length c0, .slice A1 b.length c1] w fun e w' => e = .returned (.bool (sameB a b)) ∧ Below w.heap.size w w' := by
  obtain ⟨k, h⟩ := same_ev a b (Kd.C_max h0)
  exact (Qsbase.dispatcherref20_SameChoices.calls k A0 c0 a A1 c1 b _ w h0 hc0 h1 hc1 h).mono fun e w' ⟨he, hd⟩ => ⟨he, hd.below⟩
/-- a row that may be, but for its last one -/
theorem may_take {a : List Cho} (h : mayL a = true) (k : Nat) : mayL (a.take k) = true := by
  rw [mayL_iff] at *
  exact ⟨fun x hx => h.1 x (List.mem_of_mem_take hx), h.2.sublist (List.take_sublist _ _)⟩
theorem within_take {a : List Cho} (h : mayL a = true) (k : Nat) : withinB (a.take k) a = true := by
  unfold withinB
  rw [may_take h k, h]
  simp only [Bool.and_self, Bool.true_and, Bool.not_eq_true', List.any_eq_false]
  intro x hx
  simp only [Bool.not_eq_true, Bool.not_eq_false']
  intro hall
  have hc := hall x (List.mem_of_mem_take hx)
  rw [eqC_self] at hc
  cases hc
end Go.Proofs.Ytpkcnifchggbnaa.HI
