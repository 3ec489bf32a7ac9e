/-
  CONTRACTS BY HAND (sign, 28): rows that rise and hold the same are the same.
-/
import Derived.Test.YtpkcnifchggbnaaSpH
namespace Go.Proofs.Ytpkcnifchggbnaa.HI
open Go.RowKit Go.Proofs.Ytpkcnifchggbnaa.HD Go.Proofs.Ytpkcnifchggbnaa.HK Go.Proofs.Ytpkcnifchggbnaa.HU Go.Proofs.YtpkcnifchggbnaaW.PrintWords Go.Proofs.YtpkcnifchggbnaaW.PrintLast Go.Proofs.YtpkcnifchggbnaaW.PrintMore
set_option linter.unusedVariables false
theorem less_irr (x : Cho) : ¬ Less x x := by unfold Less; omega
theorem rise_same : ∀ a b : List Cho, a.Perm b → a.Pairwise Less → b.Pairwise Less → a = b
  | [], b, h, _, _ => (List.Perm.nil_eq h)
  | x :: t, [], h, _, _ => absurd h.length_eq (by simp)
  | x :: t, y :: s, h, ha, hb => by
    have hxy : x = y := by
      rcases List.mem_cons.1 (h.mem_iff.1 (List.mem_cons_self)) with e | hx
      · exact e
      · rcases List.mem_cons.1 (h.mem_iff.2 (List.mem_cons_self (a := y) (l := s))) with e | hy
        · exact e.symm
        · exact absurd ((List.pairwise_cons.1 hb).1 x hx |>.trans ((List.pairwise_cons.1 ha).1 y hy)) (less_irr y)
    subst hxy
    rw [rise_same t s (List.Perm.cons_inv h) (List.pairwise_cons.1 ha).2 (List.pairwise_cons.1 hb).2]
theorem has_no {l : List Cho} {x : Cho} (hl : l.Pairwise Less) (hn : ∀ y ∈ l, ¬ (y.f0 = x.f0 ∧ y.f1 = x.f1)) : bsHas l x = false := by
  cases hb : bsHas l x with
  | false => rfl
  | true =>
    have h := bs_find hl x
    rw [hb, if_pos rfl] at h
    obtain ⟨h1, h2, h3⟩ := findC_some h.symm
    exact absurd ⟨h2, h3⟩ (hn _ h1)
theorem put_new {l : List Cho} {x : Cho} (hl : mayL l = true) (hx : oneB x = true) (hn : ∀ y ∈ l, ¬ (y.f0 = x.f0 ∧ y.f1 = x.f1)) : putE l x = 0 ∧ mayL (putL l x) = true ∧ (putL l x).Perm (x :: l) := by
  have hs := (mayL_iff.1 hl).2
  have hok : putOk l x = true := by unfold putOk; rw [hl, hx, has_no hs hn]; rfl
  obtain ⟨h1, h2, h3⟩ := bsI_spec (x := x) hs
  have hp : (l.take (bsI l x) ++ x :: l.drop (bsI l x)).Perm (x :: l) := by
    have := List.perm_middle (a := x) (l₁ := l.take (bsI l x)) (l₂ := l.drop (bsI l x))
    rwa [List.take_append_drop] at this
  unfold putE putL
  rw [hok, if_pos rfl, if_pos rfl]
  refine ⟨rfl, ?_, hp⟩
  have ht : ∀ y ∈ l.take (bsI l x), Less y x := fun y hy => by
    obtain ⟨m, hm, rfl⟩ := List.mem_iff_getElem.1 hy
    rw [List.length_take] at hm
    have := h2 m (by omega)
    rw [rd_ch (by omega)] at this
    rwa [List.getElem_take]
  have hd : ∀ y ∈ l.drop (bsI l x), Less x y := fun y hy => by
    have hyl := List.mem_of_mem_drop hy
    obtain ⟨m, hm, rfl⟩ := List.mem_iff_getElem.1 hy
    rw [List.length_drop] at hm
    have h := h3 (bsI l x + m) (by omega) (by omega)
    rw [rd_ch (by omega)] at h
    rw [List.getElem_drop] at hyl ⊢
    rcases less_total x l[bsI l x + m] with k | k | k
    · exact k
    · exact absurd ⟨k.1.symm, k.2.symm⟩ (hn _ hyl)
    · exact absurd k h
  rw [mayL_iff]
  refine ⟨fun y hy => ?_, ?_⟩
  · rcases List.mem_cons.1 (hp.mem_iff.1 hy) with rfl | hy
    · exact hx
    · exact (mayL_iff.1 hl).1 y hy
  · rw [List.pairwise_append]
    refine ⟨hs.sublist (List.take_sublist _ _), List.pairwise_cons.2 ⟨hd, hs.sublist (List.drop_sublist _ _)⟩, fun a ha b hb => ?_⟩
    rcases List.mem_cons.1 hb with rfl | hb
    · exact ht a ha
    · exact (ht a ha).trans (hd b hb)
theorem has_yes {l : List Cho} {x : Cho} (hl : l.Pairwise Less) (hx : x ∈ l) : bsHas l x = true := by
  cases hb : bsHas l x with
  | true => rfl
  | false =>
    have h := bs_find hl x
    rw [hb, findC_of hl hx] at h
    cases h
theorem put_again {l : List Cho} {x : Cho} (hl : mayL l = true) (hx : x ∈ l) : putE l x = 2 ∧ putL l x = [] := by
  have : putOk l x = false := by unfold putOk; rw [has_yes (mayL_iff.1 hl).2 hx]; simp
  unfold putE putL
  rw [this]
  exact ⟨rfl, rfl⟩
theorem at_put {l : List Cho} {x : Cho} (hl : mayL l = true) (hx : x ∈ l) : atF l x.f0 x.f1 = (x, true) := by
  rw [atF_eq, findC_of (mayL_iff.1 hl).2 hx]
  rfl
end Go.Proofs.Ytpkcnifchggbnaa.HI
