/-
  ROWS BY HAND: how an argument's reading, of slices of structs and the like, comes to the print's own word 'Kd.C'. No program is in sight.
-/
import Derived.Test.YtpkcnifchggbnaaHW
import Derived.ProofKit
import Derived.OpenShut
import Derived.ShutString
import Derived.ChangeOld
import Derived.SizedLaws
import Derived.Lib.SmallJoins
import Derived.Deep.Slices
namespace Go.Proofs.Ytpkcnifchggbnaa.HR
open Go.RowKit Go.Joins Go.ChangeShapes Go.WideShapes Go.Deep Go.Proofs.YtpkcnifchggbnaaW.PrintWords Go.Proofs.YtpkcnifchggbnaaW.PrintLast Go.Proofs.YtpkcnifchggbnaaW.PrintMore
set_option linter.unusedVariables false
section
variable {H : Type} {enc : TypeId × Value → H} {P : Program} {w : World} {sp : Nat → Bool} {held : Bool}
theorem choose_below {α : Type} {p : Nat → α → Prop} : ∀ m, (∀ i, i < m → ∃ x, p i x) → ∃ xs : List α, xs.length = m ∧ ∀ i x, xs[i]? = some x → p i x
  | 0, _ => ⟨[], rfl, fun i x h => by simp at h⟩
  | m + 1, h => by
    obtain ⟨xs, hl, hx⟩ := choose_below m (fun i hi => h i (by omega))
    obtain ⟨x, hp⟩ := h m (by omega)
    refine ⟨xs ++ [x], by simp [hl], fun i y hy => ?_⟩
    by_cases hi : i < m
    · rw [List.getElem?_append_left (by omega)] at hy
      exact hx i y hy
    · rw [List.getElem?_append_right (by omega), hl] at hy
      have : i - m = 0 := by
        cases h : i - m with
        | zero => rfl
        | succ n => rw [h] at hy; simp at hy
      obtain rfl : i = m := by omega
      simp at hy
      exact hy ▸ hp
/-- A SLICE'S READING IS A ROW OF ITS ELEMENTS' KIND. -/
theorem open_kd {α : Type} (d : Kd α) {t e : TypeId} (ht : P.underlying t = some (.slice e)) (hsz : P.cellsOf e = d.sz)
    (hel : ∀ n cs y, cs.length = d.sz → DataW.trod enc P w 0 sp held n e cs = some y → ∃ x, d.K w x cs)
    {fuel : Nat} {v : Value} {x : DataW H × List MemPlace} (h : DataW.trod enc P w 0 sp held fuel t [v] = some x) :
    ∃ A c xs, v = .slice A xs.length c ∧ xs.length ≤ c ∧ d.C w A xs.length xs := by
  rcases open_slice ht h with ⟨hcs, _⟩ | ⟨a, len, cap, m, n, D, Pl, hcs, _, hl, hm, hmm, _, hx⟩
  · obtain rfl : v = .slice none 0 0 := by simpa using hcs
    exact ⟨none, 0, [], rfl, Nat.le_refl _, rfl, by simp, fun h => absurd h (by simp)⟩
  · obtain rfl : v = .slice (some a) len cap := by simpa using hcs
    have hlm : len ≤ m := by rw [hmm]; split <;> omega
    obtain ⟨xs, hxl, hxs⟩ := choose_below (p := fun i x => ∃ c, c.length = d.sz ∧ d.K w x c ∧ ∀ j u, c[j]? = some u → w.cell? (a.add (i * d.sz + j)) = some u) len (fun i hi => by
      obtain ⟨cs', h1, h2⟩ := hx i (by omega)
      obtain ⟨_, hlen, hc⟩ := World.cells?_some h1
      obtain ⟨x, hK⟩ := hel n cs' _ (by omega) h2
      refine ⟨x, cs', by omega, hK, fun j u hu => ?_⟩
      have hj : j < cs'.length := by
        rcases Nat.lt_or_ge j cs'.length with h | h
        · exact h
        · rw [List.getElem?_eq_none h] at hu; exact absurd hu (by simp)
      have := hc j (by omega)
      rw [hsz] at this
      rw [← hu, ← this]
      rw [Addr.add_add])
    have hmx : maxLen = 9223372036854775807 := rfl
    subst hxl
    exact ⟨some a, cap, xs, rfl, hl, rfl, by omega, fun _ => ⟨a, rfl, fun j p hp => hxs j p hp⟩⟩
end
end Go.Proofs.Ytpkcnifchggbnaa.HR
