/-
  ROWS BY HAND (door seat 23D): a parameter []uint8, with the numbers' range.
-/
import Derived.Test.YtpkcnifchggbnaaDoorHR
import Derived.Test.YtpkcnifchggbnaaDoorSpA
namespace Go.Proofs.YtpkcnifchggbnaaDoor.HR
open Go.RowKit Go.Joins Go.ChangeShapes Go.WideShapes Go.Deep Go.Proofs.YtpkcnifchggbnaaDoor.HK Go.Proofs.YtpkcnifchggbnaaDoorW.PrintWords Go.Proofs.YtpkcnifchggbnaaDoorW.PrintLast Go.Proofs.YtpkcnifchggbnaaDoorW.PrintMore
set_option linter.unusedVariables false
section
variable {H : Type} {enc : TypeId × Value → H} {w : World} {sp : Nat → Bool} {held : Bool}
theorem open_kdP {α : Type} {P : Program} (d : Kd α) (p : α → Prop) {t e : TypeId} (ht : P.underlying t = some (.slice e)) (hsz : P.cellsOf e = d.sz)
    (hel : ∀ n cs y, cs.length = d.sz → DataW.trod enc P w 0 sp held n e cs = some y → ∃ x, d.K w x cs ∧ p x)
    {fuel : Nat} {v : Value} {x : DataW H × List MemPlace} (h : DataW.trod enc P w 0 sp held fuel t [v] = some x) :
    ∃ A c xs, v = .slice A xs.length c ∧ xs.length ≤ c ∧ d.C w A xs.length xs ∧ ∀ x ∈ xs, p x := by
  rcases open_slice ht h with ⟨hcs, _⟩ | ⟨a, len, cap, m, n, D, Pl, hcs, _, hl, hm, hmm, _, hx⟩
  · obtain rfl : v = .slice none 0 0 := by simpa using hcs
    exact ⟨none, 0, [], rfl, Nat.le_refl _, ⟨rfl, by simp, fun h => absurd h (by simp)⟩, by simp⟩
  · obtain rfl : v = .slice (some a) len cap := by simpa using hcs
    have hlm : len ≤ m := by rw [hmm]; split <;> omega
    obtain ⟨xs, hxl, hxs⟩ := choose_below (p := fun i x => (∃ c, c.length = d.sz ∧ d.K w x c ∧ ∀ j u, c[j]? = some u → w.cell? (a.add (i * d.sz + j)) = some u) ∧ p x) len (fun i hi => by
      obtain ⟨cs', h1, h2⟩ := hx i (by omega)
      obtain ⟨_, hlen, hc⟩ := World.cells?_some h1
      obtain ⟨x, hK, hp⟩ := hel n cs' _ (by omega) h2
      refine ⟨x, ⟨cs', by omega, hK, fun j u hu => ?_⟩, hp⟩
      have hj : j < cs'.length := by
        rcases Nat.lt_or_ge j cs'.length with h | h
        · exact h
        · rw [List.getElem?_eq_none h] at hu; exact absurd hu (by simp)
      have := hc j (by omega)
      rw [hsz] at this
      rw [← hu, ← this]
      rw [Addr.add_add])
    have hmx : maxLen = 9223372036854775807 := rfl
    subst hxl
    refine ⟨some a, cap, xs, rfl, hl, ⟨rfl, by omega, fun _ => ⟨a, rfl, fun j p hj => (hxs j p hj).1⟩⟩, fun x hx => ?_⟩
    obtain ⟨i, hi, rfl⟩ := List.getElem_of_mem hx
    exact (hxs i _ (List.getElem?_eq_getElem hi)).2
theorem cells_u8 : Tryd.prog.cellsOf 5 = 1 := by kernel_rfl
theorem open_u8 {a : Option Addr} {len cap : Nat} {d : DataW H} {p : List MemPlace} (h : DataW.Trod enc Tryd.prog w 0 sp held 38 (.slice a len cap) d p) :
    ∃ xs : List Int, len = xs.length ∧ xs.length ≤ cap ∧ Kd.C (Kd.int .u8) w a xs.length xs ∧ ∀ x ∈ xs, (0 ≤ x ∧ x ≤ 255) := by
  obtain ⟨fuel, hf⟩ := h
  have hf' : DataW.trod enc Tryd.prog w 0 sp held fuel 38 [.slice a len cap] = some (d, p) := hf
  obtain ⟨A, c, xs, e, h1, h2, h3⟩ := open_kdP (Kd.int .u8) (fun x => 0 ≤ x ∧ x ≤ 255) Tryd.underlying38 cells_u8 (fun n cs y hl hy => by
    obtain ⟨b, e1, _, r⟩ := DataW.trod_int Tryd.underlying5 hy
    refine ⟨b, e1, ?_⟩
    simp only [Lit.wf, Bool.and_eq_true, decide_eq_true_eq] at r
    exact ⟨r.1, r.2⟩) hf'
  injection e with e1 e2 e3
  subst e1 e2 e3
  exact ⟨xs, rfl, h1, h2, h3⟩
end
end Go.Proofs.YtpkcnifchggbnaaDoor.HR
