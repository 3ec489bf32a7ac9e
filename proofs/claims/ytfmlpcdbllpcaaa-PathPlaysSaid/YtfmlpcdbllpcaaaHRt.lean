/-
  MERGED (by wip/merge.py) of HR HRs HRa.
-/
import Derived.Test.YtfmlpcdbllpcaaaHW
import Derived.ProofKit
import Derived.OpenShut
import Derived.ShutString
import Derived.ChangeOld
import Derived.SizedLaws
import Derived.Lib.SmallJoins
import Derived.Deep.Slices
import Derived.Test.YtfmlpcdbllpcaaaHK
import Derived.Deep.Strs
-- ROWS BY HAND: how an argument's reading, of slices of structs and the like, comes to the print's own word 'Kd.C'. No program is in sight.
namespace Go.Proofs.Ytfmlpcdbllpcaaa.HR
open Go.RowKit Go.Joins Go.ChangeShapes Go.WideShapes Go.Deep Go.Proofs.YtfmlpcdbllpcaaaW.PrintWords Go.Proofs.YtfmlpcdbllpcaaaW.PrintLast Go.Proofs.YtfmlpcdbllpcaaaW.PrintMore
set_option linter.unusedVariables false
section
variable {H : Type} {enc : TypeId × Value → H} {P : Program} {w : World} {sp : Nat → Bool} {held : Bool}
theorem choose_below {α : Type} {p : Nat → α → Prop} : ∀ m, (∀ i, i < m → ∃ x, p i x) → ∃ xs : List α, xs.length = m ∧ ∀ i x, xs[i]? = some x → p i x
  | 0, _ => ⟨[], rfl, fun i x h => by simp at h⟩
  | m + 1, h => by
    obtain ⟨xs, hl, hx⟩ := choose_below m (fun i hi => h i (by omega))
    obtain ⟨x, hp⟩ := h m (by omega)
    refine ⟨xs ++ [x], by simp [hl], fun i y hy => ?_⟩
    by_cases hi : i < m
    · rw [List.getElem?_append_left (by omega)] at hy
      exact hx i y hy
    · rw [List.getElem?_append_right (by omega), hl] at hy
      have : i - m = 0 := by
        cases h : i - m with
        | zero => rfl
        | succ n => rw [h] at hy; simp at hy
      obtain rfl : i = m := by omega
      simp at hy
      exact hy ▸ hp
/-- A SLICE'S READING IS A ROW OF ITS ELEMENTS' KIND. -/
theorem open_kd {α : Type} (d : Kd α) {t e : TypeId} (ht : P.underlying t = some (.slice e)) (hsz : P.cellsOf e = d.sz)
    (hel : ∀ n cs y, cs.length = d.sz → DataW.trod enc P w 0 sp held n e cs = some y → ∃ x, d.K w x cs)
    {fuel : Nat} {v : Value} {x : DataW H × List MemPlace} (h : DataW.trod enc P w 0 sp held fuel t [v] = some x) :
    ∃ A c xs, v = .slice A xs.length c ∧ xs.length ≤ c ∧ d.C w A xs.length xs := by
  rcases open_slice ht h with ⟨hcs, _⟩ | ⟨a, len, cap, m, n, D, Pl, hcs, _, hl, hm, hmm, _, hx⟩
  · obtain rfl : v = .slice none 0 0 := by simpa using hcs
    exact ⟨none, 0, [], rfl, Nat.le_refl _, rfl, by simp, fun h => absurd h (by simp)⟩
  · obtain rfl : v = .slice (some a) len cap := by simpa using hcs
    have hlm : len ≤ m := by rw [hmm]; split <;> omega
    obtain ⟨xs, hxl, hxs⟩ := choose_below (p := fun i x => ∃ c, c.length = d.sz ∧ d.K w x c ∧ ∀ j u, c[j]? = some u → w.cell? (a.add (i * d.sz + j)) = some u) len (fun i hi => by
      obtain ⟨cs', h1, h2⟩ := hx i (by omega)
      obtain ⟨_, hlen, hc⟩ := World.cells?_some h1
      obtain ⟨x, hK⟩ := hel n cs' _ (by omega) h2
      refine ⟨x, cs', by omega, hK, fun j u hu => ?_⟩
      have hj : j < cs'.length := by
        rcases Nat.lt_or_ge j cs'.length with h | h
        · exact h
        · rw [List.getElem?_eq_none h] at hu; exact absurd hu (by simp)
      have := hc j (by omega)
      rw [hsz] at this
      rw [← hu, ← this]
      rw [Addr.add_add])
    have hmx : maxLen = 9223372036854775807 := rfl
    subst hxl
    exact ⟨some a, cap, xs, rfl, hl, rfl, by omega, fun _ => ⟨a, rfl, fun j p hp => hxs j p hp⟩⟩
end
end Go.Proofs.Ytfmlpcdbllpcaaa.HR

-- ROWS BY HAND (2): an argument []api.Choice, as a row of the print's own kind.
namespace Go.Proofs.Ytfmlpcdbllpcaaa.HR
open Go.RowKit Go.Joins Go.ChangeShapes Go.WideShapes Go.Deep Go.Proofs.Ytfmlpcdbllpcaaa.HK Go.Proofs.YtfmlpcdbllpcaaaW.PrintWords Go.Proofs.YtfmlpcdbllpcaaaW.PrintLast Go.Proofs.YtfmlpcdbllpcaaaW.PrintMore
set_option linter.unusedVariables false
section
variable {H : Type} {enc : TypeId × Value → H} {w : World} {sp : Nat → Bool} {held : Bool}
/-- a struct of five whole numbers, read -/
theorem trod_five {P : Program} {t ti : TypeId} {f0 f1 f2 f3 f4 : Field} (hs : P.underlying t = some (.struct #[f0, f1, f2, f3, f4])) (hi : P.underlying ti = some (.int .i64))
    (h0 : f0.type = ti ∧ f0.offset = 0) (h1 : f1.type = ti ∧ f1.offset = 1) (h2 : f2.type = ti ∧ f2.offset = 2) (h3 : f3.type = ti ∧ f3.offset = 3) (h4 : f4.type = ti ∧ f4.offset = 4) (hc : P.cellsOf ti = 1)
    {n : Nat} {cs : List Value} {y : DataW H × List MemPlace} (hl : cs.length = 5) (h : DataW.trod enc P w 0 sp held n t cs = some y) :
    ∃ a b c d e : Int, cs = [.int .i64 a, .int .i64 b, .int .i64 c, .int .i64 d, .int .i64 e] := by
  obtain ⟨xs, n, _, _, _, hlen, hg⟩ := DataW.trod_struct hs h
  match cs, hl with
  | [v0, v1, v2, v3, v4], _ =>
    match xs, hlen with
    | [y0, y1, y2, y3, y4], _ =>
      have g0 : DataW.trod enc P w 0 sp held n ti [v0] = some y0 := by simpa [h0.1, h0.2, hc] using hg 0 f0 rfl
      have g1 : DataW.trod enc P w 0 sp held n ti [v1] = some y1 := by simpa [h1.1, h1.2, hc] using hg 1 f1 rfl
      have g2 : DataW.trod enc P w 0 sp held n ti [v2] = some y2 := by simpa [h2.1, h2.2, hc] using hg 2 f2 rfl
      have g3 : DataW.trod enc P w 0 sp held n ti [v3] = some y3 := by simpa [h3.1, h3.2, hc] using hg 3 f3 rfl
      have g4 : DataW.trod enc P w 0 sp held n ti [v4] = some y4 := by simpa [h4.1, h4.2, hc] using hg 4 f4 rfl
      obtain ⟨a, e0, _⟩ := DataW.trod_int hi g0
      obtain ⟨b, e1, _⟩ := DataW.trod_int hi g1
      obtain ⟨c, e2, _⟩ := DataW.trod_int hi g2
      obtain ⟨d, e3, _⟩ := DataW.trod_int hi g3
      obtain ⟨e, e4, _⟩ := DataW.trod_int hi g4
      simp only [List.cons.injEq, and_true] at e0 e1 e2 e3 e4
      exact ⟨a, b, c, d, e, by rw [e0, e1, e2, e3, e4]⟩
theorem cells_int : Try.prog.cellsOf 3 = 1 := by kernel_rfl
theorem cells_choice : Try.prog.cellsOf 43 = 5 := by kernel_rfl
theorem open_choices {a : Option Addr} {len cap : Nat} {d : DataW H} {p : List MemPlace} (h : DataW.Trod enc Try.prog w 0 sp held 32 (.slice a len cap) d p) :
    ∃ xs : List S43, len = xs.length ∧ xs.length ≤ cap ∧ Kd.C k43 w a xs.length xs := by
  obtain ⟨fuel, hf⟩ := h
  have hf' : DataW.trod enc Try.prog w 0 sp held fuel 32 [.slice a len cap] = some (d, p) := hf
  obtain ⟨A, c, xs, e, h1, h2⟩ := open_kd k43 Try.underlying32 cells_choice (fun n cs y hl hy => by
    obtain ⟨a, b, c, d, e, rfl⟩ := trod_five Try.underlying43 Try.underlying3 ⟨rfl, rfl⟩ ⟨rfl, rfl⟩ ⟨rfl, rfl⟩ ⟨rfl, rfl⟩ ⟨rfl, rfl⟩ cells_int (by exact hl) hy
    exact ⟨⟨a, b, c, d, e⟩, k43_mk w ⟨a, b, c, d, e⟩⟩) hf'
  injection e with e1 e2 e3
  subst e1 e2 e3
  exact ⟨xs, rfl, h1, h2⟩
end
end Go.Proofs.Ytfmlpcdbllpcaaa.HR

-- ROWS BY HAND (3): an argument []dispatcherlaw24.Act, as a row of the print's own kind.
namespace Go.Proofs.Ytfmlpcdbllpcaaa.HR
open Go.RowKit Go.Joins Go.ChangeShapes Go.WideShapes Go.Deep Go.Proofs.Ytfmlpcdbllpcaaa.HK Go.Proofs.YtfmlpcdbllpcaaaW.PrintWords Go.Proofs.YtfmlpcdbllpcaaaW.PrintLast Go.Proofs.YtfmlpcdbllpcaaaW.PrintMore
set_option linter.unusedVariables false
section
variable {H : Type} {enc : TypeId × Value → H} {w : World} {sp : Nat → Bool} {held : Bool}
theorem cells_point : Try.prog.cellsOf 34 = 3 := by kernel_rfl
theorem cells_act : Try.prog.cellsOf 36 = 5 := by kernel_rfl
theorem cells_u8 : Try.prog.cellsOf 5 = 1 := by kernel_rfl
theorem cells_bool : Try.prog.cellsOf 4 = 1 := by kernel_rfl
theorem cells_chs : Try.prog.cellsOf 32 = 1 := by kernel_rfl
theorem trod_point {n : Nat} {cs : List Value} {y : DataW H × List MemPlace} (hl : cs.length = 3) (h : DataW.trod enc Try.prog w 0 sp held n 34 cs = some y) :
    ∃ (r q : Int) (A : Option Addr) (c : Nat) (xs : List S43), cs = [.int .i64 r, .int .i64 q, .slice A xs.length c] ∧ xs.length ≤ c ∧ Kd.C k43 w A xs.length xs := by
  obtain ⟨ys, n, _, _, _, hlen, hg⟩ := DataW.trod_struct Try.underlying34 h
  match cs, hl with
  | [v0, v1, v2], _ =>
    match ys, hlen with
    | [y0, y1, y2], _ =>
      have g0 : DataW.trod enc Try.prog w 0 sp held n 3 [v0] = some y0 := by simpa [cells_int] using hg 0 _ rfl
      have g1 : DataW.trod enc Try.prog w 0 sp held n 3 [v1] = some y1 := by simpa [cells_int] using hg 1 _ rfl
      have g2 : DataW.trod enc Try.prog w 0 sp held n 32 [v2] = some y2 := by simpa [cells_chs] using hg 2 _ rfl
      obtain ⟨r, e0, _⟩ := DataW.trod_int Try.underlying3 g0
      obtain ⟨q, e1, _⟩ := DataW.trod_int Try.underlying3 g1
      obtain ⟨a, l, c, e2⟩ := slice_form Try.underlying32 g2
      simp only [List.cons.injEq, and_true] at e0 e1 e2
      subst e2
      obtain ⟨xs, rfl, hc, hr⟩ := open_choices (d := y2.1) (p := y2.2) ⟨n, g2⟩
      exact ⟨r, q, a, c, xs, by rw [e0, e1], hc, hr⟩
theorem trod_act {n : Nat} {cs : List Value} {y : DataW H × List MemPlace} (hl : cs.length = 5) (h : DataW.trod enc Try.prog w 0 sp held n 36 cs = some y) : ∃ x, k36.K w x cs := by
  obtain ⟨ys, n, _, _, _, hlen, hg⟩ := DataW.trod_struct Try.underlying36 h
  match cs, hl with
  | [v0, v1, v2, v3, v4], _ =>
    match ys, hlen with
    | [y0, y1, y2], _ =>
      have g0 : DataW.trod enc Try.prog w 0 sp held n 5 [v0] = some y0 := by simpa [cells_u8] using hg 0 _ rfl
      have g1 : DataW.trod enc Try.prog w 0 sp held n 34 [v1, v2, v3] = some y1 := by simpa [cells_point] using hg 1 _ rfl
      have g2 : DataW.trod enc Try.prog w 0 sp held n 4 [v4] = some y2 := by simpa [cells_bool] using hg 2 _ rfl
      obtain ⟨kd, e0, _⟩ := DataW.trod_int Try.underlying5 g0
      obtain ⟨r, q, A, c, xs, e1, hc, hr⟩ := trod_point rfl g1
      obtain ⟨off, e2, _⟩ := DataW.trod_bool Try.underlying4 g2
      simp only [List.cons.injEq, and_true] at e0 e1 e2
      obtain ⟨e1, e3, e4⟩ := e1
      subst e0 e1 e2 e3 e4
      exact ⟨⟨kd, ⟨r, q, xs⟩, off⟩, k36_mk w ⟨kd, ⟨r, q, xs⟩, off⟩ hc hr⟩
theorem open_acts {a : Option Addr} {len cap : Nat} {d : DataW H} {p : List MemPlace} (h : DataW.Trod enc Try.prog w 0 sp held 22 (.slice a len cap) d p) :
    ∃ xs : List S36, len = xs.length ∧ xs.length ≤ cap ∧ Kd.C k36 w a xs.length xs := by
  obtain ⟨fuel, hf⟩ := h
  have hf' : DataW.trod enc Try.prog w 0 sp held fuel 22 [.slice a len cap] = some (d, p) := hf
  obtain ⟨A, c, xs, e, h1, h2⟩ := open_kd k36 Try.underlying22 cells_act (fun n cs y hl hy => trod_act (by exact hl) hy) hf'
  injection e with e1 e2 e3
  subst e1 e2 e3
  exact ⟨xs, rfl, h1, h2⟩
end
end Go.Proofs.Ytfmlpcdbllpcaaa.HR
