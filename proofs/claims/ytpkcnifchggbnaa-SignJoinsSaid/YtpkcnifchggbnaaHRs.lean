/-
  ROWS BY HAND (2): an argument []api.Choice, as a row of the print's own kind. 
-/
import Derived.Test.YtpkcnifchggbnaaHR
import Derived.Test.YtpkcnifchggbnaaHK
namespace Go.Proofs.Ytpkcnifchggbnaa.HR
open Go.RowKit Go.Joins Go.ChangeShapes Go.WideShapes Go.Deep Go.Proofs.Ytpkcnifchggbnaa.HK Go.Proofs.YtpkcnifchggbnaaW.PrintWords Go.Proofs.YtpkcnifchggbnaaW.PrintLast Go.Proofs.YtpkcnifchggbnaaW.PrintMore
set_option linter.unusedVariables false
section
variable {H : Type} {enc : TypeId × Value → H} {w : World} {sp : Nat → Bool} {held : Bool}
/-- a struct of five whole numbers, read -/
theorem trod_five {P : Program} {t ti : TypeId} {f0 f1 f2 f3 f4 : Field} (hs : P.underlying t = some (.struct #[f0, f1, f2, f3, f4])) (hi : P.underlying ti = some (.int .i64))
    (h0 : f0.type = ti ∧ f0.offset = 0) (h1 : f1.type = ti ∧ f1.offset = 1) (h2 : f2.type = ti ∧ f2.offset = 2) (h3 : f3.type = ti ∧ f3.offset = 3) (h4 : f4.type = ti ∧ f4.offset = 4) (hc : P.cellsOf ti = 1)
    {n : Nat} {cs : List Value} {y : DataW H × List MemPlace} (hl : cs.length = 5) (h : DataW.trod enc P w 0 sp held n t cs = some y) :
    ∃ a b c d e : Int, cs = [.int .i64 a, .int .i64 b, .int .i64 c, .int .i64 d, .int .i64 e] := by
  obtain ⟨xs, n, _, _, _, hlen, hg⟩ := DataW.trod_struct hs h
  match cs, hl with
  | [v0, v1, v2, v3, v4], _ =>
    match xs, hlen with
    | [y0, y1, y2, y3, y4], _ =>
      have g0 : DataW.trod enc P w 0 sp held n ti [v0] = some y0 := by simpa [h0.1, h0.2, hc] using hg 0 f0 rfl
      have g1 : DataW.trod enc P w 0 sp held n ti [v1] = some y1 := by simpa [h1.1, h1.2, hc] using hg 1 f1 rfl
      have g2 : DataW.trod enc P w 0 sp held n ti [v2] = some y2 := by simpa [h2.1, h2.2, hc] using hg 2 f2 rfl
      have g3 : DataW.trod enc P w 0 sp held n ti [v3] = some y3 := by simpa [h3.1, h3.2, hc] using hg 3 f3 rfl
      have g4 : DataW.trod enc P w 0 sp held n ti [v4] = some y4 := by simpa [h4.1, h4.2, hc] using hg 4 f4 rfl
      obtain ⟨a, e0, _⟩ := DataW.trod_int hi g0
      obtain ⟨b, e1, _⟩ := DataW.trod_int hi g1
      obtain ⟨c, e2, _⟩ := DataW.trod_int hi g2
      obtain ⟨d, e3, _⟩ := DataW.trod_int hi g3
      obtain ⟨e, e4, _⟩ := DataW.trod_int hi g4
      simp only [List.cons.injEq, and_true] at e0 e1 e2 e3 e4
      exact ⟨a, b, c, d, e, by rw [e0, e1, e2, e3, e4]⟩
theorem cells_int : Try.prog.cellsOf 3 = 1 := by kernel_rfl
theorem cells_choice : Try.prog.cellsOf 24 = 5 := by kernel_rfl
theorem open_choices {a : Option Addr} {len cap : Nat} {d : DataW H} {p : List MemPlace} (h : DataW.Trod enc Try.prog w 0 sp held 22 (.slice a len cap) d p) :
    ∃ xs : List S24, len = xs.length ∧ xs.length ≤ cap ∧ Kd.C k24 w a xs.length xs := by
  obtain ⟨fuel, hf⟩ := h
  have hf' : DataW.trod enc Try.prog w 0 sp held fuel 22 [.slice a len cap] = some (d, p) := hf
  obtain ⟨A, c, xs, e, h1, h2⟩ := open_kd k24 Try.underlying22 cells_choice (fun n cs y hl hy => by
    obtain ⟨a, b, c, d, e, rfl⟩ := trod_five Try.underlying24 Try.underlying3 ⟨rfl, rfl⟩ ⟨rfl, rfl⟩ ⟨rfl, rfl⟩ ⟨rfl, rfl⟩ ⟨rfl, rfl⟩ cells_int (by exact hl) hy
    exact ⟨⟨a, b, c, d, e⟩, k24_mk w ⟨a, b, c, d, e⟩⟩) hf'
  injection e with e1 e2 e3
  subst e1 e2 e3
  exact ⟨xs, rfl, h1, h2⟩
end
end Go.Proofs.Ytpkcnifchggbnaa.HR
