/-
  ROWS BY HAND (orders): an argument []order.Event, []int, as the print's own words have them. No program is in sight.
-/
import Derived.Test.YtnblmjkaieibhaaHR
import Derived.Test.YtnblmjkaieibhaaHK
import Derived.Deep.Strs
namespace Go.Proofs.Ytnblmjkaieibhaa.HR
open Go.RowKit Go.Joins Go.ChangeShapes Go.WideShapes Go.Deep Go.Proofs.Ytnblmjkaieibhaa.HK Go.Proofs.YtnblmjkaieibhaaW.PrintWords Go.Proofs.YtnblmjkaieibhaaW.PrintLast Go.Proofs.YtnblmjkaieibhaaW.PrintMore
set_option linter.unusedVariables false
section
variable {H : Type} {enc : TypeId × Value → H} {w : World} {sp : Nat → Bool} {held : Bool}
theorem cells_int : Try.prog.cellsOf 3 = 1 := by kernel_rfl
theorem cells_ints : Try.prog.cellsOf 28 = 1 := by kernel_rfl
theorem cells_ev : Try.prog.cellsOf 56 = 2 := by kernel_rfl
theorem open_ints_kd {n : Nat} {v : Value} {y : DataW H × List MemPlace} (h : DataW.trod enc Try.prog w 0 sp held n 28 [v] = some y) :
    ∃ A c xs, v = .slice A xs.length c ∧ xs.length ≤ c ∧ Kd.C (Kd.int .i64) w A xs.length xs :=
  open_kd (Kd.int .i64) Try.underlying28 cells_int (fun n cs y hl hy => by
    match cs, hl with
    | [u], _ =>
      obtain ⟨a, e, _⟩ := DataW.trod_int Try.underlying3 hy
      exact ⟨a, by rw [e]; rfl⟩) h
theorem trod_ev {n : Nat} {cs : List Value} {y : DataW H × List MemPlace} (hl : cs.length = 2) (h : DataW.trod enc Try.prog w 0 sp held n 56 cs = some y) : ∃ x, k56.K w x cs := by
  obtain ⟨ys, n, _, _, _, hlen, hg⟩ := DataW.trod_struct Try.underlying56 h
  match cs, hl with
  | [v0, v1], _ =>
    match ys, hlen with
    | [y0, y1], _ =>
      have g0 : DataW.trod enc Try.prog w 0 sp held n 3 [v0] = some y0 := by simpa [cells_int] using hg 0 _ rfl
      have g1 : DataW.trod enc Try.prog w 0 sp held n 28 [v1] = some y1 := by simpa [cells_ints] using hg 1 _ rfl
      obtain ⟨r, e0, _⟩ := DataW.trod_int Try.underlying3 g0
      obtain ⟨A, c, xs, rfl, hc, hr⟩ := open_ints_kd g1
      simp only [List.cons.injEq, and_true] at e0
      subst e0
      exact ⟨⟨r, xs⟩, k56_mk w ⟨r, xs⟩ hc hr⟩
theorem open_events {a : Option Addr} {len cap : Nat} {d : DataW H} {p : List MemPlace} (h : DataW.Trod enc Try.prog w 0 sp held 22 (.slice a len cap) d p) :
    ∃ xs : List S56, len = xs.length ∧ xs.length ≤ cap ∧ Kd.C k56 w a xs.length xs := by
  obtain ⟨fuel, hf⟩ := h
  have hf' : DataW.trod enc Try.prog w 0 sp held fuel 22 [.slice a len cap] = some (d, p) := hf
  obtain ⟨A, c, xs, e, h1, h2⟩ := open_kd k56 Try.underlying22 cells_ev (fun n cs y hl hy => trod_ev (by exact hl) hy) hf'
  injection e with e1 e2 e3
  subst e1 e2 e3
  exact ⟨xs, rfl, h1, h2⟩
theorem open_row {a : Option Addr} {len cap : Nat} {d : DataW H} {p : List MemPlace} (h : DataW.Trod enc Try.prog w 0 sp held 28 (.slice a len cap) d p) :
    ∃ xs : List Int, len = xs.length ∧ xs.length ≤ cap ∧ Kd.C (Kd.int .i64) w a xs.length xs := by
  obtain ⟨fuel, hf⟩ := h
  obtain ⟨A, c, xs, e, h1, h2⟩ := open_ints_kd (show DataW.trod enc Try.prog w 0 sp held fuel 28 [.slice a len cap] = some (d, p) from hf)
  injection e with e1 e2 e3
  subst e1 e2 e3
  exact ⟨xs, rfl, h1, h2⟩
end
end Go.Proofs.Ytnblmjkaieibhaa.HR
