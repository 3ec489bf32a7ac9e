/-
  ROWS BY HAND (groups): an argument []dispatcherlaw11.Act, a group, as the print's own words have them. No program is in sight.
-/
import Derived.Test.YtkifmhfgplhabaaHR
import Derived.Test.YtkifmhfgplhabaaHK
import Derived.Deep.Strs
namespace Go.Proofs.Ytkifmhfgplhabaa.HR
open Go.RowKit Go.Joins Go.ChangeShapes Go.WideShapes Go.Deep Go.Proofs.Ytkifmhfgplhabaa.HK Go.Proofs.YtkifmhfgplhabaaW.PrintWords Go.Proofs.YtkifmhfgplhabaaW.PrintLast Go.Proofs.YtkifmhfgplhabaaW.PrintMore
set_option linter.unusedVariables false
section
variable {H : Type} {enc : TypeId × Value → H} {w : World} {sp : Nat → Bool} {held : Bool}
theorem cells_int : Try.prog.cellsOf 3 = 1 := by kernel_rfl
theorem cells_str : Try.prog.cellsOf 9 = 1 := by kernel_rfl
theorem cells_ints : Try.prog.cellsOf 22 = 1 := by kernel_rfl
theorem cells_u8 : Try.prog.cellsOf 5 = 1 := by kernel_rfl
theorem cells_group : Try.prog.cellsOf 24 = 2 := by kernel_rfl
theorem cells_act : Try.prog.cellsOf 47 = 4 := by kernel_rfl
theorem open_ints_kd {n : Nat} {v : Value} {y : DataW H × List MemPlace} (h : DataW.trod enc Try.prog w 0 sp held n 22 [v] = some y) :
    ∃ A c xs, v = .slice A xs.length c ∧ xs.length ≤ c ∧ Kd.C (Kd.int .i64) w A xs.length xs :=
  open_kd (Kd.int .i64) Try.underlying22 cells_int (fun n cs y hl hy => by
    match cs, hl with
    | [u], _ =>
      obtain ⟨a, e, _⟩ := DataW.trod_int Try.underlying3 hy
      exact ⟨a, by rw [e]; rfl⟩) h
theorem trod_group {n : Nat} {cs : List Value} {y : DataW H × List MemPlace} (hl : cs.length = 2) (h : DataW.trod enc Try.prog w 0 sp held n 24 cs = some y) :
    ∃ (s : ByteArray) (A : Option Addr) (c : Nat) (xs : List Int), cs = [.string s, .slice A xs.length c] ∧ xs.length ≤ c ∧ Kd.C (Kd.int .i64) w A xs.length xs := by
  obtain ⟨ys, n, _, _, _, hlen, hg⟩ := DataW.trod_struct Try.underlying24 h
  match cs, hl with
  | [v0, v1], _ =>
    match ys, hlen with
    | [y0, y1], _ =>
      have g0 : DataW.trod enc Try.prog w 0 sp held n 9 [v0] = some y0 := by simpa [cells_str] using hg 0 _ rfl
      have g1 : DataW.trod enc Try.prog w 0 sp held n 22 [v1] = some y1 := by simpa [cells_ints] using hg 1 _ rfl
      obtain ⟨s, e0, _⟩ := DataW.trod_string Try.underlying9 g0
      obtain ⟨A, c, xs, rfl, hc, hr⟩ := open_ints_kd g1
      simp only [List.cons.injEq, and_true] at e0
      exact ⟨s, A, c, xs, by rw [e0], hc, hr⟩
theorem trod_act {n : Nat} {cs : List Value} {y : DataW H × List MemPlace} (hl : cs.length = 4) (h : DataW.trod enc Try.prog w 0 sp held n 47 cs = some y) : ∃ x, k47.K w x cs := by
  obtain ⟨ys, n, _, _, _, hlen, hg⟩ := DataW.trod_struct Try.underlying47 h
  match cs, hl with
  | [v0, v1, v2, v3], _ =>
    match ys, hlen with
    | [y0, y1, y2], _ =>
      have g0 : DataW.trod enc Try.prog w 0 sp held n 5 [v0] = some y0 := by simpa [cells_u8] using hg 0 _ rfl
      have g1 : DataW.trod enc Try.prog w 0 sp held n 3 [v1] = some y1 := by simpa [cells_int] using hg 1 _ rfl
      have g2 : DataW.trod enc Try.prog w 0 sp held n 24 [v2, v3] = some y2 := by simpa [cells_group] using hg 2 _ rfl
      obtain ⟨kd, e0, _⟩ := DataW.trod_int Try.underlying5 g0
      obtain ⟨hd, e1, _⟩ := DataW.trod_int Try.underlying3 g1
      obtain ⟨s, A, c, xs, e2, hc, hr⟩ := trod_group rfl g2
      simp only [List.cons.injEq, and_true] at e0 e1 e2
      obtain ⟨e2, e3⟩ := e2
      subst e0 e1 e2 e3
      exact ⟨⟨kd, hd, ⟨s, xs⟩⟩, k47_mk w ⟨kd, hd, ⟨s, xs⟩⟩ hc hr⟩
theorem open_acts {a : Option Addr} {len cap : Nat} {d : DataW H} {p : List MemPlace} (h : DataW.Trod enc Try.prog w 0 sp held 40 (.slice a len cap) d p) :
    ∃ xs : List S47, len = xs.length ∧ xs.length ≤ cap ∧ Kd.C k47 w a xs.length xs := by
  obtain ⟨fuel, hf⟩ := h
  have hf' : DataW.trod enc Try.prog w 0 sp held fuel 40 [.slice a len cap] = some (d, p) := hf
  obtain ⟨A, c, xs, e, h1, h2⟩ := open_kd k47 Try.underlying40 cells_act (fun n cs y hl hy => trod_act (by exact hl) hy) hf'
  injection e with e1 e2 e3
  subst e1 e2 e3
  exact ⟨xs, rfl, h1, h2⟩
end
end Go.Proofs.Ytkifmhfgplhabaa.HR
