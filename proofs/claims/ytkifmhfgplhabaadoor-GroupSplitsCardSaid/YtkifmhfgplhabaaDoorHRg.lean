/-
  ROWS BY HAND (groups): an argument []dispatcherlaw11.Act, a group, as the print's own words have them. No program is in sight.
-/
import Derived.Test.YtkifmhfgplhabaaDoorHR
import Derived.Test.YtkifmhfgplhabaaDoorHK
import Derived.Deep.Strs
namespace Go.Proofs.YtkifmhfgplhabaaDoor.HR
open Go.RowKit Go.Joins Go.ChangeShapes Go.WideShapes Go.Deep Go.Proofs.YtkifmhfgplhabaaDoor.HK Go.Proofs.YtkifmhfgplhabaaDoorW.PrintWords Go.Proofs.YtkifmhfgplhabaaDoorW.PrintLast Go.Proofs.YtkifmhfgplhabaaDoorW.PrintMore
set_option linter.unusedVariables false
section
variable {H : Type} {enc : TypeId × Value → H} {w : World} {sp : Nat → Bool} {held : Bool}
theorem cells_int : Tryd.prog.cellsOf 3 = 1 := by kernel_rfl
theorem cells_str : Tryd.prog.cellsOf 9 = 1 := by kernel_rfl
theorem cells_ints : Tryd.prog.cellsOf 22 = 1 := by kernel_rfl
theorem cells_u8 : Tryd.prog.cellsOf 5 = 1 := by kernel_rfl
theorem cells_group : Tryd.prog.cellsOf 24 = 2 := by kernel_rfl
theorem cells_act : Tryd.prog.cellsOf 55 = 4 := by kernel_rfl
theorem open_ints_kd {n : Nat} {v : Value} {y : DataW H × List MemPlace} (h : DataW.trod enc Tryd.prog w 0 sp held n 22 [v] = some y) :
    ∃ A c xs, v = .slice A xs.length c ∧ xs.length ≤ c ∧ Kd.C (Kd.int .i64) w A xs.length xs :=
  open_kd (Kd.int .i64) Tryd.underlying22 cells_int (fun n cs y hl hy => by
    match cs, hl with
    | [u], _ =>
      obtain ⟨a, e, _⟩ := DataW.trod_int Tryd.underlying3 hy
      exact ⟨a, by rw [e]; rfl⟩) h
set_option maxRecDepth 100000 in
theorem trod_group {n : Nat} {cs : List Value} {y : DataW H × List MemPlace} (hl : cs.length = 2) (h : DataW.trod enc Tryd.prog w 0 sp held n 24 cs = some y) :
    ∃ (s : ByteArray) (A : Option Addr) (c : Nat) (xs : List Int), cs = [.string s, .slice A xs.length c] ∧ xs.length ≤ c ∧ Kd.C (Kd.int .i64) w A xs.length xs := by
  obtain ⟨ys, n, _, _, _, hlen, hg⟩ := DataW.trod_struct Tryd.underlying24 h
  match cs, hl with
  | [v0, v1], _ =>
    match ys, hlen with
    | [y0, y1], _ =>
      have g0 : DataW.trod enc Tryd.prog w 0 sp held n 9 [v0] = some y0 := by simpa [cells_str] using hg 0 _ rfl
      have g1 : DataW.trod enc Tryd.prog w 0 sp held n 22 [v1] = some y1 := by simpa [cells_ints] using hg 1 _ rfl
      obtain ⟨s, e0, _⟩ := DataW.trod_string Tryd.underlying9 g0
      obtain ⟨A, c, xs, rfl, hc, hr⟩ := open_ints_kd g1
      simp only [List.cons.injEq, and_true] at e0
      exact ⟨s, A, c, xs, by rw [e0], hc, hr⟩
set_option maxRecDepth 100000 in
theorem trod_act {n : Nat} {cs : List Value} {y : DataW H × List MemPlace} (hl : cs.length = 4) (h : DataW.trod enc Tryd.prog w 0 sp held n 55 cs = some y) : ∃ x, k55.K w x cs := by
  obtain ⟨ys, n, _, _, _, hlen, hg⟩ := DataW.trod_struct Tryd.underlying55 h
  match cs, hl with
  | [v0, v1, v2, v3], _ =>
    match ys, hlen with
    | [y0, y1, y2], _ =>
      have g0 : DataW.trod enc Tryd.prog w 0 sp held n 5 [v0] = some y0 := by simpa [cells_u8] using hg 0 _ rfl
      have g1 : DataW.trod enc Tryd.prog w 0 sp held n 3 [v1] = some y1 := by simpa [cells_int] using hg 1 _ rfl
      have g2 : DataW.trod enc Tryd.prog w 0 sp held n 24 [v2, v3] = some y2 := by simpa [cells_group] using hg 2 _ rfl
      obtain ⟨kd, e0, _⟩ := DataW.trod_int Tryd.underlying5 g0
      obtain ⟨hd, e1, _⟩ := DataW.trod_int Tryd.underlying3 g1
      obtain ⟨s, A, c, xs, e2, hc, hr⟩ := trod_group rfl g2
      simp only [List.cons.injEq, and_true] at e0 e1 e2
      obtain ⟨e2, e3⟩ := e2
      subst e0 e1 e2 e3
      exact ⟨⟨kd, hd, ⟨s, xs⟩⟩, k55_mk w ⟨kd, hd, ⟨s, xs⟩⟩ hc hr⟩
theorem open_acts {a : Option Addr} {len cap : Nat} {d : DataW H} {p : List MemPlace} (h : DataW.Trod enc Tryd.prog w 0 sp held 49 (.slice a len cap) d p) :
    ∃ xs : List S55, len = xs.length ∧ xs.length ≤ cap ∧ Kd.C k55 w a xs.length xs := by
  obtain ⟨fuel, hf⟩ := h
  have hf' : DataW.trod enc Tryd.prog w 0 sp held fuel 49 [.slice a len cap] = some (d, p) := hf
  obtain ⟨A, c, xs, e, h1, h2⟩ := open_kd k55 Tryd.underlying49 cells_act (fun n cs y hl hy => trod_act (by exact hl) hy) hf'
  injection e with e1 e2 e3
  subst e1 e2 e3
  exact ⟨xs, rfl, h1, h2⟩
end
end Go.Proofs.YtkifmhfgplhabaaDoor.HR
