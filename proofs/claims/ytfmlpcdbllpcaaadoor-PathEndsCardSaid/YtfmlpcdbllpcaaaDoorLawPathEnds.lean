/- PathEnds: whatever comes in, the law answers true, and what came in reads as it did; the tables that it lists are tied to the program's text. No condition. -/
import Derived.Test.YtfmlpcdbllpcaaaDoorHW
import Derived.ProofKit
import Derived.OpenShut
import Derived.ShutString
import Derived.ChangeOld
import Derived.SizedLaws
import Derived.Lib.SmallJoins
import Derived.Deep.Slices
import Derived.Test.YtfmlpcdbllpcaaaDoorHK
import Derived.Deep.Strs
import Derived.Test.YtfmlpcdbllpcaaaDoorTxA
import Derived.Test.YtfmlpcdbllpcaaaDoorRows
import Derived.Test.YtfmlpcdbllpcaaaDoorTie
import Derived.Test.YtfmlpcdbllpcaaaDoorCards
import Derived.LaidMore
import Derived.Stop.Joined
import Derived.WalkKit
import Derived.Below
import Derived.SevenTiedAt
import Derived.Test.YtfmlpcdbllpcaaaDoorTrB
import Derived.Deep.RegionHeld3
namespace Go.Proofs.YtfmlpcdbllpcaaaDoor.HR
open Go.RowKit Go.Joins Go.ChangeShapes Go.WideShapes Go.Deep Go.Proofs.YtfmlpcdbllpcaaaDoorW.PrintWords Go.Proofs.YtfmlpcdbllpcaaaDoorW.PrintLast Go.Proofs.YtfmlpcdbllpcaaaDoorW.PrintMore
set_option linter.unusedVariables false
section
variable {H : Type} {enc : TypeId × Value → H} {P : Program} {w : World} {sp : Nat → Bool} {held : Bool}
theorem choose_below {α : Type} {p : Nat → α → Prop} : ∀ m, (∀ i, i < m → ∃ x, p i x) → ∃ xs : List α, xs.length = m ∧ ∀ i x, xs[i]? = some x → p i x
  | 0, _ => ⟨[], rfl, fun i x h => by simp at h⟩
  | m + 1, h => by
    obtain ⟨xs, hl, hx⟩ := choose_below m (fun i hi => h i (by omega))
    obtain ⟨x, hp⟩ := h m (by omega)
    refine ⟨xs ++ [x], by simp [hl], fun i y hy => ?_⟩
    by_cases hi : i < m
    · rw [List.getElem?_append_left (by omega)] at hy
      exact hx i y hy
    · rw [List.getElem?_append_right (by omega), hl] at hy
      have : i - m = 0 := by
        cases h : i - m with
        | zero => rfl
        | succ n => rw [h] at hy; simp at hy
      obtain rfl : i = m := by omega
      simp at hy
      exact hy ▸ hp
/-- A SLICE'S READING IS A ROW OF ITS ELEMENTS' KIND. -/
theorem open_kd {α : Type} (d : Kd α) {t e : TypeId} (ht : P.underlying t = some (.slice e)) (hsz : P.cellsOf e = d.sz)
    (hel : ∀ n cs y, cs.length = d.sz → DataW.trod enc P w 0 sp held n e cs = some y → ∃ x, d.K w x cs)
    {fuel : Nat} {v : Value} {x : DataW H × List MemPlace} (h : DataW.trod enc P w 0 sp held fuel t [v] = some x) :
    ∃ A c xs, v = .slice A xs.length c ∧ xs.length ≤ c ∧ d.C w A xs.length xs := by
  rcases open_slice ht h with ⟨hcs, _⟩ | ⟨a, len, cap, m, n, D, Pl, hcs, _, hl, hm, hmm, _, hx⟩
  · obtain rfl : v = .slice none 0 0 := by simpa using hcs
    exact ⟨none, 0, [], rfl, Nat.le_refl _, rfl, by simp, fun h => absurd h (by simp)⟩
  · obtain rfl : v = .slice (some a) len cap := by simpa using hcs
    have hlm : len ≤ m := by rw [hmm]; split <;> omega
    obtain ⟨xs, hxl, hxs⟩ := choose_below (p := fun i x => ∃ c, c.length = d.sz ∧ d.K w x c ∧ ∀ j u, c[j]? = some u → w.cell? (a.add (i * d.sz + j)) = some u) len (fun i hi => by
      obtain ⟨cs', h1, h2⟩ := hx i (by omega)
      obtain ⟨_, hlen, hc⟩ := World.cells?_some h1
      obtain ⟨x, hK⟩ := hel n cs' _ (by omega) h2
      refine ⟨x, cs', by omega, hK, fun j u hu => ?_⟩
      have hj : j < cs'.length := by
        rcases Nat.lt_or_ge j cs'.length with h | h
        · exact h
        · rw [List.getElem?_eq_none h] at hu; exact absurd hu (by simp)
      have := hc j (by omega)
      rw [hsz] at this
      rw [← hu, ← this]
      rw [Addr.add_add])
    have hmx : maxLen = 9223372036854775807 := rfl
    subst hxl
    exact ⟨some a, cap, xs, rfl, hl, rfl, by omega, fun _ => ⟨a, rfl, fun j p hp => hxs j p hp⟩⟩
end
end Go.Proofs.YtfmlpcdbllpcaaaDoor.HR

namespace Go.Proofs.YtfmlpcdbllpcaaaDoor.HR
open Go.RowKit Go.Joins Go.ChangeShapes Go.WideShapes Go.Deep Go.Proofs.YtfmlpcdbllpcaaaDoor.HK Go.Proofs.YtfmlpcdbllpcaaaDoorW.PrintWords Go.Proofs.YtfmlpcdbllpcaaaDoorW.PrintLast Go.Proofs.YtfmlpcdbllpcaaaDoorW.PrintMore
set_option linter.unusedVariables false
section
variable {H : Type} {enc : TypeId × Value → H} {w : World} {sp : Nat → Bool} {held : Bool}
/-- a struct of five whole numbers, read -/
theorem trod_five {P : Program} {t ti : TypeId} {f0 f1 f2 f3 f4 : Field} (hs : P.underlying t = some (.struct #[f0, f1, f2, f3, f4])) (hi : P.underlying ti = some (.int .i64))
    (h0 : f0.type = ti ∧ f0.offset = 0) (h1 : f1.type = ti ∧ f1.offset = 1) (h2 : f2.type = ti ∧ f2.offset = 2) (h3 : f3.type = ti ∧ f3.offset = 3) (h4 : f4.type = ti ∧ f4.offset = 4) (hc : P.cellsOf ti = 1)
    {n : Nat} {cs : List Value} {y : DataW H × List MemPlace} (hl : cs.length = 5) (h : DataW.trod enc P w 0 sp held n t cs = some y) :
    ∃ a b c d e : Int, cs = [.int .i64 a, .int .i64 b, .int .i64 c, .int .i64 d, .int .i64 e] := by
  obtain ⟨xs, n, _, _, _, hlen, hg⟩ := DataW.trod_struct hs h
  match cs, hl with
  | [v0, v1, v2, v3, v4], _ =>
    match xs, hlen with
    | [y0, y1, y2, y3, y4], _ =>
      have g0 : DataW.trod enc P w 0 sp held n ti [v0] = some y0 := by simpa [h0.1, h0.2, hc] using hg 0 f0 rfl
      have g1 : DataW.trod enc P w 0 sp held n ti [v1] = some y1 := by simpa [h1.1, h1.2, hc] using hg 1 f1 rfl
      have g2 : DataW.trod enc P w 0 sp held n ti [v2] = some y2 := by simpa [h2.1, h2.2, hc] using hg 2 f2 rfl
      have g3 : DataW.trod enc P w 0 sp held n ti [v3] = some y3 := by simpa [h3.1, h3.2, hc] using hg 3 f3 rfl
      have g4 : DataW.trod enc P w 0 sp held n ti [v4] = some y4 := by simpa [h4.1, h4.2, hc] using hg 4 f4 rfl
      obtain ⟨a, e0, _⟩ := DataW.trod_int hi g0
      obtain ⟨b, e1, _⟩ := DataW.trod_int hi g1
      obtain ⟨c, e2, _⟩ := DataW.trod_int hi g2
      obtain ⟨d, e3, _⟩ := DataW.trod_int hi g3
      obtain ⟨e, e4, _⟩ := DataW.trod_int hi g4
      simp only [List.cons.injEq, and_true] at e0 e1 e2 e3 e4
      exact ⟨a, b, c, d, e, by rw [e0, e1, e2, e3, e4]⟩
theorem cells_int : Tryd.prog.cellsOf 3 = 1 := by kernel_rfl
theorem cells_choice : Tryd.prog.cellsOf 49 = 5 := by kernel_rfl
theorem open_choices {a : Option Addr} {len cap : Nat} {d : DataW H} {p : List MemPlace} (h : DataW.Trod enc Tryd.prog w 0 sp held 36 (.slice a len cap) d p) :
    ∃ xs : List S49, len = xs.length ∧ xs.length ≤ cap ∧ Kd.C k49 w a xs.length xs := by
  obtain ⟨fuel, hf⟩ := h
  have hf' : DataW.trod enc Tryd.prog w 0 sp held fuel 36 [.slice a len cap] = some (d, p) := hf
  obtain ⟨A, c, xs, e, h1, h2⟩ := open_kd k49 Tryd.underlying36 cells_choice (fun n cs y hl hy => by
    obtain ⟨a, b, c, d, e, rfl⟩ := trod_five Tryd.underlying49 Tryd.underlying3 ⟨rfl, rfl⟩ ⟨rfl, rfl⟩ ⟨rfl, rfl⟩ ⟨rfl, rfl⟩ ⟨rfl, rfl⟩ cells_int (by exact hl) hy
    exact ⟨⟨a, b, c, d, e⟩, k49_mk w ⟨a, b, c, d, e⟩⟩) hf'
  injection e with e1 e2 e3
  subst e1 e2 e3
  exact ⟨xs, rfl, h1, h2⟩
end
end Go.Proofs.YtfmlpcdbllpcaaaDoor.HR

namespace Go.Proofs.YtfmlpcdbllpcaaaDoor.HR
open Go.RowKit Go.Joins Go.ChangeShapes Go.WideShapes Go.Deep Go.Proofs.YtfmlpcdbllpcaaaDoor.HK Go.Proofs.YtfmlpcdbllpcaaaDoorW.PrintWords Go.Proofs.YtfmlpcdbllpcaaaDoorW.PrintLast Go.Proofs.YtfmlpcdbllpcaaaDoorW.PrintMore
set_option linter.unusedVariables false
section
variable {H : Type} {enc : TypeId × Value → H} {w : World} {sp : Nat → Bool} {held : Bool}
theorem cells_point : Tryd.prog.cellsOf 38 = 3 := by kernel_rfl
theorem cells_act : Tryd.prog.cellsOf 47 = 5 := by kernel_rfl
theorem cells_u8 : Tryd.prog.cellsOf 5 = 1 := by kernel_rfl
theorem cells_bool : Tryd.prog.cellsOf 4 = 1 := by kernel_rfl
theorem cells_chs : Tryd.prog.cellsOf 36 = 1 := by kernel_rfl
theorem trod_point {n : Nat} {cs : List Value} {y : DataW H × List MemPlace} (hl : cs.length = 3) (h : DataW.trod enc Tryd.prog w 0 sp held n 38 cs = some y) :
    ∃ (r q : Int) (A : Option Addr) (c : Nat) (xs : List S49), cs = [.int .i64 r, .int .i64 q, .slice A xs.length c] ∧ xs.length ≤ c ∧ Kd.C k49 w A xs.length xs := by
  obtain ⟨ys, n, _, _, _, hlen, hg⟩ := DataW.trod_struct Tryd.underlying38 h
  match cs, hl with
  | [v0, v1, v2], _ =>
    match ys, hlen with
    | [y0, y1, y2], _ =>
      have g0 : DataW.trod enc Tryd.prog w 0 sp held n 3 [v0] = some y0 := by simpa [cells_int] using hg 0 _ rfl
      have g1 : DataW.trod enc Tryd.prog w 0 sp held n 3 [v1] = some y1 := by simpa [cells_int] using hg 1 _ rfl
      have g2 : DataW.trod enc Tryd.prog w 0 sp held n 36 [v2] = some y2 := by simpa [cells_chs] using hg 2 _ rfl
      obtain ⟨r, e0, _⟩ := DataW.trod_int Tryd.underlying3 g0
      obtain ⟨q, e1, _⟩ := DataW.trod_int Tryd.underlying3 g1
      obtain ⟨a, l, c, e2⟩ := slice_form Tryd.underlying36 g2
      simp only [List.cons.injEq, and_true] at e0 e1 e2
      subst e2
      obtain ⟨xs, rfl, hc, hr⟩ := open_choices (d := y2.1) (p := y2.2) ⟨n, g2⟩
      exact ⟨r, q, a, c, xs, by rw [e0, e1], hc, hr⟩
theorem trod_act {n : Nat} {cs : List Value} {y : DataW H × List MemPlace} (hl : cs.length = 5) (h : DataW.trod enc Tryd.prog w 0 sp held n 47 cs = some y) : ∃ x, k47.K w x cs := by
  obtain ⟨ys, n, _, _, _, hlen, hg⟩ := DataW.trod_struct Tryd.underlying47 h
  match cs, hl with
  | [v0, v1, v2, v3, v4], _ =>
    match ys, hlen with
    | [y0, y1, y2], _ =>
      have g0 : DataW.trod enc Tryd.prog w 0 sp held n 5 [v0] = some y0 := by simpa [cells_u8] using hg 0 _ rfl
      have g1 : DataW.trod enc Tryd.prog w 0 sp held n 38 [v1, v2, v3] = some y1 := by simpa [cells_point] using hg 1 _ rfl
      have g2 : DataW.trod enc Tryd.prog w 0 sp held n 4 [v4] = some y2 := by simpa [cells_bool] using hg 2 _ rfl
      obtain ⟨kd, e0, _⟩ := DataW.trod_int Tryd.underlying5 g0
      obtain ⟨r, q, A, c, xs, e1, hc, hr⟩ := trod_point rfl g1
      obtain ⟨off, e2, _⟩ := DataW.trod_bool Tryd.underlying4 g2
      simp only [List.cons.injEq, and_true] at e0 e1 e2
      obtain ⟨e1, e3, e4⟩ := e1
      subst e0 e1 e2 e3 e4
      exact ⟨⟨kd, ⟨r, q, xs⟩, off⟩, k47_mk w ⟨kd, ⟨r, q, xs⟩, off⟩ hc hr⟩
theorem open_acts {a : Option Addr} {len cap : Nat} {d : DataW H} {p : List MemPlace} (h : DataW.Trod enc Tryd.prog w 0 sp held 43 (.slice a len cap) d p) :
    ∃ xs : List S47, len = xs.length ∧ xs.length ≤ cap ∧ Kd.C k47 w a xs.length xs := by
  obtain ⟨fuel, hf⟩ := h
  have hf' : DataW.trod enc Tryd.prog w 0 sp held fuel 43 [.slice a len cap] = some (d, p) := hf
  obtain ⟨A, c, xs, e, h1, h2⟩ := open_kd k47 Tryd.underlying43 cells_act (fun n cs y hl hy => trod_act (by exact hl) hy) hf'
  injection e with e1 e2 e3
  subst e1 e2 e3
  exact ⟨xs, rfl, h1, h2⟩
end
end Go.Proofs.YtfmlpcdbllpcaaaDoor.HR

namespace Go.Proofs.YtfmlpcdbllpcaaaDoor.HR
open Go.RowKit Go.Joins Go.ChangeShapes Go.WideShapes Go.Deep Go.Proofs.YtfmlpcdbllpcaaaDoor.HK Go.Proofs.YtfmlpcdbllpcaaaDoor.HX Go.Proofs.YtfmlpcdbllpcaaaDoorW.PrintWords Go.Proofs.YtfmlpcdbllpcaaaDoorW.PrintLast Go.Proofs.YtfmlpcdbllpcaaaDoorW.PrintMore
set_option linter.unusedVariables false
section
variable {H : Type} {enc : TypeId × Value → H} {w : World} {sp : Nat → Bool} {held : Bool}
theorem open_kdP {α : Type} {P : Program} (d : Kd α) (p : α → Prop) {t e : TypeId} (ht : P.underlying t = some (.slice e)) (hsz : P.cellsOf e = d.sz)
    (hel : ∀ n cs y, cs.length = d.sz → DataW.trod enc P w 0 sp held n e cs = some y → ∃ x, d.K w x cs ∧ p x)
    {fuel : Nat} {v : Value} {x : DataW H × List MemPlace} (h : DataW.trod enc P w 0 sp held fuel t [v] = some x) :
    ∃ A c xs, v = .slice A xs.length c ∧ xs.length ≤ c ∧ d.C w A xs.length xs ∧ ∀ x ∈ xs, p x := by
  rcases open_slice ht h with ⟨hcs, _⟩ | ⟨a, len, cap, m, n, D, Pl, hcs, _, hl, hm, hmm, _, hx⟩
  · obtain rfl : v = .slice none 0 0 := by simpa using hcs
    exact ⟨none, 0, [], rfl, Nat.le_refl _, ⟨rfl, by simp, fun h => absurd h (by simp)⟩, by simp⟩
  · obtain rfl : v = .slice (some a) len cap := by simpa using hcs
    have hlm : len ≤ m := by rw [hmm]; split <;> omega
    obtain ⟨xs, hxl, hxs⟩ := choose_below (p := fun i x => (∃ c, c.length = d.sz ∧ d.K w x c ∧ ∀ j u, c[j]? = some u → w.cell? (a.add (i * d.sz + j)) = some u) ∧ p x) len (fun i hi => by
      obtain ⟨cs', h1, h2⟩ := hx i (by omega)
      obtain ⟨_, hlen, hc⟩ := World.cells?_some h1
      obtain ⟨x, hK, hp⟩ := hel n cs' _ (by omega) h2
      refine ⟨x, ⟨cs', by omega, hK, fun j u hu => ?_⟩, hp⟩
      have hj : j < cs'.length := by
        rcases Nat.lt_or_ge j cs'.length with h | h
        · exact h
        · rw [List.getElem?_eq_none h] at hu; exact absurd hu (by simp)
      have := hc j (by omega)
      rw [hsz] at this
      rw [← hu, ← this]
      rw [Addr.add_add])
    have hmx : maxLen = 9223372036854775807 := rfl
    subst hxl
    refine ⟨some a, cap, xs, rfl, hl, ⟨rfl, by omega, fun _ => ⟨a, rfl, fun j p hp => (hxs j p hp).1⟩⟩, fun x hx => ?_⟩
    obtain ⟨i, hi, rfl⟩ := List.getElem_of_mem hx
    exact (hxs i _ (List.getElem?_eq_getElem hi)).2
theorem rng_of {n : Int} (h : (Lit.int .i64 n).wf = true) : Rng n := by
  simp only [Lit.wf, Bool.and_eq_true, decide_eq_true_eq] at h
  exact ⟨h.1, h.2⟩
/-- a struct of five whole numbers, read: each within an int's range -/
theorem trod_fiveR {P : Program} {t ti : TypeId} {f0 f1 f2 f3 f4 : Field} (hs : P.underlying t = some (.struct #[f0, f1, f2, f3, f4])) (hi : P.underlying ti = some (.int .i64))
    (h0 : f0.type = ti ∧ f0.offset = 0) (h1 : f1.type = ti ∧ f1.offset = 1) (h2 : f2.type = ti ∧ f2.offset = 2) (h3 : f3.type = ti ∧ f3.offset = 3) (h4 : f4.type = ti ∧ f4.offset = 4) (hc : P.cellsOf ti = 1)
    {n : Nat} {cs : List Value} {y : DataW H × List MemPlace} (hl : cs.length = 5) (h : DataW.trod enc P w 0 sp held n t cs = some y) :
    ∃ a b c d e : Int, cs = [.int .i64 a, .int .i64 b, .int .i64 c, .int .i64 d, .int .i64 e] ∧ Rng a ∧ Rng b ∧ Rng c ∧ Rng d ∧ Rng e := by
  obtain ⟨xs, n, _, _, _, hlen, hg⟩ := DataW.trod_struct hs h
  match cs, hl with
  | [v0, v1, v2, v3, v4], _ =>
    match xs, hlen with
    | [y0, y1, y2, y3, y4], _ =>
      have g0 : DataW.trod enc P w 0 sp held n ti [v0] = some y0 := by simpa [h0.1, h0.2, hc] using hg 0 f0 rfl
      have g1 : DataW.trod enc P w 0 sp held n ti [v1] = some y1 := by simpa [h1.1, h1.2, hc] using hg 1 f1 rfl
      have g2 : DataW.trod enc P w 0 sp held n ti [v2] = some y2 := by simpa [h2.1, h2.2, hc] using hg 2 f2 rfl
      have g3 : DataW.trod enc P w 0 sp held n ti [v3] = some y3 := by simpa [h3.1, h3.2, hc] using hg 3 f3 rfl
      have g4 : DataW.trod enc P w 0 sp held n ti [v4] = some y4 := by simpa [h4.1, h4.2, hc] using hg 4 f4 rfl
      obtain ⟨a, e0, _, r0⟩ := DataW.trod_int hi g0
      obtain ⟨b, e1, _, r1⟩ := DataW.trod_int hi g1
      obtain ⟨c, e2, _, r2⟩ := DataW.trod_int hi g2
      obtain ⟨d, e3, _, r3⟩ := DataW.trod_int hi g3
      obtain ⟨e, e4, _, r4⟩ := DataW.trod_int hi g4
      simp only [List.cons.injEq, and_true] at e0 e1 e2 e3 e4
      exact ⟨a, b, c, d, e, by rw [e0, e1, e2, e3, e4], rng_of r0, rng_of r1, rng_of r2, rng_of r3, rng_of r4⟩
theorem cells_step : Tryd.prog.cellsOf 51 = 8 := by kernel_rfl
theorem cells_boolP : Tryd.prog.cellsOf 4 = 1 := by kernel_rfl
theorem trod_step {n : Nat} {cs : List Value} {y : DataW H × List MemPlace} (hl : cs.length = 8) (h : DataW.trod enc Tryd.prog w 0 sp held n 51 cs = some y) : ∃ x, k51.K w x cs ∧ SpOk x := by
  obtain ⟨ys, n, _, _, _, hlen, hg⟩ := DataW.trod_struct Tryd.underlying51 h
  match cs, hl with
  | [v0, v1, v2, v3, v4, v5, v6, v7], _ =>
    match ys, hlen with
    | [y0, y1, y2, y3], _ =>
      have g0 : DataW.trod enc Tryd.prog w 0 sp held n 4 [v0] = some y0 := by simpa [cells_boolP] using hg 0 _ rfl
      have g1 : DataW.trod enc Tryd.prog w 0 sp held n 3 [v1] = some y1 := by simpa [cells_int] using hg 1 _ rfl
      have g2 : DataW.trod enc Tryd.prog w 0 sp held n 3 [v2] = some y2 := by simpa [cells_int] using hg 2 _ rfl
      have g3 : DataW.trod enc Tryd.prog w 0 sp held n 49 [v3, v4, v5, v6, v7] = some y3 := by simpa [cells_choice] using hg 3 _ rfl
      obtain ⟨b, e0, _⟩ := DataW.trod_bool Tryd.underlying4 g0
      obtain ⟨r, e1, _, r1⟩ := DataW.trod_int Tryd.underlying3 g1
      obtain ⟨q, e2, _, r2⟩ := DataW.trod_int Tryd.underlying3 g2
      obtain ⟨a, b1, c, d, e, e3, ra, rb, rc, rd, re⟩ := trod_fiveR Tryd.underlying49 Tryd.underlying3 ⟨rfl, rfl⟩ ⟨rfl, rfl⟩ ⟨rfl, rfl⟩ ⟨rfl, rfl⟩ ⟨rfl, rfl⟩ cells_int rfl g3
      simp only [List.cons.injEq, and_true] at e0 e1 e2 e3
      obtain ⟨e3, e4, e5, e6, e7⟩ := e3
      subst e0 e1 e2 e3 e4 e5 e6 e7
      exact ⟨⟨b, r, q, ⟨a, b1, c, d, e⟩⟩, k51_mk w ⟨b, r, q, ⟨a, b1, c, d, e⟩⟩, ⟨rng_of r1, rng_of r2, ra, rb, rc, rd, re⟩⟩
theorem open_steps {a : Option Addr} {len cap : Nat} {d : DataW H} {p : List MemPlace} (h : DataW.Trod enc Tryd.prog w 0 sp held 22 (.slice a len cap) d p) :
    ∃ xs : List S51, len = xs.length ∧ xs.length ≤ cap ∧ Kd.C k51 w a xs.length xs ∧ ∀ x ∈ xs, SpOk x := by
  obtain ⟨fuel, hf⟩ := h
  have hf' : DataW.trod enc Tryd.prog w 0 sp held fuel 22 [.slice a len cap] = some (d, p) := hf
  obtain ⟨A, c, xs, e, h1, h2, h3⟩ := open_kdP k51 SpOk Tryd.underlying22 cells_step (fun n cs y hl hy => trod_step (by exact hl) hy) hf'
  injection e with e1 e2 e3
  subst e1 e2 e3
  exact ⟨xs, rfl, h1, h2, h3⟩
end
/-- the three tables that a row lists -/
abbrev laid3 {H : Type} : List (String × DataW H) := [("math/bits.deBruijn32tab", Rows.laid_math_bits_deBruijn32tab), ("math/bits.deBruijn64tab", Rows.laid_math_bits_deBruijn64tab), ("internal/strconv.uint64pow10", Rows.laid_internal_strconv_uint64pow10)]
theorem door_met (os : Os) (args : Array Value) : laidMetH Tryd.prog laid3 ((World.doorLaid Tryd.prog 24 os).forCall (fun _ _ => 0) ⟨#[], args, []⟩).memory :=
  laidMetH_of_parts3 (fuel := 8) (laidMet_of_run' 8 (by kernel_rfl) (by kernel_rfl)) (by kernel_rfl) (by kernel_rfl)
theorem tTab : (Tryd.prog.globals[1]?).map (·.type) = some 91 := by kernel_rfl
theorem tab_of_laid {W : World} (h : laidMetH Tryd.prog laid3 W) : Tab W := by
  rw [MakeChecks.laidMetH_plain _ _ _ (by kernel_rfl)] at h
  obtain ⟨ps, ⟨g0, t0, cs0, f0, p0, q0, hg0, ht0, hv0, hd0, ⟨g1, t1, cs1, f1, p1, q1, hg1, ht1, hv1, hd1, ⟨g2, t2, cs2, f2, p2, q2, hg2, ht2, hv2, hd2, _, _⟩, _⟩, _⟩, _, _⟩ := h
  obtain rfl := Option.some.inj (gTab.symm.trans hg2)
  obtain rfl := Option.some.inj (tTab.symm.trans ht2)
  have hc := Lib.cells_of_tab (k := .u64) (zs := Lib.pow10Tab) Tryd.underlying91 Tryd.underlying60 (by kernel_rfl) (by kernel_rfl) hd2
  have ht : Lib.TabIs Tryd.prog W "internal/strconv.uint64pow10" .u64 Lib.pow10Tab := by
    unfold Lib.TabIs
    rw [hv2, ← hc]
  exact ⟨ht, World.block_lt_of_cell? W _ (ht.cell gTab 0 (by decide))⟩
end Go.Proofs.YtfmlpcdbllpcaaaDoor.HR

namespace Go.Proofs.YtfmlpcdbllpcaaaDoor.HX
open Go.Proofs.YtfmlpcdbllpcaaaDoor.HD (Ch mayP)
open Go.Proofs.YtfmlpcdbllpcaaaDoor.HQ Go.Proofs.YtfmlpcdbllpcaaaDoor.HU Go.RowKit Go.Proofs.YtfmlpcdbllpcaaaDoor.HK Go.Proofs.YtfmlpcdbllpcaaaDoor.HP Go.Proofs.YtfmlpcdbllpcaaaDoorW.PrintWords Go.Proofs.YtfmlpcdbllpcaaaDoorW.PrintLast Go.Proofs.YtfmlpcdbllpcaaaDoorW.PrintMore
set_option linter.unusedVariables false
set_option linter.unusedSimpArgs false
theorem next_left (n : Nat) : ∀ ls : List Lv, ls.length = n → (∀ x ∈ ls, Fit x) → (leftI ls = 0 → nextF ls = []) ∧ (0 < leftI ls → leftI (nextF ls) = leftI ls - 1 ∧ 0 < (nextF ls).length) := by
  induction n with
  | zero =>
    intro ls hl hf
    obtain rfl := List.eq_nil_of_length_eq_zero hl
    exact ⟨fun _ => rfl, fun h => absurd h (by simp [leftI])⟩
  | succ n ih =>
    intro ls hl hf
    rcases snoc_cases ls with rfl | ⟨t, x, rfl⟩
    · simp at hl
    · have ht := ih t (by simpa using hl) (fun y hy => hf y (List.mem_append_left _ hy))
      have hx := hf x (by simp)
      have hb := leftI_bd (l := t) (fun y hy => hf y (List.mem_append_left _ hy))
      have hx1 := hx.2.1
      rw [nextF_snoc, leftI_append]
      have h1 : leftI [x] = manyI x - x.f2 - 1 := by simp [leftI]
      rw [h1]
      by_cases hu : x.f2 + 1 < manyI x
      · rw [if_pos hu]
        refine ⟨fun h => by omega, fun h => ⟨?_, by simp⟩⟩
        rw [leftI_append]
        have h2 : leftI [HQ.up x] = manyI x - (x.f2 + 1) - 1 := by show (manyI x - (x.f2 + 1) - 1) + 0 = _; omega
        rw [h2]
        omega
      · rw [if_neg hu]
        refine ⟨fun h => ht.1 (by omega), fun h => ?_⟩
        have := ht.2 (by omega)
        exact ⟨by omega, this.2⟩
theorem left_new (ls : List Lv) (p : S38) (off : Bool) : leftI (ls ++ [⟨p, off, 0⟩]) = leftI ls + ((if off then (p.f2.length : Int) + 1 else (p.f2.length : Int)) - 1) := by
  rw [leftI_append]
  simp only [leftI, manyI]
  omega
theorem fit_app {ls : List Lv} {x : Lv} (h : ∀ y ∈ ls, Fit y) (hx : Fit x) : ∀ y ∈ ls ++ [x], Fit y := fun y hy => by
  rcases List.mem_append.1 hy with hy | hy
  · exact h y hy
  · rw [List.mem_singleton.1 hy]; exact hx
set_option maxRecDepth 100000 in
set_option maxHeartbeats 16000000 in
theorem pathEnds_calls (A : Option Addr) (c : Nat) (l : List Act_) (w : World) (hr : Kd.C k47 w A l.length l) (hc : l.length ≤ c) (ht : Tab w) :
    Calls Tryd.prog 6 #[.slice A l.length c] w fun e w' => e = .returned (.bool true) ∧ Below w.heap.size w w' := by
  have HR0 := Aside0.mk hr
  have HT := Aside0.mk ht
  clear hr ht
  go_enter Tryd.func6, Tryd.ntmps6
  go_wp2_with fail
  refine (awake_c w HT.out).mono ?_
  rintro e w0 ⟨rfl, hb⟩
  have HB0 := Aside0.mk hb
  have HR1 := Aside0.mk (Kd.C_below HR0.out hb)
  clear hb HR0 HT
  have HGR := Aside0.mk (fun h => great_not (a := l) h)
  go_wp2_with fail
  refine (great_c A c l w0 HR1.out hc).mono ?_
  rintro e w1 ⟨rfl, hb⟩
  have HB1 := Aside0.mk (below_then HB0.out HB0.out.size hb)
  have HR := Aside0.mk (Kd.C_below HR1.out hb)
  clear hb HR1 HB0
  generalize greatB l = gr at HGR ⊢
  cases gr with
  | true =>
    go_wp2
    go_ret
    exact ⟨rfl, HB1.out⟩
  | false =>
    by_cases hbig : (l.length : Int) > 12
    · have db : decide ((l.length : Int) > 12) = true := decide_eq_true hbig
      go_wp2
      go_ret
      exact ⟨rfl, HB1.out⟩
    · have db : decide ((l.length : Int) > 12) = false := decide_eq_false hbig
      have hl12 : l.length ≤ 12 := by omega
      have HV := Aside0.mk (HGR.out rfl).2
      clear hbig HGR
      go_wp2_with fail
      refine (HQ.new_calls w1 (fun _ => True)).mono ?_
      rintro e w2 ⟨rfl, hs, hb⟩
      have HS2 := Aside0.mk hs
      have HB2 := Aside0.mk hb
      have HGL := Aside0.mk (blk_lt hs.blk)
      clear hs hb db
      obtain ⟨g, hg⟩ : ∃ g : Nat, g = w1.heap.size := ⟨_, rfl⟩
      rw [← hg] at HS2 HB2 ⊢
      have HG := Aside0.mk hg
      clear hg
      go_wp2_with fail
      go_loopw [4, 5] (fun v4 v5 wr => ∃ (i : Nat) (s4 : Int) (v' : Value) (ls : List Lv), i ≤ l.length ∧ v5 = .int .i64 i ∧ v4 = .int .i64 s4 ∧ Aside0 (s4 = 1 + leftI ls) ∧ Aside0 (Sq wr g (fun _ => True) g v' ls) ∧ Aside0 (∀ x ∈ ls, Fit x) ∧ Aside0 (ls.length ≤ i) ∧ Aside0 (Below g w1 wr)) (fun _ v5 _ => l.length - (intOf v5).toNat)
      case atStart => exact ⟨0, 1, _, [], by omega, rfl, rfl, ⟨rfl⟩, HS2, ⟨fun _ h => by cases h⟩, ⟨Nat.le_refl _⟩, HB2⟩
      case round =>
        clear HS2 HB2 HGL
        obtain ⟨i, s4, v3, ls, hi, rfl, rfl, HS4, HS, HF, HLN, HB⟩ := hrel
        obtain ⟨w3, rfl⟩ : ∃ w3 : World, w3 = wr := ⟨_, rfl⟩
        have hbd := leftI_bd HF.out
        have hs4 : 1 ≤ s4 ∧ s4 ≤ 20000 := by have := HS4.out; have := HLN.out; omega
        by_cases hil : i < l.length
        · have hi64 : IntKind.i64.wrap ((i : Int) + 1) = (i : Int) + 1 := i64w (by omega) (by omega)
          have hii : (i : Int) < (l.length : Int) := by omega
          obtain ⟨ad, A3, c3, hA, x0, x1, x2, x3, x4, hc3, hC3⟩ := at_T47 HR.out (i : Int) (by omega) (by omega)
          rw [Int.toNat_natCast] at x0 x1 x2 x3 x4
          subst hA
          have hxm : rd_T47 l (i : Int) = l[i] := by simp [rd_T47, hil]
          have hvl := HV.out _ (List.getElem_mem hil)
          rw [hxm] at x1 x2 x3 x4 hc3 hC3
          generalize l[i] = x at x1 x2 x3 x4 hc3 hC3 hvl
          obtain ⟨xk, ⟨r, q, vs⟩, off⟩ := x
          dsimp only at x1 x2 x3 x4 hc3 hC3 hvl
          have hgw : w1.heap.size = g := HG.out.symm
          have HBW := Aside0.mk (show Below w1.heap.size w1 w3 by rw [hgw]; exact HB.out)
          have X := Aside0.mk (And.intro x1 (And.intro x2 (And.intro x3 x4)))
          have HC3 := Aside0.mk hC3
          have y1 := pw_cell_below HBW.out x1
          have y2 := pw_cell_below HBW.out x2
          have y3 := pw_cell_below HBW.out x3
          have y4 := pw_cell_below HBW.out x4
          have HSZ := Aside0.mk HB.out.size
          clear x0 x1 x2 x3 x4 hC3 hxm hbd
          cases hm : mayP r q vs with
          | false =>
            have HPU := Aside0.mk (push_bad g (fun _ => True) g v3 ls r q A3 c3 vs off w3.drew (HS.out.below (below_drew (Below.refl _ _))) (Kd.C_below HC3.out (below_then HBW.out HBW.out.size (below_drew (Below.refl _ _)))) hc3 hm)
            clear hm
            go_upto_region 10 with fail
            go_region_held3 (fun W => W.cell? ⟨(ad.add (i * 5)).block, (ad.add (i * 5)).off + 1, none⟩ = some (.int .i64 r) ∧ W.cell? ⟨(ad.add (i * 5)).block, (ad.add (i * 5)).off + 2, none⟩ = some (.int .i64 q) ∧ W.cell? ⟨(ad.add (i * 5)).block, (ad.add (i * 5)).off + 3, none⟩ = some (.slice A3 vs.length c3) ∧ W.cell? ⟨(ad.add (i * 5)).block, (ad.add (i * 5)).off + 4, none⟩ = some (.bool off))
              (first | exact ⟨z1, z2, z3, z4⟩ | exact ⟨y1, y2, y3, y4⟩)
              ((go_at_call 14; with_reducible refine HPU.out.mono ?_; rintro e w5 ⟨rfl, hb⟩; have HB5 := Aside0.mk (below_of_drew hb); have z1 := pw_cell_below (below_of_drew hb) y1; have z2 := pw_cell_below (below_of_drew hb) y2; have z3 := pw_cell_below (below_of_drew hb) y3; have z4 := pw_cell_below (below_of_drew hb) y4; clear hb))
            all_goals (
              have HS5 := Aside0.mk (HS.out.below HB5.out)
              have HL5 := Aside0.mk (show Below g w1 w5 by rw [← hgw]; exact below_then HBW.out HBW.out.size HB5.out)
              have hln : ls.length ≤ i + 1 := by have := HLN.out; omega
              clear y1 y2 y3 y4 z1 z2 z3 z4 HPU HBW HSZ
              go_wp2
              refine ⟨⟨i + 1, s4, v3, ls, by omega, by go_num, rfl, HS4, HS5, HF, ⟨hln⟩, HL5⟩, ?_⟩
              simp [intOf]
              omega)
          | true =>
            have HFN := Aside0.mk (fit_new (off := off) hm (by omega))
            have HPU := Aside0.mk (push_ok g (fun _ => True) g v3 ls r q A3 c3 vs off w3.drew (HS.out.below (below_drew (Below.refl _ _))) (by have := HB.out.size; have := HG.out; show g ≤ w3.heap.size; omega) (fun _ _ => trivial) (Kd.C_below HC3.out (below_then HBW.out HBW.out.size (below_drew (Below.refl _ _)))) hc3 (by omega) hm (by have := HLN.out; omega))
            clear hm
            go_upto_region 10 with fail
            go_region_held3 (fun W => W.cell? ⟨(ad.add (i * 5)).block, (ad.add (i * 5)).off + 1, none⟩ = some (.int .i64 r) ∧ W.cell? ⟨(ad.add (i * 5)).block, (ad.add (i * 5)).off + 2, none⟩ = some (.int .i64 q) ∧ W.cell? ⟨(ad.add (i * 5)).block, (ad.add (i * 5)).off + 3, none⟩ = some (.slice A3 vs.length c3) ∧ W.cell? ⟨(ad.add (i * 5)).block, (ad.add (i * 5)).off + 4, none⟩ = some (.bool off))
              (first | exact ⟨z1, z2, z3, z4⟩ | exact ⟨y1, y2, y3, y4⟩)
              ((go_at_call 14; with_reducible refine HPU.out.mono ?_; rintro e w5 ⟨rfl, ⟨v5, hs5, _⟩, _, hb⟩; have HL5 := Aside0.mk (show Below w1.heap.size w1 w5 by rw [hgw]; exact HB.out.trans ((below_drew (Below.refl g w3)).trans hb)); have HS5 := Aside0.mk hs5; have z1 := pw_cell_below HL5.out X.out.1; have z2 := pw_cell_below HL5.out X.out.2.1; have z3 := pw_cell_below HL5.out X.out.2.2.1; have z4 := pw_cell_below HL5.out X.out.2.2.2; clear hb hs5))
            all_goals (
              have HL6 := Aside0.mk (show Below g w1 w5 by rw [← hgw]; exact HL5.out)
              have HF6 := Aside0.mk (fit_app HF.out HFN.out)
              have HLN6 := Aside0.mk (show (ls ++ [(⟨⟨r, q, vs⟩, off, 0⟩ : Lv)]).length ≤ i + 1 by have := HLN.out; rw [List.length_append, List.length_singleton]; omega)
              have HNL := Aside0.mk (left_new ls ⟨r, q, vs⟩ off)
              clear y1 y2 y3 y4 HPU HBW HSZ
              cases off with
              | true =>
                have m1 : IntKind.i64.wrap ((vs.length : Int) + 1) = (vs.length : Int) + 1 := i64w (by omega) (by omega)
                have m2 : IntKind.i64.wrap (s4 + ((vs.length : Int) + 1)) = s4 + ((vs.length : Int) + 1) := i64w (by omega) (by omega)
                have m3 : IntKind.i64.wrap (s4 + ((vs.length : Int) + 1) - 1) = s4 + ((vs.length : Int) + 1) - 1 := i64w (by omega) (by omega)
                go_wp2
                refine ⟨⟨i + 1, _, v5, _, by omega, by go_num, rfl, ⟨by rw [HNL.out, HS4.out]; simp; omega⟩, HS5, HF6, HLN6, HL6⟩, ?_⟩
                simp [intOf]
                omega
              | false =>
                have m2 : IntKind.i64.wrap (s4 + (vs.length : Int)) = s4 + (vs.length : Int) := i64w (by omega) (by omega)
                have m3 : IntKind.i64.wrap (s4 + (vs.length : Int) - 1) = s4 + (vs.length : Int) - 1 := i64w (by omega) (by omega)
                go_wp2
                refine ⟨⟨i + 1, _, v5, _, by omega, by go_num, rfl, ⟨by rw [HNL.out, HS4.out]; simp; omega⟩, HS5, HF6, HLN6, HL6⟩, ?_⟩
                simp [intOf]
                omega
              )
        · obtain rfl : i = l.length := by omega
          have HN12 := Aside0.mk (show ls.length ≤ 12 by have := HLN.out; omega)
          obtain ⟨a, ha⟩ : ∃ a : Int, a = leftI ls := ⟨_, rfl⟩
          have hm1 : IntKind.i64.wrap (s4 - 1) = a := (i64w (by omega) (by omega)).trans (by have := HS4.out; omega)
          have ha0 : 0 ≤ a ∧ a ≤ 20000 := by have := HS4.out; have := hs4; omega
          have HS4A := Aside0.mk (show s4 = 1 + a by rw [HS4.out, ha])
          have HAL := Aside0.mk ha
          have HLC := Aside0.mk (left_ok g (fun _ => True) g v3 ls w3 HS.out HF.out (by have := HN12.out; omega))
          rw [← ha] at HLC
          clear ha hbd HS4 HLN hs4
          go_wp2_with fail
          refine HLC.out.mono ?_
          rintro e w4 ⟨rfl, hb⟩
          have HGZ := Aside0.mk (show g ≤ w3.heap.size by have := HB.out.size; have := HG.out; omega)
          have HS5 := Aside0.mk (HS.out.below hb)
          have HB5 := Aside0.mk (HB.out.trans (hb.mono HGZ.out))
          clear hb HLC HS HB HGZ
          go_wp2_with fail
          go_loopw [7, 8] (fun v7 v8 wr => ∃ (n : Nat) (b : Int) (v' : Value) (t : List Lv), v8 = .int .i64 n ∧ v7 = .int .i64 b ∧ Aside0 (b = leftI t) ∧ Aside0 ((n : Int) + b = a) ∧ Aside0 (Sq wr g (fun _ => True) g v' t) ∧ Aside0 (∀ x ∈ t, Fit x) ∧ Aside0 (t.length ≤ 12) ∧ Aside0 (t = [] → n = 0) ∧ Aside0 (Below g w1 wr)) (fun v7 _ _ => (intOf v7).toNat)
          case atStart => exact ⟨0, a, v3, ls, rfl, rfl, HAL, ⟨by omega⟩, HS5, HF, HN12, ⟨fun _ => rfl⟩, HB5⟩
          case round =>
            clear HS5 HB5 HF HN12 HAL hm1
            obtain ⟨n, b, v5, t, rfl, rfl, HBL, HNB, HS, HF, HN12, HZ, HB⟩ := hrel
            obtain ⟨w5, rfl⟩ : ∃ w5 : World, w5 = wr := ⟨_, rfl⟩
            have hb0 := (leftI_bd HF.out).1
            rw [← HBL.out] at hb0
            have hnb := HNB.out
            have hs4 := HS4A.out
            have HGZ := Aside0.mk (show g ≤ w5.heap.size by have := HB.out.size; have := HG.out; omega)
            by_cases htz : t.length = 0
            · have htn := List.eq_nil_of_length_eq_zero htz
              have hn0 := HZ.out htn
              subst htn hn0
              have hb00 : b = 0 := HBL.out
              obtain rfl : s4 = 1 := by omega
              clear hnb hs4 hb0 hb00 ha0 htz
              go_wp2_with fail
              refine (HQ.depth_calls g (fun _ => True) g v5 [] w5 HS.out).mono ?_
              rintro e w6 ⟨rfl, rfl⟩
              have HEND := Aside0.mk (HB1.out.trans (show Below w.heap.size w1 w5 from HB.out.mono (by have := HB1.out.size; have := HG.out; omega)))
              go_wp2
              go_ret
              exact ⟨rfl, HEND.out⟩
            · have dt : decide (0 < t.length) = true := decide_eq_true (by omega)
              have hn64 : IntKind.i64.wrap ((n : Int) + 1) = (n : Int) + 1 := i64w (by omega) (by omega)
              obtain ⟨nl1, nl2⟩ := next_left t.length t rfl HF.out
              rw [← HBL.out] at nl1 nl2
              by_cases hbz : b = 0
              · have HNX := Aside0.mk (nl1 hbz)
                obtain rfl : s4 = (n : Int) + 1 := by omega
                clear nl1 nl2 hnb hs4 hb0 ha0 htz hbz
                go_wp2_with fail
                refine (HQ.depth_calls g (fun _ => True) g v5 t w5 HS.out).mono ?_
                rintro e w6 ⟨rfl, rfl⟩
                go_wp2_with fail
                refine (next_ok g (fun _ => True) g v5 t w5 HS.out HF.out).mono ?_
                rintro e w6 ⟨rfl, _, _, hb⟩
                rw [HNX.out]
                rw [show decide (0 < ([] : List Lv).length) = false from rfl]
                have HEND := Aside0.mk (HB1.out.trans ((HB.out.trans hb).mono (by have := HB1.out.size; have := HG.out; omega)))
                clear hb
                go_wp2
                go_ret
                exact ⟨rfl, HEND.out⟩
              · obtain ⟨nl3, nl4⟩ := nl2 (by omega)
                have HNL := Aside0.mk nl3
                have HDT := Aside0.mk (decide_eq_true nl4)
                have HNE := Aside0.mk (show nextF t = [] → n + 1 = 0 from fun h => by rw [h] at nl4; simp at nl4)
                have hbm : IntKind.i64.wrap (b - 1) = b - 1 := i64w (by omega) (by omega)
                have HNB2 : Aside0 (((n + 1 : Nat) : Int) + (b - 1) = a) := ⟨by omega⟩
                have hbpos : 0 < b := by omega
                clear nl1 nl2 nl3 nl4 hnb hs4 hb0 ha0 htz hbz
                go_wp2_with fail
                refine (HQ.depth_calls g (fun _ => True) g v5 t w5 HS.out).mono ?_
                rintro e w6 ⟨rfl, rfl⟩
                go_wp2_with fail
                refine (next_ok g (fun _ => True) g v5 t w5 HS.out HF.out).mono ?_
                rintro e w6 ⟨rfl, ⟨v6, hs6, _⟩, _, hb⟩
                rw [HDT.out]
                have HS6 := Aside0.mk hs6
                have HB6 := Aside0.mk (HB.out.trans hb)
                have HF6 := Aside0.mk (nextF_fit HF.out)
                have HN6 := Aside0.mk (show (nextF t).length ≤ 12 from Nat.le_trans (nextF_le t) HN12.out)
                have HLC := Aside0.mk (left_ok g (fun _ => True) g v6 (nextF t) w6 hs6 HF6.out (by have := HN6.out; omega))
                rw [HNL.out] at HLC
                have HGZ6 := Aside0.mk (Nat.le_trans HGZ.out hb.size)
                clear hb hs6
                go_wp2_with fail
                refine HLC.out.mono ?_
                rintro e w7 ⟨rfl, hb⟩
                have HS7 := Aside0.mk (HS6.out.below hb)
                have HB7 := Aside0.mk (HB6.out.trans (hb.mono HGZ6.out))
                clear hb HLC
                go_wp2
                refine ⟨⟨n + 1, b - 1, v6, nextF t, by go_num, rfl, ⟨HNL.out.symm⟩, HNB2, HS7, HF6, HN6, HNE, HB7⟩, ?_⟩
                simp [intOf]
                omega
end Go.Proofs.YtfmlpcdbllpcaaaDoor.HX

namespace Go.Proofs.YtfmlpcdbllpcaaaDoor.pathEnds
open Go.ChangeShapes Go.WideShapes Go.ChangeAt Go.RowKit Go.Joins
set_option linter.unusedVariables false
theorem own : ownKnob Tryd.prog.godebug = none := by kernel_rfl
theorem laidOut : laidOutB Tryd.prog = true := by kernel_rfl
set_option maxRecDepth 100000 in
theorem lifted (os : Os) (started : os.Started) (H : Type) (enc : TypeId × Value → H) :
    ReturnsInHanded {} Tryd.checked os 6 .any (fun w args => (Rows.pathEndsSpec.pre enc Tryd.prog Tryd.f6 [] false w args ∧ laidMetH Tryd.prog HR.laid3 w) ∧ sizedMet enc Tryd.prog Tryd.f6 (OpenSpec.ofChange Rows.pathEndsSpec) false w args)
      (Rows.pathEndsSpec.post enc Tryd.prog Tryd.f6 false true false false) := by
  refine returnsInHanded_of_change_and (C := Tryd.checked) (X := fun w _ => laidMetH Tryd.prog HR.laid3 w) (fun _ _ _ hh h => h.of_heap hh) own started (by kernel_rfl) Tryd.func6
    (ChangeSpec.witness_shaped (enc := enc) (C := Tryd.checked) (os := os) (X := fun w _ => laidMetH Tryd.prog HR.laid3 w) false (World.doorLaid Tryd.prog 24 os) #[.slice none 0 0] 8 rfl (World.shaped_of_RefB (by kernel_rfl) (by kernel_rfl)) (by kernel_rfl) (by kernel_rfl) (by kernel_rfl) (HR.door_met os _)) ?_
  intro W base args ds gs before hval0 hW _ _ hL _
  have hval : ∀ (j : Nat) t v, Tryd.f6.params[j]? = some t → args[j]? = some v → Value.okWide Tryd.prog W .any base t v := hval0
  have hW' := hW
  obtain ⟨p, q, hA0, hV, rfl, hfz, hnd⟩ := hW
  have hA : DataW.TrodAll enc Tryd.prog W 0 (fun _ => true) true Tryd.f6.params.toList args.toList ds p := hA0
  rw [Tryd.params6] at hA hval
  obtain ⟨v0, vs0, d0, ds0, p0, q0, hargs, rfl, rfl, h0, r0⟩ := trodAll_cons hA
  obtain ⟨rfl, rfl, rfl⟩ := trodAll_nil r0
  obtain rfl : args = #[v0] := by cases args; simp_all
  obtain ⟨rfl, rfl⟩ := trodVars_none hV
  have k0 := h0
  have lt0 : ∀ x ∈ p0, x.block < W.heap.size := by obtain ⟨m, hm⟩ := k0; exact DataW.trod_lt m _ _ _ hm
  obtain ⟨a0, l0, c0, rfl⟩ := okWide_slice Tryd.underlying43 (hval 0 43 v0 rfl rfl)
  obtain ⟨xs0, rfl, hc0, hr0⟩ := HR.open_acts h0
  have hT := HR.tab_of_laid hL
  clear hA0 hval0 hL
  refine (HX.pathEnds_calls a0 c0 xs0 W hr0 hc0 hT).mono fun e W' ⟨he, bel⟩ => ?_
  subst he
  exact ⟨_, rfl, _, _, _, [], _, [], hW', trodAll_mk1 (shut_bool Tryd.underlying4 _), (trodAll_cons_mk (Below.trod laidOut (by kernel_rfl) (of_decide_eq_true (by kernel_rfl)) k0 bel lt0) trodAll_mk0), rfl, bel.frame _, fun h => by cases h⟩
theorem proved : Rows.PathEndsSaid :=
  OpenClaim.holds_of_wide 6 Tryd.f6 rfl rfl rfl rfl rfl rfl rfl ⟨rfl, rfl, rfl, rfl, rfl⟩ rfl rfl rfl rfl rfl (by kernel_rfl) Tryd.func6 (by kernel_rfl)
    (of_decide_eq_true (by kernel_rfl)) (by unfold Func.isWrapper; first | (rw [if_pos (by decide +kernel)]; kernel_rfl) | (rw [if_neg (by decide +kernel)]; exact ⟨rfl, rfl⟩))
    (fun os started H enc _ => lifted os started H enc)
theorem whole : Rows.PathEndsCardSaid :=
  Claim7.holds_tied_plain_at .later [] [.data, .data, .data] true Rows.pathEndsCard.stood.harness Rows.pathEndsCard.stood.looks
    proved (fun _ h => by cases h) (by kernel_rfl) (fun _ h => by cases h) pathEnds_row_tie rfl ⟨rfl, rfl⟩ (by kernel_rfl) rfl
    (fun f fn hf hfn => by
      obtain rfl : f = 6 := Option.some.inj ((show Tryd.prog.funcNamed "dispatcher/dispatcherlaw24.PathEnds" = some 6 by kernel_rfl).symm.trans hf) |>.symm
      obtain rfl : fn = Tryd.f6 := (Option.some.inj (Tryd.func6.symm.trans hfn)).symm
      exact ⟨by kernel_rfl, fun j t ht => by
        rw [Tryd.params6] at ht
        have hm : t ∈ [43] := by simpa using Array.mem_of_getElem? ht
        have hall : ([43].all fun u => !Tryd.prog.wantsStandIn u) = true := by kernel_rfl
        exact (show Tryd.prog.wantsStandIn t = false by simpa using List.all_eq_true.1 hall t hm)⟩)
    (by kernel_rfl)
end Go.Proofs.YtfmlpcdbllpcaaaDoor.pathEnds
namespace Go.Proofs.YtfmlpcdbllpcaaaDoor
/-- The card, under a short name, for the claim. -/
theorem pathEnds_holds : Rows.PathEndsCardSaid := pathEnds.whole
end Go.Proofs.YtfmlpcdbllpcaaaDoor
