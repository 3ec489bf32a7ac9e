/- PathOrder: whatever comes in, the law answers true, and what came in reads as it did; the tables that it lists are tied to the program's text. No condition. -/
import Derived.Test.YtfmlpcdbllpcaaaDoorHW
import Derived.ProofKit
import Derived.OpenShut
import Derived.ShutString
import Derived.ChangeOld
import Derived.SizedLaws
import Derived.Lib.SmallJoins
import Derived.Deep.Slices
import Derived.Test.YtfmlpcdbllpcaaaDoorHK
import Derived.Deep.Strs
import Derived.Test.YtfmlpcdbllpcaaaDoorTxA
import Derived.Test.YtfmlpcdbllpcaaaDoorRows
import Derived.Test.YtfmlpcdbllpcaaaDoorTie
import Derived.Test.YtfmlpcdbllpcaaaDoorCards
import Derived.LaidMore
import Derived.Stop.Joined
import Derived.WalkKit
import Derived.Below
import Derived.SevenTiedAt
import Derived.Test.YtfmlpcdbllpcaaaDoorTrB
import Derived.Test.YtfmlpcdbllpcaaaDoorQcbasex2
import Derived.Deep.RegionHeld3
namespace Go.Proofs.YtfmlpcdbllpcaaaDoor.HR
open Go.RowKit Go.Joins Go.ChangeShapes Go.WideShapes Go.Deep Go.Proofs.YtfmlpcdbllpcaaaDoorW.PrintWords Go.Proofs.YtfmlpcdbllpcaaaDoorW.PrintLast Go.Proofs.YtfmlpcdbllpcaaaDoorW.PrintMore
set_option linter.unusedVariables false
section
variable {H : Type} {enc : TypeId × Value → H} {P : Program} {w : World} {sp : Nat → Bool} {held : Bool}
theorem choose_below {α : Type} {p : Nat → α → Prop} : ∀ m, (∀ i, i < m → ∃ x, p i x) → ∃ xs : List α, xs.length = m ∧ ∀ i x, xs[i]? = some x → p i x
  | 0, _ => ⟨[], rfl, fun i x h => by simp at h⟩
  | m + 1, h => by
    obtain ⟨xs, hl, hx⟩ := choose_below m (fun i hi => h i (by omega))
    obtain ⟨x, hp⟩ := h m (by omega)
    refine ⟨xs ++ [x], by simp [hl], fun i y hy => ?_⟩
    by_cases hi : i < m
    · rw [List.getElem?_append_left (by omega)] at hy
      exact hx i y hy
    · rw [List.getElem?_append_right (by omega), hl] at hy
      have : i - m = 0 := by
        cases h : i - m with
        | zero => rfl
        | succ n => rw [h] at hy; simp at hy
      obtain rfl : i = m := by omega
      simp at hy
      exact hy ▸ hp
/-- A SLICE'S READING IS A ROW OF ITS ELEMENTS' KIND. -/
theorem open_kd {α : Type} (d : Kd α) {t e : TypeId} (ht : P.underlying t = some (.slice e)) (hsz : P.cellsOf e = d.sz)
    (hel : ∀ n cs y, cs.length = d.sz → DataW.trod enc P w 0 sp held n e cs = some y → ∃ x, d.K w x cs)
    {fuel : Nat} {v : Value} {x : DataW H × List MemPlace} (h : DataW.trod enc P w 0 sp held fuel t [v] = some x) :
    ∃ A c xs, v = .slice A xs.length c ∧ xs.length ≤ c ∧ d.C w A xs.length xs := by
  rcases open_slice ht h with ⟨hcs, _⟩ | ⟨a, len, cap, m, n, D, Pl, hcs, _, hl, hm, hmm, _, hx⟩
  · obtain rfl : v = .slice none 0 0 := by simpa using hcs
    exact ⟨none, 0, [], rfl, Nat.le_refl _, rfl, by simp, fun h => absurd h (by simp)⟩
  · obtain rfl : v = .slice (some a) len cap := by simpa using hcs
    have hlm : len ≤ m := by rw [hmm]; split <;> omega
    obtain ⟨xs, hxl, hxs⟩ := choose_below (p := fun i x => ∃ c, c.length = d.sz ∧ d.K w x c ∧ ∀ j u, c[j]? = some u → w.cell? (a.add (i * d.sz + j)) = some u) len (fun i hi => by
      obtain ⟨cs', h1, h2⟩ := hx i (by omega)
      obtain ⟨_, hlen, hc⟩ := World.cells?_some h1
      obtain ⟨x, hK⟩ := hel n cs' _ (by omega) h2
      refine ⟨x, cs', by omega, hK, fun j u hu => ?_⟩
      have hj : j < cs'.length := by
        rcases Nat.lt_or_ge j cs'.length with h | h
        · exact h
        · rw [List.getElem?_eq_none h] at hu; exact absurd hu (by simp)
      have := hc j (by omega)
      rw [hsz] at this
      rw [← hu, ← this]
      rw [Addr.add_add])
    have hmx : maxLen = 9223372036854775807 := rfl
    subst hxl
    exact ⟨some a, cap, xs, rfl, hl, rfl, by omega, fun _ => ⟨a, rfl, fun j p hp => hxs j p hp⟩⟩
end
end Go.Proofs.YtfmlpcdbllpcaaaDoor.HR

namespace Go.Proofs.YtfmlpcdbllpcaaaDoor.HR
open Go.RowKit Go.Joins Go.ChangeShapes Go.WideShapes Go.Deep Go.Proofs.YtfmlpcdbllpcaaaDoor.HK Go.Proofs.YtfmlpcdbllpcaaaDoorW.PrintWords Go.Proofs.YtfmlpcdbllpcaaaDoorW.PrintLast Go.Proofs.YtfmlpcdbllpcaaaDoorW.PrintMore
set_option linter.unusedVariables false
section
variable {H : Type} {enc : TypeId × Value → H} {w : World} {sp : Nat → Bool} {held : Bool}
/-- a struct of five whole numbers, read -/
theorem trod_five {P : Program} {t ti : TypeId} {f0 f1 f2 f3 f4 : Field} (hs : P.underlying t = some (.struct #[f0, f1, f2, f3, f4])) (hi : P.underlying ti = some (.int .i64))
    (h0 : f0.type = ti ∧ f0.offset = 0) (h1 : f1.type = ti ∧ f1.offset = 1) (h2 : f2.type = ti ∧ f2.offset = 2) (h3 : f3.type = ti ∧ f3.offset = 3) (h4 : f4.type = ti ∧ f4.offset = 4) (hc : P.cellsOf ti = 1)
    {n : Nat} {cs : List Value} {y : DataW H × List MemPlace} (hl : cs.length = 5) (h : DataW.trod enc P w 0 sp held n t cs = some y) :
    ∃ a b c d e : Int, cs = [.int .i64 a, .int .i64 b, .int .i64 c, .int .i64 d, .int .i64 e] := by
  obtain ⟨xs, n, _, _, _, hlen, hg⟩ := DataW.trod_struct hs h
  match cs, hl with
  | [v0, v1, v2, v3, v4], _ =>
    match xs, hlen with
    | [y0, y1, y2, y3, y4], _ =>
      have g0 : DataW.trod enc P w 0 sp held n ti [v0] = some y0 := by simpa [h0.1, h0.2, hc] using hg 0 f0 rfl
      have g1 : DataW.trod enc P w 0 sp held n ti [v1] = some y1 := by simpa [h1.1, h1.2, hc] using hg 1 f1 rfl
      have g2 : DataW.trod enc P w 0 sp held n ti [v2] = some y2 := by simpa [h2.1, h2.2, hc] using hg 2 f2 rfl
      have g3 : DataW.trod enc P w 0 sp held n ti [v3] = some y3 := by simpa [h3.1, h3.2, hc] using hg 3 f3 rfl
      have g4 : DataW.trod enc P w 0 sp held n ti [v4] = some y4 := by simpa [h4.1, h4.2, hc] using hg 4 f4 rfl
      obtain ⟨a, e0, _⟩ := DataW.trod_int hi g0
      obtain ⟨b, e1, _⟩ := DataW.trod_int hi g1
      obtain ⟨c, e2, _⟩ := DataW.trod_int hi g2
      obtain ⟨d, e3, _⟩ := DataW.trod_int hi g3
      obtain ⟨e, e4, _⟩ := DataW.trod_int hi g4
      simp only [List.cons.injEq, and_true] at e0 e1 e2 e3 e4
      exact ⟨a, b, c, d, e, by rw [e0, e1, e2, e3, e4]⟩
theorem cells_int : Tryd.prog.cellsOf 3 = 1 := by kernel_rfl
theorem cells_choice : Tryd.prog.cellsOf 49 = 5 := by kernel_rfl
theorem open_choices {a : Option Addr} {len cap : Nat} {d : DataW H} {p : List MemPlace} (h : DataW.Trod enc Tryd.prog w 0 sp held 36 (.slice a len cap) d p) :
    ∃ xs : List S49, len = xs.length ∧ xs.length ≤ cap ∧ Kd.C k49 w a xs.length xs := by
  obtain ⟨fuel, hf⟩ := h
  have hf' : DataW.trod enc Tryd.prog w 0 sp held fuel 36 [.slice a len cap] = some (d, p) := hf
  obtain ⟨A, c, xs, e, h1, h2⟩ := open_kd k49 Tryd.underlying36 cells_choice (fun n cs y hl hy => by
    obtain ⟨a, b, c, d, e, rfl⟩ := trod_five Tryd.underlying49 Tryd.underlying3 ⟨rfl, rfl⟩ ⟨rfl, rfl⟩ ⟨rfl, rfl⟩ ⟨rfl, rfl⟩ ⟨rfl, rfl⟩ cells_int (by exact hl) hy
    exact ⟨⟨a, b, c, d, e⟩, k49_mk w ⟨a, b, c, d, e⟩⟩) hf'
  injection e with e1 e2 e3
  subst e1 e2 e3
  exact ⟨xs, rfl, h1, h2⟩
end
end Go.Proofs.YtfmlpcdbllpcaaaDoor.HR

namespace Go.Proofs.YtfmlpcdbllpcaaaDoor.HR
open Go.RowKit Go.Joins Go.ChangeShapes Go.WideShapes Go.Deep Go.Proofs.YtfmlpcdbllpcaaaDoor.HK Go.Proofs.YtfmlpcdbllpcaaaDoorW.PrintWords Go.Proofs.YtfmlpcdbllpcaaaDoorW.PrintLast Go.Proofs.YtfmlpcdbllpcaaaDoorW.PrintMore
set_option linter.unusedVariables false
section
variable {H : Type} {enc : TypeId × Value → H} {w : World} {sp : Nat → Bool} {held : Bool}
theorem cells_point : Tryd.prog.cellsOf 38 = 3 := by kernel_rfl
theorem cells_act : Tryd.prog.cellsOf 47 = 5 := by kernel_rfl
theorem cells_u8 : Tryd.prog.cellsOf 5 = 1 := by kernel_rfl
theorem cells_bool : Tryd.prog.cellsOf 4 = 1 := by kernel_rfl
theorem cells_chs : Tryd.prog.cellsOf 36 = 1 := by kernel_rfl
theorem trod_point {n : Nat} {cs : List Value} {y : DataW H × List MemPlace} (hl : cs.length = 3) (h : DataW.trod enc Tryd.prog w 0 sp held n 38 cs = some y) :
    ∃ (r q : Int) (A : Option Addr) (c : Nat) (xs : List S49), cs = [.int .i64 r, .int .i64 q, .slice A xs.length c] ∧ xs.length ≤ c ∧ Kd.C k49 w A xs.length xs := by
  obtain ⟨ys, n, _, _, _, hlen, hg⟩ := DataW.trod_struct Tryd.underlying38 h
  match cs, hl with
  | [v0, v1, v2], _ =>
    match ys, hlen with
    | [y0, y1, y2], _ =>
      have g0 : DataW.trod enc Tryd.prog w 0 sp held n 3 [v0] = some y0 := by simpa [cells_int] using hg 0 _ rfl
      have g1 : DataW.trod enc Tryd.prog w 0 sp held n 3 [v1] = some y1 := by simpa [cells_int] using hg 1 _ rfl
      have g2 : DataW.trod enc Tryd.prog w 0 sp held n 36 [v2] = some y2 := by simpa [cells_chs] using hg 2 _ rfl
      obtain ⟨r, e0, _⟩ := DataW.trod_int Tryd.underlying3 g0
      obtain ⟨q, e1, _⟩ := DataW.trod_int Tryd.underlying3 g1
      obtain ⟨a, l, c, e2⟩ := slice_form Tryd.underlying36 g2
      simp only [List.cons.injEq, and_true] at e0 e1 e2
      subst e2
      obtain ⟨xs, rfl, hc, hr⟩ := open_choices (d := y2.1) (p := y2.2) ⟨n, g2⟩
      exact ⟨r, q, a, c, xs, by rw [e0, e1], hc, hr⟩
theorem trod_act {n : Nat} {cs : List Value} {y : DataW H × List MemPlace} (hl : cs.length = 5) (h : DataW.trod enc Tryd.prog w 0 sp held n 47 cs = some y) : ∃ x, k47.K w x cs := by
  obtain ⟨ys, n, _, _, _, hlen, hg⟩ := DataW.trod_struct Tryd.underlying47 h
  match cs, hl with
  | [v0, v1, v2, v3, v4], _ =>
    match ys, hlen with
    | [y0, y1, y2], _ =>
      have g0 : DataW.trod enc Tryd.prog w 0 sp held n 5 [v0] = some y0 := by simpa [cells_u8] using hg 0 _ rfl
      have g1 : DataW.trod enc Tryd.prog w 0 sp held n 38 [v1, v2, v3] = some y1 := by simpa [cells_point] using hg 1 _ rfl
      have g2 : DataW.trod enc Tryd.prog w 0 sp held n 4 [v4] = some y2 := by simpa [cells_bool] using hg 2 _ rfl
      obtain ⟨kd, e0, _⟩ := DataW.trod_int Tryd.underlying5 g0
      obtain ⟨r, q, A, c, xs, e1, hc, hr⟩ := trod_point rfl g1
      obtain ⟨off, e2, _⟩ := DataW.trod_bool Tryd.underlying4 g2
      simp only [List.cons.injEq, and_true] at e0 e1 e2
      obtain ⟨e1, e3, e4⟩ := e1
      subst e0 e1 e2 e3 e4
      exact ⟨⟨kd, ⟨r, q, xs⟩, off⟩, k47_mk w ⟨kd, ⟨r, q, xs⟩, off⟩ hc hr⟩
theorem open_acts {a : Option Addr} {len cap : Nat} {d : DataW H} {p : List MemPlace} (h : DataW.Trod enc Tryd.prog w 0 sp held 43 (.slice a len cap) d p) :
    ∃ xs : List S47, len = xs.length ∧ xs.length ≤ cap ∧ Kd.C k47 w a xs.length xs := by
  obtain ⟨fuel, hf⟩ := h
  have hf' : DataW.trod enc Tryd.prog w 0 sp held fuel 43 [.slice a len cap] = some (d, p) := hf
  obtain ⟨A, c, xs, e, h1, h2⟩ := open_kd k47 Tryd.underlying43 cells_act (fun n cs y hl hy => trod_act (by exact hl) hy) hf'
  injection e with e1 e2 e3
  subst e1 e2 e3
  exact ⟨xs, rfl, h1, h2⟩
end
end Go.Proofs.YtfmlpcdbllpcaaaDoor.HR

namespace Go.Proofs.YtfmlpcdbllpcaaaDoor.HR
open Go.RowKit Go.Joins Go.ChangeShapes Go.WideShapes Go.Deep Go.Proofs.YtfmlpcdbllpcaaaDoor.HK Go.Proofs.YtfmlpcdbllpcaaaDoor.HX Go.Proofs.YtfmlpcdbllpcaaaDoorW.PrintWords Go.Proofs.YtfmlpcdbllpcaaaDoorW.PrintLast Go.Proofs.YtfmlpcdbllpcaaaDoorW.PrintMore
set_option linter.unusedVariables false
section
variable {H : Type} {enc : TypeId × Value → H} {w : World} {sp : Nat → Bool} {held : Bool}
theorem open_kdP {α : Type} {P : Program} (d : Kd α) (p : α → Prop) {t e : TypeId} (ht : P.underlying t = some (.slice e)) (hsz : P.cellsOf e = d.sz)
    (hel : ∀ n cs y, cs.length = d.sz → DataW.trod enc P w 0 sp held n e cs = some y → ∃ x, d.K w x cs ∧ p x)
    {fuel : Nat} {v : Value} {x : DataW H × List MemPlace} (h : DataW.trod enc P w 0 sp held fuel t [v] = some x) :
    ∃ A c xs, v = .slice A xs.length c ∧ xs.length ≤ c ∧ d.C w A xs.length xs ∧ ∀ x ∈ xs, p x := by
  rcases open_slice ht h with ⟨hcs, _⟩ | ⟨a, len, cap, m, n, D, Pl, hcs, _, hl, hm, hmm, _, hx⟩
  · obtain rfl : v = .slice none 0 0 := by simpa using hcs
    exact ⟨none, 0, [], rfl, Nat.le_refl _, ⟨rfl, by simp, fun h => absurd h (by simp)⟩, by simp⟩
  · obtain rfl : v = .slice (some a) len cap := by simpa using hcs
    have hlm : len ≤ m := by rw [hmm]; split <;> omega
    obtain ⟨xs, hxl, hxs⟩ := choose_below (p := fun i x => (∃ c, c.length = d.sz ∧ d.K w x c ∧ ∀ j u, c[j]? = some u → w.cell? (a.add (i * d.sz + j)) = some u) ∧ p x) len (fun i hi => by
      obtain ⟨cs', h1, h2⟩ := hx i (by omega)
      obtain ⟨_, hlen, hc⟩ := World.cells?_some h1
      obtain ⟨x, hK, hp⟩ := hel n cs' _ (by omega) h2
      refine ⟨x, ⟨cs', by omega, hK, fun j u hu => ?_⟩, hp⟩
      have hj : j < cs'.length := by
        rcases Nat.lt_or_ge j cs'.length with h | h
        · exact h
        · rw [List.getElem?_eq_none h] at hu; exact absurd hu (by simp)
      have := hc j (by omega)
      rw [hsz] at this
      rw [← hu, ← this]
      rw [Addr.add_add])
    have hmx : maxLen = 9223372036854775807 := rfl
    subst hxl
    refine ⟨some a, cap, xs, rfl, hl, ⟨rfl, by omega, fun _ => ⟨a, rfl, fun j p hp => (hxs j p hp).1⟩⟩, fun x hx => ?_⟩
    obtain ⟨i, hi, rfl⟩ := List.getElem_of_mem hx
    exact (hxs i _ (List.getElem?_eq_getElem hi)).2
theorem rng_of {n : Int} (h : (Lit.int .i64 n).wf = true) : Rng n := by
  simp only [Lit.wf, Bool.and_eq_true, decide_eq_true_eq] at h
  exact ⟨h.1, h.2⟩
/-- a struct of five whole numbers, read: each within an int's range -/
theorem trod_fiveR {P : Program} {t ti : TypeId} {f0 f1 f2 f3 f4 : Field} (hs : P.underlying t = some (.struct #[f0, f1, f2, f3, f4])) (hi : P.underlying ti = some (.int .i64))
    (h0 : f0.type = ti ∧ f0.offset = 0) (h1 : f1.type = ti ∧ f1.offset = 1) (h2 : f2.type = ti ∧ f2.offset = 2) (h3 : f3.type = ti ∧ f3.offset = 3) (h4 : f4.type = ti ∧ f4.offset = 4) (hc : P.cellsOf ti = 1)
    {n : Nat} {cs : List Value} {y : DataW H × List MemPlace} (hl : cs.length = 5) (h : DataW.trod enc P w 0 sp held n t cs = some y) :
    ∃ a b c d e : Int, cs = [.int .i64 a, .int .i64 b, .int .i64 c, .int .i64 d, .int .i64 e] ∧ Rng a ∧ Rng b ∧ Rng c ∧ Rng d ∧ Rng e := by
  obtain ⟨xs, n, _, _, _, hlen, hg⟩ := DataW.trod_struct hs h
  match cs, hl with
  | [v0, v1, v2, v3, v4], _ =>
    match xs, hlen with
    | [y0, y1, y2, y3, y4], _ =>
      have g0 : DataW.trod enc P w 0 sp held n ti [v0] = some y0 := by simpa [h0.1, h0.2, hc] using hg 0 f0 rfl
      have g1 : DataW.trod enc P w 0 sp held n ti [v1] = some y1 := by simpa [h1.1, h1.2, hc] using hg 1 f1 rfl
      have g2 : DataW.trod enc P w 0 sp held n ti [v2] = some y2 := by simpa [h2.1, h2.2, hc] using hg 2 f2 rfl
      have g3 : DataW.trod enc P w 0 sp held n ti [v3] = some y3 := by simpa [h3.1, h3.2, hc] using hg 3 f3 rfl
      have g4 : DataW.trod enc P w 0 sp held n ti [v4] = some y4 := by simpa [h4.1, h4.2, hc] using hg 4 f4 rfl
      obtain ⟨a, e0, _, r0⟩ := DataW.trod_int hi g0
      obtain ⟨b, e1, _, r1⟩ := DataW.trod_int hi g1
      obtain ⟨c, e2, _, r2⟩ := DataW.trod_int hi g2
      obtain ⟨d, e3, _, r3⟩ := DataW.trod_int hi g3
      obtain ⟨e, e4, _, r4⟩ := DataW.trod_int hi g4
      simp only [List.cons.injEq, and_true] at e0 e1 e2 e3 e4
      exact ⟨a, b, c, d, e, by rw [e0, e1, e2, e3, e4], rng_of r0, rng_of r1, rng_of r2, rng_of r3, rng_of r4⟩
theorem cells_step : Tryd.prog.cellsOf 51 = 8 := by kernel_rfl
theorem cells_boolP : Tryd.prog.cellsOf 4 = 1 := by kernel_rfl
theorem trod_step {n : Nat} {cs : List Value} {y : DataW H × List MemPlace} (hl : cs.length = 8) (h : DataW.trod enc Tryd.prog w 0 sp held n 51 cs = some y) : ∃ x, k51.K w x cs ∧ SpOk x := by
  obtain ⟨ys, n, _, _, _, hlen, hg⟩ := DataW.trod_struct Tryd.underlying51 h
  match cs, hl with
  | [v0, v1, v2, v3, v4, v5, v6, v7], _ =>
    match ys, hlen with
    | [y0, y1, y2, y3], _ =>
      have g0 : DataW.trod enc Tryd.prog w 0 sp held n 4 [v0] = some y0 := by simpa [cells_boolP] using hg 0 _ rfl
      have g1 : DataW.trod enc Tryd.prog w 0 sp held n 3 [v1] = some y1 := by simpa [cells_int] using hg 1 _ rfl
      have g2 : DataW.trod enc Tryd.prog w 0 sp held n 3 [v2] = some y2 := by simpa [cells_int] using hg 2 _ rfl
      have g3 : DataW.trod enc Tryd.prog w 0 sp held n 49 [v3, v4, v5, v6, v7] = some y3 := by simpa [cells_choice] using hg 3 _ rfl
      obtain ⟨b, e0, _⟩ := DataW.trod_bool Tryd.underlying4 g0
      obtain ⟨r, e1, _, r1⟩ := DataW.trod_int Tryd.underlying3 g1
      obtain ⟨q, e2, _, r2⟩ := DataW.trod_int Tryd.underlying3 g2
      obtain ⟨a, b1, c, d, e, e3, ra, rb, rc, rd, re⟩ := trod_fiveR Tryd.underlying49 Tryd.underlying3 ⟨rfl, rfl⟩ ⟨rfl, rfl⟩ ⟨rfl, rfl⟩ ⟨rfl, rfl⟩ ⟨rfl, rfl⟩ cells_int rfl g3
      simp only [List.cons.injEq, and_true] at e0 e1 e2 e3
      obtain ⟨e3, e4, e5, e6, e7⟩ := e3
      subst e0 e1 e2 e3 e4 e5 e6 e7
      exact ⟨⟨b, r, q, ⟨a, b1, c, d, e⟩⟩, k51_mk w ⟨b, r, q, ⟨a, b1, c, d, e⟩⟩, ⟨rng_of r1, rng_of r2, ra, rb, rc, rd, re⟩⟩
theorem open_steps {a : Option Addr} {len cap : Nat} {d : DataW H} {p : List MemPlace} (h : DataW.Trod enc Tryd.prog w 0 sp held 22 (.slice a len cap) d p) :
    ∃ xs : List S51, len = xs.length ∧ xs.length ≤ cap ∧ Kd.C k51 w a xs.length xs ∧ ∀ x ∈ xs, SpOk x := by
  obtain ⟨fuel, hf⟩ := h
  have hf' : DataW.trod enc Tryd.prog w 0 sp held fuel 22 [.slice a len cap] = some (d, p) := hf
  obtain ⟨A, c, xs, e, h1, h2, h3⟩ := open_kdP k51 SpOk Tryd.underlying22 cells_step (fun n cs y hl hy => trod_step (by exact hl) hy) hf'
  injection e with e1 e2 e3
  subst e1 e2 e3
  exact ⟨xs, rfl, h1, h2, h3⟩
end
/-- the three tables that a row lists -/
abbrev laid3 {H : Type} : List (String × DataW H) := [("math/bits.deBruijn32tab", Rows.laid_math_bits_deBruijn32tab), ("math/bits.deBruijn64tab", Rows.laid_math_bits_deBruijn64tab), ("internal/strconv.uint64pow10", Rows.laid_internal_strconv_uint64pow10)]
theorem door_met (os : Os) (args : Array Value) : laidMetH Tryd.prog laid3 ((World.doorLaid Tryd.prog 24 os).forCall (fun _ _ => 0) ⟨#[], args, []⟩).memory :=
  laidMetH_of_parts3 (fuel := 8) (laidMet_of_run' 8 (by kernel_rfl) (by kernel_rfl)) (by kernel_rfl) (by kernel_rfl)
theorem tTab : (Tryd.prog.globals[1]?).map (·.type) = some 91 := by kernel_rfl
theorem tab_of_laid {W : World} (h : laidMetH Tryd.prog laid3 W) : Tab W := by
  rw [MakeChecks.laidMetH_plain _ _ _ (by kernel_rfl)] at h
  obtain ⟨ps, ⟨g0, t0, cs0, f0, p0, q0, hg0, ht0, hv0, hd0, ⟨g1, t1, cs1, f1, p1, q1, hg1, ht1, hv1, hd1, ⟨g2, t2, cs2, f2, p2, q2, hg2, ht2, hv2, hd2, _, _⟩, _⟩, _⟩, _, _⟩ := h
  obtain rfl := Option.some.inj (gTab.symm.trans hg2)
  obtain rfl := Option.some.inj (tTab.symm.trans ht2)
  have hc := Lib.cells_of_tab (k := .u64) (zs := Lib.pow10Tab) Tryd.underlying91 Tryd.underlying60 (by kernel_rfl) (by kernel_rfl) hd2
  have ht : Lib.TabIs Tryd.prog W "internal/strconv.uint64pow10" .u64 Lib.pow10Tab := by
    unfold Lib.TabIs
    rw [hv2, ← hc]
  exact ⟨ht, World.block_lt_of_cell? W _ (ht.cell gTab 0 (by decide))⟩
end Go.Proofs.YtfmlpcdbllpcaaaDoor.HR

namespace Go.Proofs.YtfmlpcdbllpcaaaDoor.HX
open Go.Proofs.YtfmlpcdbllpcaaaDoor.HD (Ch mayP mayQ eqC eqC_iff rd_ch)
open Go.Proofs.YtfmlpcdbllpcaaaDoor.HQ Go.Proofs.YtfmlpcdbllpcaaaDoor.HU Go.RowKit Go.Proofs.YtfmlpcdbllpcaaaDoor.HK Go.Proofs.YtfmlpcdbllpcaaaDoor.HP Go.Proofs.YtfmlpcdbllpcaaaDoor.Qcbase Go.Proofs.YtfmlpcdbllpcaaaDoorW.PrintWords Go.Proofs.YtfmlpcdbllpcaaaDoorW.PrintLast Go.Proofs.YtfmlpcdbllpcaaaDoorW.PrintMore
set_option linter.unusedVariables false
set_option linter.unusedSimpArgs false
theorem next_form (n : Nat) : ∀ ls : List Lv, ls.length = n → nextF ls = [] ∨ ∃ t x s, ls = t ++ x :: s ∧ x.f2 + 1 < manyI x ∧ nextF ls = t ++ [HQ.up x] := by
  induction n with
  | zero =>
    intro ls hl
    obtain rfl := List.eq_nil_of_length_eq_zero hl
    exact .inl rfl
  | succ n ih =>
    intro ls hl
    rcases snoc_cases ls with rfl | ⟨t, x, rfl⟩
    · simp at hl
    · rw [nextF_snoc]
      by_cases hu : x.f2 + 1 < manyI x
      · rw [if_pos hu]
        exact .inr ⟨t, x, [], rfl, hu, rfl⟩
      · rw [if_neg hu]
        rcases ih t (by simpa using hl) with h | ⟨t', x', s', h1, h2, h3⟩
        · exact .inl h
        · exact .inr ⟨t', x', s' ++ [x], by rw [h1]; simp, h2, h3⟩
theorem mayQ_at (r q : Int) (l : List Ch) : ∀ (n i : Nat), mayQ r q l n i = true → ∀ j, i ≤ j → j < i + n → (l.take j).any (eqC (rd_T49 l (j : Int))) = false
  | 0, i, _, j, h1, h2 => by omega
  | n + 1, i, h, j, h1, h2 => by
    unfold HD.mayQ at h
    simp only [Bool.and_eq_true] at h
    by_cases hji : j = i
    · subst hji
      simpa using h.2.2.1
    · exact mayQ_at r q l n (i + 1) h.2.2.2 j (by omega) (by omega)
theorem may_apart {r q : Int} {l : List Ch} (h : mayP r q l = true) {i j : Nat} (hij : i < j) (hj : j < l.length) : eqC l[i] l[j] = false := by
  unfold HD.mayP at h
  simp only [Bool.and_eq_true] at h
  have := mayQ_at r q l l.length 0 h.1 j (by omega) (by omega)
  rw [List.any_eq_false] at this
  rw [rd_ch hj] at this
  have h2 := this l[i] (by rw [List.mem_take_iff_getElem]; exact ⟨i, by omega, rfl⟩)
  cases hh : eqC l[i] l[j] with
  | false => rfl
  | true => rw [HD.eqC_comm] at hh; exact absurd hh h2
theorem place_off (r q a b c0 c1 c2 c3 c4 : Int) (l : List Ch) (hl : l.length ≤ 1000) : ∀ d i : Nat, l.length - i = d → i ≤ l.length → Ev (fun k => dispatcherlaw24_place.l0 k (i : Int) r q l true a b c0 c1 c2 c3 c4) (l.length : Int)
  | 0, i, hd, hi => by
    refine Ev.round (f := fun _ => some (l.length : Int)) (Ev.now _) (fun k => ?_)
    rw [dispatcherlaw24_place.l0, if_neg (by omega)]
  | d + 1, i, hd, hi => by
    refine Ev.round (place_off r q a b c0 c1 c2 c3 c4 l hl d (i + 1) (by omega) (by omega)) (fun k => ?_)
    rw [dispatcherlaw24_place.l0, if_pos (by omega), if_pos rfl, wrap64_nat i (by omega)]
theorem place_on (r q a b : Int) (l : List Ch) (hl : l.length ≤ 1000) {n : Nat} (hn : n < l.length) (hd0 : ∀ i, i < n → eqC (rd_T49 l (i : Int)) l[n] = false) : ∀ d i : Nat, n - i = d → i ≤ n → Ev (fun k => dispatcherlaw24_place.l0 k (i : Int) r q l false a b l[n].f0 l[n].f1 l[n].f2 l[n].f3 l[n].f4) (n : Int)
  | 0, i, hd, hi => by
    obtain rfl : i = n := by omega
    refine Ev.round (f := fun _ => some (i : Int)) (Ev.now _) (fun k => ?_)
    rw [dispatcherlaw24_place.l0, if_pos (by omega), if_neg (by decide), if_pos (by omega), rd_ch hn, if_pos (by simp)]
  | d + 1, i, hd, hi => by
    refine Ev.round (place_on r q a b l hl hn hd0 d (i + 1) (by omega) (by omega)) (fun k => ?_)
    rw [dispatcherlaw24_place.l0, if_pos (by omega), if_neg (by decide), if_pos (by omega), if_neg (by have := hd0 i (by omega); unfold HD.eqC at this; rw [this]; decide), wrap64_nat i (by omega)]
/-- where a level's step stands -/
theorem place_c (x : Lv) (A : Option Addr) (c : Nat) (w : World) (hr : Kd.C k49 w A x.f0.f2.length x.f0.f2) (hc : x.f0.f2.length ≤ c) (hm : mayP x.f0.f0 x.f0.f1 x.f0.f2 = true) (hf : Fit x) :
    Calls Tryd.prog 20 #[.agg #[.int .i64 x.f0.f0, .int .i64 x.f0.f1, .slice A x.f0.f2.length c], .agg (spL (stepOf x)).toArray] w fun e w' => e = .returned (.int .i64 x.f2) ∧ Below w.heap.size w w' := by
  obtain ⟨h0, h1, h2⟩ := hf
  have hle : x.f2 ≤ x.f0.f2.length := by unfold HQ.manyI at h1; split at h1 <;> omega
  by_cases he : x.f2 = (x.f0.f2.length : Int)
  · have hs : stepOf x = ⟨true, x.f0.f0, x.f0.f1, z49⟩ := by unfold HQ.stepOf; rw [if_pos he]
    obtain ⟨k, hk⟩ := (place_off x.f0.f0 x.f0.f1 x.f0.f0 x.f0.f1 0 0 0 0 0 x.f0.f2 h2 x.f0.f2.length 0 (by omega) (by omega)).rounds
    rw [hs, he]
    exact dispatcherlaw24_place.calls k x.f0.f0 x.f0.f1 A c x.f0.f2 true x.f0.f0 x.f0.f1 0 0 0 0 0 _ w hr hc hk
  · obtain ⟨n, hn⟩ : ∃ n : Nat, x.f2 = n := ⟨x.f2.toNat, by omega⟩
    have hnl : n < x.f0.f2.length := by omega
    have hs : stepOf x = ⟨false, x.f0.f0, x.f0.f1, x.f0.f2[n]⟩ := by unfold HQ.stepOf; rw [if_neg he, hn, rd_ch hnl]
    obtain ⟨k, hk⟩ := (place_on x.f0.f0 x.f0.f1 x.f0.f0 x.f0.f1 x.f0.f2 h2 hnl (fun i hi => by rw [rd_ch (by omega)]; exact may_apart hm hi hnl) n 0 (by omega) (by omega)).rounds
    rw [hs, hn]
    exact dispatcherlaw24_place.calls k x.f0.f0 x.f0.f1 A c x.f0.f2 false x.f0.f0 x.f0.f1 _ _ _ _ _ _ w hr hc hk
abbrev Sl := Option Addr × Nat × Nat
def encSl (s : Sl) : Value := .slice s.1 s.2.1 s.2.2
def kP : Kd (Int × Int × Sl) := Kd.pair (Kd.int .i64) (Kd.pair (Kd.int .i64) (Kd.scalar encSl (fun _ => rfl)))
theorem kP_mkM (W : World) (base : Nat) (ok : Nat → Prop) (r q : Int) (A : Option Addr) (n c : Nat) : kP.M W base ok (r, q, (A, n, c)) [.int .i64 r, .int .i64 q, .slice A n c] :=
  ⟨[.int .i64 r], [.int .i64 q, .slice A n c], rfl, rfl, ⟨[.int .i64 q], [.slice A n c], rfl, rfl, rfl⟩⟩
theorem kP_at {W : World} {A : Option Addr} {n : Nat} {ps : List (Int × Int × Sl)} (h : kP.C W A n ps) (i : Nat) (hi : i < n) {r q : Int} {A3 : Option Addr} {m c : Nat} (hx : ps[i]? = some (r, q, (A3, m, c))) :
    ∃ ad, A = some ad ∧ W.cell? (ad.add (i * 3)) = some (.int .i64 r) ∧ W.cell? ⟨(ad.add (i * 3)).block, (ad.add (i * 3)).off + 1, none⟩ = some (.int .i64 q) ∧ W.cell? ⟨(ad.add (i * 3)).block, (ad.add (i * 3)).off + 2, none⟩ = some (.slice A3 m c) := by
  obtain ⟨ad, cs, e, _, hK, hc⟩ := Kd.C_get h (0, 0, (none, 0, 0)) (i : Int) (by omega) (by omega)
  rw [Int.toNat_natCast, List.getD_eq_getElem?_getD, hx, Option.getD_some] at hK
  obtain ⟨_, _, rfl, rfl, _, _, rfl, rfl, rfl⟩ := hK
  have hc : ∀ j u, [Value.int .i64 r, .int .i64 q, .slice A3 m c][j]? = some u → W.cell? (ad.add (i * 3 + j)) = some u := fun j u hu => by
    have := hc j u hu
    rw [Int.toNat_natCast] at this
    exact this
  exact ⟨ad, e, hc 0 _ rfl, by rw [← add_field _ _ 1 (by omega)]; exact hc 1 _ rfl, by rw [← add_field _ _ 2 (by omega)]; exact hc 2 _ rfl⟩
theorem infoP : (Tryd.prog.info? 38).map (fun i => (i.zero, i.size, i.bytes)) = some (some (.agg #[.int .i64 0, .int .i64 0, .slice none 0 0]), 3, 40) := by kernel_rfl
/-- the points of a stack's levels, each as it came in -/
structure PR (w1 : World) (ls : List Lv) (ps : List (Int × Int × Sl)) : Prop where
  len : ps.length = ls.length
  pt : ∀ (j : Nat) (x : Lv), ls[j]? = some x → ∃ A c, ps[j]? = some (x.f0.f0, x.f0.f1, (A, x.f0.f2.length, c)) ∧ x.f0.f2.length ≤ c ∧ Kd.C k49 w1 A x.f0.f2.length x.f0.f2
theorem PR.snoc {w1 : World} {ls : List Lv} {ps : List (Int × Int × Sl)} (h : PR w1 ls ps) {r q : Int} {vs : List Ch} {off : Bool} {A : Option Addr} {c : Nat} (hc : vs.length ≤ c) (hC : Kd.C k49 w1 A vs.length vs) :
    PR w1 (ls ++ [⟨⟨r, q, vs⟩, off, 0⟩]) (ps ++ [(r, q, (A, vs.length, c))]) := by
  refine ⟨by rw [List.length_append, List.length_append, h.len]; rfl, fun j x hx => ?_⟩
  by_cases hj : j < ls.length
  · rw [List.getElem?_append_left hj] at hx
    rw [List.getElem?_append_left (by rw [h.len]; exact hj)]
    exact h.pt j x hx
  · rw [List.getElem?_append_right (by omega)] at hx
    rw [List.getElem?_append_right (by rw [h.len]; omega), h.len]
    have : j - ls.length = 0 := by
      cases hz : j - ls.length with
      | zero => rfl
      | succ m => rw [hz] at hx; simp at hx
    rw [this] at hx ⊢
    simp at hx
    subst hx
    exact ⟨A, c, rfl, hc, hC⟩
theorem PR.nil (w1 : World) : PR w1 [] [] := ⟨rfl, fun j x h => by simp at h⟩
theorem PR.next {w1 : World} {ls : List Lv} {ps : List (Int × Int × Sl)} (h : PR w1 ls ps) {t s : List Lv} {x : Lv} (hl : ls = t ++ x :: s) : PR w1 (t ++ [HQ.up x]) (ps.take (t.length + 1)) := by
  have hpl := h.len
  rw [hl] at hpl
  simp only [List.length_append, List.length_cons] at hpl
  refine ⟨by rw [List.length_take, List.length_append, List.length_singleton]; omega, fun j y hy => ?_⟩
  have hj : j < t.length + 1 := by
    have := (List.getElem?_eq_some_iff.1 hy).1
    simpa using this
  rw [List.getElem?_take_of_lt hj]
  by_cases hjt : j < t.length
  · rw [List.getElem?_append_left hjt] at hy
    exact h.pt j y (by rw [hl, List.getElem?_append_left hjt]; exact hy)
  · obtain rfl : j = t.length := by omega
    rw [List.getElem?_append_right (Nat.le_refl _)] at hy
    simp at hy
    subst hy
    exact h.pt t.length x (by rw [hl, List.getElem?_append_right (Nat.le_refl _)]; simp)
theorem points_keep {W W' : World} {base base2 : Nat} {ok ok' : Nat → Prop} {g : Nat} {v vp : Value} {ls : List Lv} {ps : List (Int × Int × Sl)} (h : kP.R 38 W base2 ok' vp ps) (hs : Sq W base ok g v ls) (hk : Kept W W' (fun k => k = g ∨ some k = v.ownBlock)) : kP.R 38 W' base2 ok' vp ps :=
  Kd.R_mono (Kd.R_kept (Kd.R_tight rfl h) hk (fun k hkk hw => by
    rcases hw with rfl | hw
    · exact Kd.R_ne h hs.blk (by decide) hkk
    · obtain ⟨c, hc⟩ := Kd.Q_typed hs.row k hw.symm
      exact Kd.R_ne h hc (by decide) hkk)) (fun k hkk => h.1 k hkk.symm)
theorem Sq.keep_p {W W' : World} {base base2 : Nat} {ok ok' : Nat → Prop} {g : Nat} {v vp : Value} {ls : List Lv} {ps : List (Int × Int × Sl)} (hs : Sq W base ok g v ls) (h : kP.R 38 W base2 ok' vp ps) (hk : Kept W W' (fun k => some k = vp.ownBlock)) : Sq W' base ok g v ls :=
  ⟨blk_kept hs.blk hk (fun hw => Kd.R_ne h hs.blk (by decide) hw), hs.hg,
    Kd.Q_mono (Kd.Q_kept (Kd.Q_apart' hs.row (Kd.R_typed h) HQ.E58) hk (fun k hkk hw => hkk.2 hw)) (fun _ hkk => hkk.1)⟩
end Go.Proofs.YtfmlpcdbllpcaaaDoor.HX

namespace Go.Proofs.YtfmlpcdbllpcaaaDoor.HX
open Go.Proofs.YtfmlpcdbllpcaaaDoor.HD (Ch mayP)
open Go.Proofs.YtfmlpcdbllpcaaaDoor.HQ Go.Proofs.YtfmlpcdbllpcaaaDoor.HU Go.RowKit Go.Proofs.YtfmlpcdbllpcaaaDoor.HK Go.Proofs.YtfmlpcdbllpcaaaDoor.HP Go.Proofs.YtfmlpcdbllpcaaaDoorW.PrintWords Go.Proofs.YtfmlpcdbllpcaaaDoorW.PrintLast Go.Proofs.YtfmlpcdbllpcaaaDoorW.PrintMore
set_option linter.unusedVariables false
set_option linter.unusedSimpArgs false
theorem row_keep {α : Type} {d : Kd α} (hE : d.E = []) {e : Nat} (h1 : e ≠ 59) (h2 : e ≠ 63) {W W' : World} {base base2 : Nat} {ok ok' : Nat → Prop} {g : Nat} {v vp : Value} {ls : List Lv} {ps : List α} (h : d.R e W base2 ok' vp ps) (hs : Sq W base ok g v ls) (hk : Kept W W' (fun k => k = g ∨ some k = v.ownBlock)) : d.R e W' base2 ok' vp ps :=
  Kd.R_mono (Kd.R_kept (Kd.R_tight hE h) hk (fun k hkk hw => by
    rcases hw with rfl | hw
    · exact Kd.R_ne h hs.blk h1 hkk
    · obtain ⟨c, hc⟩ := Kd.Q_typed hs.row k hw.symm
      exact Kd.R_ne h hc h2 hkk)) (fun k hkk => h.1 k hkk.symm)
theorem fit_app2 {ls : List Lv} {x : Lv} (h : ∀ y ∈ ls, Fit y) (hx : Fit x) : ∀ y ∈ ls ++ [x], Fit y := fun y hy => by
  rcases List.mem_append.1 hy with hy | hy
  · exact h y hy
  · rw [List.mem_singleton.1 hy]; exact hx
def MayL (x : Lv) : Prop := mayP x.f0.f0 x.f0.f1 x.f0.f2 = true
set_option maxRecDepth 100000 in
set_option maxHeartbeats 16000000 in
theorem pathOrder_calls (A : Option Addr) (c : Nat) (l : List Act_) (w : World) (hr : Kd.C k47 w A l.length l) (hc : l.length ≤ c) (ht : Tab w) :
    Calls Tryd.prog 5 #[.slice A l.length c] w fun e w' => e = .returned (.bool true) ∧ Below w.heap.size w w' := by
  have HR0 := Aside0.mk hr
  have HT := Aside0.mk ht
  clear hr ht
  go_enter Tryd.func5, Tryd.ntmps5
  go_wp2_with fail
  refine (awake_c w HT.out).mono ?_
  rintro e w0 ⟨rfl, hb⟩
  have HB0 := Aside0.mk hb
  have HR1 := Aside0.mk (Kd.C_below HR0.out hb)
  clear hb HR0 HT
  have HGR := Aside0.mk (fun h => great_not (a := l) h)
  go_wp2_with fail
  refine (great_c A c l w0 HR1.out hc).mono ?_
  rintro e w1 ⟨rfl, hb⟩
  have HB1 := Aside0.mk (below_then HB0.out HB0.out.size hb)
  have HR := Aside0.mk (Kd.C_below HR1.out hb)
  clear hb HR1 HB0
  generalize greatB l = gr at HGR ⊢
  cases gr with
  | true =>
    go_wp2
    go_ret
    exact ⟨rfl, HB1.out⟩
  | false =>
    obtain ⟨hl200, hv0⟩ := HGR.out rfl
    have HV := Aside0.mk hv0
    clear hv0 HGR
    go_wp2_with fail
    refine (HQ.new_calls w1 (fun _ => True)).mono ?_
    rintro e w2 ⟨rfl, hs, hb⟩
    have HS2 := Aside0.mk hs
    have HB2 := Aside0.mk hb
    clear hs hb
    obtain ⟨g, hg⟩ : ∃ g : Nat, g = w1.heap.size := ⟨_, rfl⟩
    rw [← hg] at HS2 HB2 ⊢
    have HG := Aside0.mk hg
    clear hg
    go_wp2_with fail
    go_loopw [4, 5] (fun v4 v5 wr => ∃ (i : Nat) (v' : Value) (ls : List Lv) (ps : List (Int × Int × Sl)), i ≤ l.length ∧ v5 = .int .i64 i ∧ Aside0 (Sq wr g (fun _ => True) g v' ls) ∧ Aside0 (∀ x ∈ ls, Fit x) ∧ Aside0 (∀ x ∈ ls, MayL x) ∧ Aside0 (ls.length ≤ i) ∧ Aside0 (PR w1 ls ps) ∧ Aside0 (kP.R 38 wr g (fun _ => True) v4 ps) ∧ Aside0 (Below g w1 wr)) (fun _ v5 _ => l.length - (intOf v5).toNat)
    case atStart => exact ⟨0, _, [], [], by omega, rfl, HS2, ⟨fun _ h => by cases h⟩, ⟨fun _ h => by cases h⟩, ⟨Nat.le_refl _⟩, ⟨PR.nil _⟩, ⟨Kd.R_nil _ _ _ _ _⟩, HB2⟩
    case round =>
      clear HS2 HB2
      obtain ⟨i, v3, ls, ps, hi, rfl, HS, HF, HM, HLN, HPR, HPT, HB⟩ := hrel
      obtain ⟨w3, rfl⟩ : ∃ w3 : World, w3 = wr := ⟨_, rfl⟩
      obtain ⟨Ap, cp, hup, hcp, _⟩ := Kd.R_reads HPT.out
      subst hup
      by_cases hil : i < l.length
      · have hi64 : IntKind.i64.wrap ((i : Int) + 1) = (i : Int) + 1 := i64w (by omega) (by omega)
        have hii : (i : Int) < (l.length : Int) := by omega
        obtain ⟨ad, A3, c3, hA, x0, x1, x2, x3, x4, hc3, hC3⟩ := at_T47 HR.out (i : Int) (by omega) (by omega)
        rw [Int.toNat_natCast] at x0 x1 x2 x3 x4
        subst hA
        have hxm : rd_T47 l (i : Int) = l[i] := by simp [rd_T47, hil]
        have hvl := HV.out _ (List.getElem_mem hil)
        rw [hxm] at x0 x1 x2 x3 x4 hc3 hC3
        generalize l[i] = x at x0 x1 x2 x3 x4 hc3 hC3 hvl
        obtain ⟨xk, ⟨r, q, vs⟩, off⟩ := x
        dsimp only at x0 x1 x2 x3 x4 hc3 hC3 hvl
        have hgw : w1.heap.size = g := HG.out.symm
        have HBW := Aside0.mk (show Below w1.heap.size w1 w3 by rw [hgw]; exact HB.out)
        have X := Aside0.mk (And.intro x1 (And.intro x2 (And.intro x3 x4)))
        have HC3 := Aside0.mk hC3
        have y0 := pw_cell_below HBW.out x0
        have y1 := pw_cell_below HBW.out x1
        have y2 := pw_cell_below HBW.out x2
        have y3 := pw_cell_below HBW.out x3
        have y4 := pw_cell_below HBW.out x4
        clear x0 x1 x2 x3 x4 hC3 hxm
        rw [HPR.out.len] at hcp ⊢
        have hpt := HPT.out
        rw [HPR.out.len] at hpt
        have HPT := Aside0.mk hpt
        clear hpt
        cases hk2 : (xk.tmod 2 == 0) with
        | true =>
          cases hm : mayP r q vs with
          | false =>
            have HPU := Aside0.mk (push_bad g (fun _ => True) g v3 ls r q A3 c3 vs off w3.drew (HS.out.below (below_drew (Below.refl _ _))) (Kd.C_below HC3.out (below_then HBW.out HBW.out.size (below_drew (Below.refl _ _)))) hc3 hm)
            clear hm
            go_upto_region 11 with fail
            go_region_held3 (fun W => W.cell? ⟨(ad.add (i * 5)).block, (ad.add (i * 5)).off + 1, none⟩ = some (.int .i64 r) ∧ W.cell? ⟨(ad.add (i * 5)).block, (ad.add (i * 5)).off + 2, none⟩ = some (.int .i64 q) ∧ W.cell? ⟨(ad.add (i * 5)).block, (ad.add (i * 5)).off + 3, none⟩ = some (.slice A3 vs.length c3) ∧ W.cell? ⟨(ad.add (i * 5)).block, (ad.add (i * 5)).off + 4, none⟩ = some (.bool off))
              (first | exact ⟨z1, z2, z3, z4⟩ | exact ⟨y1, y2, y3, y4⟩)
              ((go_at_call 14; with_reducible refine HPU.out.mono ?_; rintro e w5 ⟨rfl, hb⟩; have HB5 := Aside0.mk (below_of_drew hb); have z1 := pw_cell_below (below_of_drew hb) y1; have z2 := pw_cell_below (below_of_drew hb) y2; have z3 := pw_cell_below (below_of_drew hb) y3; have z4 := pw_cell_below (below_of_drew hb) y4; clear hb))
            all_goals (
              have HS5 := Aside0.mk (HS.out.below HB5.out)
              have HL5 := Aside0.mk (show Below g w1 w5 by rw [← hgw]; exact below_then HBW.out HBW.out.size HB5.out)
              have HPT5 := Aside0.mk (Kd.R_below HPT.out HB5.out)
              have hln : ls.length ≤ i + 1 := by have := HLN.out; omega
              clear y0 y1 y2 y3 y4 z1 z2 z3 z4 HPU HBW hk2
              go_wp2
              refine ⟨⟨i + 1, v3, ls, ps, by omega, by go_num, HS5, HF, HM, ⟨hln⟩, HPR, HPT5, HL5⟩, ?_⟩
              simp [intOf]
              omega)
          | true =>
            have HFN := Aside0.mk (fit_new (off := off) hm (by omega))
            have HMN : Aside0 (MayL ⟨⟨r, q, vs⟩, off, 0⟩) := ⟨hm⟩
            have HPU := Aside0.mk (push_ok g (fun _ => True) g v3 ls r q A3 c3 vs off w3.drew (HS.out.below (below_drew (Below.refl _ _))) (by have := HB.out.size; have := HG.out; show g ≤ w3.heap.size; omega) (fun _ _ => trivial) (Kd.C_below HC3.out (below_then HBW.out HBW.out.size (below_drew (Below.refl _ _)))) hc3 (by omega) hm (by have := HLN.out; omega))
            clear hm
            go_upto_region 11 with fail
            go_region_held3 (fun W => W.cell? ⟨(ad.add (i * 5)).block, (ad.add (i * 5)).off + 1, none⟩ = some (.int .i64 r) ∧ W.cell? ⟨(ad.add (i * 5)).block, (ad.add (i * 5)).off + 2, none⟩ = some (.int .i64 q) ∧ W.cell? ⟨(ad.add (i * 5)).block, (ad.add (i * 5)).off + 3, none⟩ = some (.slice A3 vs.length c3) ∧ W.cell? ⟨(ad.add (i * 5)).block, (ad.add (i * 5)).off + 4, none⟩ = some (.bool off))
              (first | exact ⟨z1, z2, z3, z4⟩ | exact ⟨y1, y2, y3, y4⟩)
              ((go_at_call 14; with_reducible refine HPU.out.mono ?_; rintro e w5 ⟨rfl, ⟨v5, hs5, _⟩, hkp, hb⟩; have HL5 := Aside0.mk (show Below w1.heap.size w1 w5 by rw [hgw]; exact HB.out.trans ((below_drew (Below.refl g w3)).trans hb)); have HS5 := Aside0.mk hs5; have HPT5 := Aside0.mk (points_keep (Kd.R_below HPT.out (below_drew (Below.refl _ _))) (HS.out.below (below_drew (Below.refl _ _))) hkp); have z1 := pw_cell_below HL5.out X.out.1; have z2 := pw_cell_below HL5.out X.out.2.1; have z3 := pw_cell_below HL5.out X.out.2.2.1; have z4 := pw_cell_below HL5.out X.out.2.2.2; clear hb hs5 hkp))
            all_goals (
              have HL6 := Aside0.mk (show Below g w1 w5 by rw [← hgw]; exact HL5.out)
              have HF6 := Aside0.mk (fit_app2 HF.out HFN.out)
              have HM6 := Aside0.mk (show ∀ y ∈ ls ++ [(⟨⟨r, q, vs⟩, off, 0⟩ : Lv)], MayL y from fun y hy => (List.mem_append.1 hy).elim (HM.out y) (fun h => List.mem_singleton.1 h ▸ HMN.out))
              have HLN6 := Aside0.mk (show (ls ++ [(⟨⟨r, q, vs⟩, off, 0⟩ : Lv)]).length ≤ i + 1 by have := HLN.out; rw [List.length_append, List.length_singleton]; omega)
              have HPR6 := Aside0.mk (HPR.out.snoc (r := r) (q := q) (off := off) hc3 HC3.out)
              have hgz : g ≤ w5.heap.size := by have := HL6.out.size; have := HG.out; omega
              have hk40 : (ps.length + 1) * 40 ≤ 140737488355328 := by have := HPR.out.len; have := HLN.out; omega
              clear y0 y1 y2 y3 y4 HPU HBW hk2
              go_wp2_with (at_builtin; refine Kd.R_append kP (w0 := w5) g ?_ (.tmp 41) (.tmp 47) 45 38 (.agg #[.int .i64 0, .int .i64 0, .slice none 0 0]) 40 ?_ ?_ ?_ ?_ ?_ ?_ (.slice Ap ls.length cp) ps (r, q, (A3, vs.length, c3)) [.int .i64 r, .int .i64 q, .slice A3 vs.length c3] (fun _ => True) (fun _ => False) ?_ ?_ ?_ ?_ ?_ ?_ ?_ ?_ ?_ ?_; exact rfl; exact rfl; exact Tryd.underlying45; exact infoP; exact rfl; exact (by decide); exact (by decide); exact rfl; exact rfl; exact kP_mkM _ _ _ _ _ _ _ _; exact (fun _ h => h.elim); exact (fun _ _ => trivial); exact HPT5.out; exact Below.refl _ _; exact hgz; exact hk40; intro v1 w6 ho hbl hgr hat; have HS6 := Aside0.mk (Sq.keep_p HS5.out HPT5.out (Kept.of_grown hgr (Kept.refl w5 _) (fun k hk => .inl hk.symm))); have HPT6 := Aside0.mk ho; have HL7 := Aside0.mk (HL6.out.trans hbl); clear ho hbl hgr hat)
              refine ⟨⟨i + 1, v5, _, _, by omega, by go_num, HS6, HF6, HM6, HLN6, HPR6, HPT6, HL7⟩, ?_⟩
              simp [intOf]
              omega)
        | false =>
          have HLN2 := Aside0.mk (show ls.length ≤ 2000 by have := HLN.out; omega)
          have HGZ := Aside0.mk (show g ≤ w3.heap.size by have := HB.out.size; have := HG.out; omega)
          have hln0 := HLN.out
          clear y1 y2 y3 y4 X HC3 hc3 hvl HBW
          go_wp2_with fail
          refine (steps_ok g (fun _ => True) g v3 ls w3 HS.out HF.out HLN2.out).mono ?_
          rintro e w4 ⟨v6, rfl, hR, hb⟩
          have HR6 := Aside0.mk hR
          have HS4 := Aside0.mk (HS.out.below hb)
          have HPT4 := Aside0.mk (Kd.R_below HPT.out hb)
          have HB4 := Aside0.mk (HB.out.trans (hb.mono HGZ.out))
          have HGZ4 := Aside0.mk (Nat.le_trans HGZ.out hb.size)
          clear hR hb HS HPT HB HGZ y0 hk2
          go_wp2_with fail
          refine (next_ok g (fun _ => True) g v3 ls w4 HS4.out HF.out).mono ?_
          rintro e w5 ⟨rfl, ⟨v7, hs7, _⟩, hkp, hb⟩
          have HS5 := Aside0.mk hs7
          have HR65 := Aside0.mk (row_keep rfl (by decide) (by decide) HR6.out HS4.out hkp)
          have HPT5 := Aside0.mk (points_keep HPT4.out HS4.out hkp)
          have HB5 := Aside0.mk (HB4.out.trans hb)
          have HGZ5 := Aside0.mk (Nat.le_trans HGZ4.out hb.size)
          have HF5 := Aside0.mk (nextF_fit HF.out)
          clear hs7 hkp hb HR6 HPT4 HS4 HB4 HGZ4
          go_wp2_with fail
          refine (steps_ok g (fun _ => True) g v7 (nextF ls) w5 HS5.out HF5.out (Nat.le_trans (nextF_le ls) HLN2.out)).mono ?_
          rintro e w6 ⟨v8, rfl, hR, hb⟩
          have HS6 := Aside0.mk (HS5.out.below hb)
          have HPT6 := Aside0.mk (Kd.R_below HPT5.out hb)
          have HR6 := Aside0.mk (Kd.R_below HR65.out hb)
          have HB6 := Aside0.mk (HB5.out.trans (hb.mono HGZ5.out))
          obtain ⟨A6, c6, hv6, hc6, hC6⟩ := Kd.R_reads HR6.out
          obtain ⟨A8, c8, hv8, hc8, hC8⟩ := Kd.R_reads hR
          subst hv6 hv8
          have HC6 := Aside0.mk hC6
          have HC8 := Aside0.mk hC8
          rw [List.length_map] at hc6 hc8 HC6 HC8 ⊢
          rw [List.length_map]
          clear hR hb HS5 HPT5 HR65 HB5 HGZ5 hC6 hC8 HR6
          rcases next_form ls.length ls rfl with hnx | ⟨t, x, s, hls, hxu, hnx⟩
          · rw [hnx] at HS6 HC8 hc8 HF5 ⊢
            have HPT7 := Aside0.mk (Kd.R_take (m := 0) HPT6.out (Nat.zero_le _))
            rw [List.take_zero] at HPT7
            rw [show decide (0 < ([] : List Lv).length) = false from rfl, show ([] : List Lv).length = 0 from rfl]
            clear HPT6 hnx
            go_wp2_with fail
            refine ⟨⟨i + 1, v7, [], [], by omega, by go_num, HS6, HF5, ⟨fun _ h => by cases h⟩, ⟨Nat.zero_le _⟩, ⟨PR.nil _⟩, HPT7, HB6⟩, ?_⟩
            simp [intOf]
            omega
          · have hxmem : x ∈ ls := by rw [hls]; simp
            have hFX := HF.out x hxmem
            have HMX := Aside0.mk (HM.out x hxmem)
            have HFX := Aside0.mk hFX
            have HFU : Aside0 (Fit (HQ.up x)) := ⟨HF5.out _ (by rw [hnx]; simp)⟩
            have HMN : Aside0 (∀ y ∈ t ++ [HQ.up x], MayL y) := ⟨fun y hy => (List.mem_append.1 hy).elim (fun h => HM.out y (by rw [hls]; exact List.mem_append_left _ h)) (fun h => by rw [List.mem_singleton.1 h]; exact HMX.out)⟩
            have HPRN := Aside0.mk (HPR.out.next hls)
            have hLn : ls.length = t.length + s.length + 1 := by rw [hls]; simp; omega
            have hnl : (nextF ls).length = t.length + 1 := by rw [hnx]; simp
            obtain ⟨Ax, cx, hpx, hcx, hCx⟩ := HPR.out.pt t.length x (by rw [hls]; simp)
            have hpl := HPR.out.len
            have e6 : rd_T51 (ls.map stepOf) (t.length : Int) = stepOf x := by simp [rd_T51, hls]
            have e8 : rd_T51 ((nextF ls).map stepOf) (t.length : Int) = stepOf (HQ.up x) := by simp [rd_T51, hnx]
            obtain ⟨a6, hA6, u0, u1, u2, u3, u4, u5, u6, u7⟩ := at_T51 HC6.out (t.length : Int) (by omega) (by omega)
            obtain ⟨a8, hA8, k0, k1, k2, k3, k4, k5, k6, k7⟩ := at_T51 HC8.out (t.length : Int) (by omega) (by omega)
            obtain ⟨Ap', cp', he, hcp', hCP⟩ := Kd.R_reads HPT6.out
            injection he with he1 he2 he3
            obtain ⟨aP, hAP, p0, p1, p2⟩ := kP_at hCP t.length (by omega) hpx
            subst hA6 hA8 hAP
            subst he1 he3
            rw [Int.toNat_natCast, e6] at u0 u1 u2 u3 u4 u5 u6 u7
            rw [Int.toNat_natCast, e8] at k0 k1 k2 k3 k4 k5 k6 k7
            have h60 : (stepOf x).f0 = false := by
              unfold HQ.stepOf
              have h1 := hxu
              unfold HQ.manyI at h1
              rw [if_neg (by split at h1 <;> omega)]
            rw [h60] at u0
            have hfx : 0 ≤ x.f2 ∧ x.f2 ≤ 1000 := by have := many_of hFX; omega
            have C6t : Kd.C k51 w6.drew (some a6) (t.map stepOf).length (t.map stepOf) := by
              have h1 : Kd.C k51 w6 (some a6) (ls.map stepOf).length (ls.map stepOf) := by rw [List.length_map]; exact HC6.out
              have h2 := Kd.C_take (m := t.length) h1 (by rw [List.length_map]; omega)
              rw [show (ls.map stepOf).take t.length = t.map stepOf by rw [hls, List.map_append, List.take_left' (by simp)]] at h2
              exact Kd.C_below h2 (below_drew (Below.refl _ _))
            have C8t : Kd.C k51 w6.drew (some a8) (t.map stepOf).length (t.map stepOf) := by
              have h1 : Kd.C k51 w6 (some a8) ((nextF ls).map stepOf).length ((nextF ls).map stepOf) := by rw [List.length_map]; exact HC8.out
              have h2 := Kd.C_take (m := t.length) h1 (by rw [List.length_map]; omega)
              rw [show ((nextF ls).map stepOf).take t.length = t.map stepOf by rw [hnx, List.map_append, List.take_left' (by simp)]] at h2
              exact Kd.C_below h2 (below_drew (Below.refl _ _))
            have hSM := same_c (some a8) c8 (some a6) c6 (t.map stepOf) w6.drew C8t (by rw [List.length_map]; omega) C6t (by rw [List.length_map]; omega)
            rw [List.length_map] at hSM
            have HSM := Aside0.mk hSM
            have HPL1 : Aside0 (∀ W, Below w6.heap.size w6 W → Calls Tryd.prog 20 #[.agg #[.int .i64 x.f0.f0, .int .i64 x.f0.f1, .slice Ax x.f0.f2.length cx], .agg #[.bool (stepOf (HQ.up x)).f0, .int .i64 (stepOf (HQ.up x)).f1, .int .i64 (stepOf (HQ.up x)).f2, .int .i64 (stepOf (HQ.up x)).f3.f0, .int .i64 (stepOf (HQ.up x)).f3.f1, .int .i64 (stepOf (HQ.up x)).f3.f2, .int .i64 (stepOf (HQ.up x)).f3.f3, .int .i64 (stepOf (HQ.up x)).f3.f4]] W fun e w' => e = .returned (.int .i64 (x.f2 + 1)) ∧ Below W.heap.size W w') :=
              ⟨fun W hW => place_c (HQ.up x) Ax cx W (Kd.C_below hCx (by rw [hgw]; exact HB6.out.trans (hW.mono (by have := HB6.out.size; have := HG.out; omega)))) hcx HMX.out HFU.out⟩
            have HPL2 : Aside0 (∀ W, Below w6.heap.size w6 W → Calls Tryd.prog 20 #[.agg #[.int .i64 x.f0.f0, .int .i64 x.f0.f1, .slice Ax x.f0.f2.length cx], .agg #[.bool false, .int .i64 (stepOf x).f1, .int .i64 (stepOf x).f2, .int .i64 (stepOf x).f3.f0, .int .i64 (stepOf x).f3.f1, .int .i64 (stepOf x).f3.f2, .int .i64 (stepOf x).f3.f3, .int .i64 (stepOf x).f3.f4]] W fun e w' => e = .returned (.int .i64 x.f2) ∧ Below W.heap.size W w') :=
              ⟨fun W hW => by
                have h := place_c x Ax cx W (Kd.C_below hCx (by rw [hgw]; exact HB6.out.trans (hW.mono (by have := HB6.out.size; have := HG.out; omega)))) hcx HMX.out HFX.out
                unfold spL at h
                rw [h60] at h
                exact h⟩
            have HPT7 := Aside0.mk (Kd.R_take (m := t.length + 1) HPT6.out (by omega))
            have HF7 := Aside0.mk HF5.out
            rw [hnx] at HS6 HF7
            have HLN7 := Aside0.mk (show (t ++ [HQ.up x]).length ≤ i + 1 by have := HLN.out; rw [List.length_append, List.length_singleton]; omega)
            have hdec : decide (0 < (nextF ls).length) = true := decide_eq_true (by omega)
            have hc8' : t.length + 1 ≤ c8 := by rw [← hnl]; exact hc8
            rw [hdec, hnl]
            clear hdec HC6 HC8 hCP hCx hcx hpx he2 hls hnx hnl hFX hxmem e6 e8 h60 C6t C8t hSM HPT6 HF5 HFX HFU HMX hcp'
            generalize (stepOf (HQ.up x)) = S8 at k0 k1 k2 k3 k4 k5 k6 k7 HPL1
            generalize (stepOf x) = S6 at u1 u2 u3 u4 u5 u6 u7 HPL2
            generalize x.f2 = fx at hfx HPL1 HPL2
            generalize x.f0.f0 = r0 at p0 HPL1 HPL2
            generalize x.f0.f1 = q0 at p1 HPL1 HPL2
            generalize x.f0.f2.length = mx at p2 HPL1 HPL2
            obtain ⟨n, hn⟩ : ∃ n : Nat, n = t.length := ⟨_, rfl⟩
            rw [← hn] at hc8' u0 u1 u2 u3 u4 u5 u6 u7 k0 k1 k2 k3 k4 k5 k6 k7 p0 p1 p2 HSM HPT7 HPRN hLn ⊢
            obtain ⟨L, hL⟩ : ∃ L : Nat, L = ls.length := ⟨_, rfl⟩
            rw [← hL] at hLn hln0 hcp hc6 ⊢
            have hnc8 : n ≤ c8 := by omega
            have hnc6 : n ≤ c6 := by omega
            have hncp : n + 1 ≤ cp := by omega
            have hnc8i : (n : Int) ≤ (c8 : Int) := by omega
            have hnc6i : (n : Int) ≤ (c6 : Int) := by omega
            have hn0i : (0 : Int) ≤ (n : Int) := by omega
            have hc80 : ¬ c8 = 0 := by omega
            have hc60 : ¬ c6 = 0 := by omega
            have hnL : (n : Int) < (L : Int) := by omega
            have hnn : (n : Int) < (n : Int) + 1 := by omega
            have hnL2 : ¬ L < n + 1 := by omega
            have hw1 : IntKind.i64.wrap ((n : Int) + 1 - 1) = (n : Int) := (i64w (by omega) (by omega)).trans (by omega)
            have hw2 : IntKind.i64.wrap (n : Int) = (n : Int) := i64w (by omega) (by omega)
            have hw3 : IntKind.i64.wrap (fx + 1) = fx + 1 := i64w (by omega) (by omega)
            clear hfx hLn hln0 hcp hc6 hc8 hpl hxu hn hL hc8'
            go_upto_region 21 with fail
            go_region_held3 (fun W => W.cell? (a6.add (n * 8)) = some (.bool false) ∧ W.cell? ⟨(a6.add (n * 8)).block, (a6.add (n * 8)).off + 1, none⟩ = some (.int .i64 S6.f1) ∧ W.cell? ⟨(a6.add (n * 8)).block, (a6.add (n * 8)).off + 2, none⟩ = some (.int .i64 S6.f2) ∧ W.cell? ⟨(a6.add (n * 8)).block, (a6.add (n * 8)).off + 3, none⟩ = some (.int .i64 S6.f3.f0) ∧ W.cell? ⟨(a6.add (n * 8)).block, (a6.add (n * 8)).off + 4, none⟩ = some (.int .i64 S6.f3.f1) ∧ W.cell? ⟨(a6.add (n * 8)).block, (a6.add (n * 8)).off + 5, none⟩ = some (.int .i64 S6.f3.f2) ∧ W.cell? ⟨(a6.add (n * 8)).block, (a6.add (n * 8)).off + 6, none⟩ = some (.int .i64 S6.f3.f3) ∧ W.cell? ⟨(a6.add (n * 8)).block, (a6.add (n * 8)).off + 7, none⟩ = some (.int .i64 S6.f3.f4) ∧ W.cell? (a8.add (n * 8)) = some (.bool S8.f0) ∧ W.cell? ⟨(a8.add (n * 8)).block, (a8.add (n * 8)).off + 1, none⟩ = some (.int .i64 S8.f1) ∧ W.cell? ⟨(a8.add (n * 8)).block, (a8.add (n * 8)).off + 2, none⟩ = some (.int .i64 S8.f2) ∧ W.cell? ⟨(a8.add (n * 8)).block, (a8.add (n * 8)).off + 3, none⟩ = some (.int .i64 S8.f3.f0) ∧ W.cell? ⟨(a8.add (n * 8)).block, (a8.add (n * 8)).off + 4, none⟩ = some (.int .i64 S8.f3.f1) ∧ W.cell? ⟨(a8.add (n * 8)).block, (a8.add (n * 8)).off + 5, none⟩ = some (.int .i64 S8.f3.f2) ∧ W.cell? ⟨(a8.add (n * 8)).block, (a8.add (n * 8)).off + 6, none⟩ = some (.int .i64 S8.f3.f3) ∧ W.cell? ⟨(a8.add (n * 8)).block, (a8.add (n * 8)).off + 7, none⟩ = some (.int .i64 S8.f3.f4) ∧ W.cell? (aP.add (n * 3)) = some (.int .i64 r0) ∧ W.cell? ⟨(aP.add (n * 3)).block, (aP.add (n * 3)).off + 1, none⟩ = some (.int .i64 q0) ∧ W.cell? ⟨(aP.add (n * 3)).block, (aP.add (n * 3)).off + 2, none⟩ = some (.slice Ax mx cx))
              (first | exact ⟨yu0, yu1, yu2, yu3, yu4, yu5, yu6, yu7, yk0, yk1, yk2, yk3, yk4, yk5, yk6, yk7, yp0, yp1, yp2⟩ | exact ⟨u0, u1, u2, u3, u4, u5, u6, u7, k0, k1, k2, k3, k4, k5, k6, k7, p0, p1, p2⟩)
              (first
                | (go_at_call 17; with_reducible refine HSM.out.mono ?_; rintro e w7 ⟨rfl, hb⟩; have HB7 := Aside0.mk (below_of_drew hb); have yu0 := pw_cell_below HB7.out u0; have yu1 := pw_cell_below HB7.out u1; have yu2 := pw_cell_below HB7.out u2; have yu3 := pw_cell_below HB7.out u3; have yu4 := pw_cell_below HB7.out u4; have yu5 := pw_cell_below HB7.out u5; have yu6 := pw_cell_below HB7.out u6; have yu7 := pw_cell_below HB7.out u7; have yk0 := pw_cell_below HB7.out k0; have yk1 := pw_cell_below HB7.out k1; have yk2 := pw_cell_below HB7.out k2; have yk3 := pw_cell_below HB7.out k3; have yk4 := pw_cell_below HB7.out k4; have yk5 := pw_cell_below HB7.out k5; have yk6 := pw_cell_below HB7.out k6; have yk7 := pw_cell_below HB7.out k7; have yp0 := pw_cell_below HB7.out p0; have yp1 := pw_cell_below HB7.out p1; have yp2 := pw_cell_below HB7.out p2; clear hb)
                | (go_at_call 20; with_reducible refine (HPL1.out w7 HB7.out).mono ?_; rintro e w8 ⟨rfl, hb⟩; have HB8 := Aside0.mk (below_then HB7.out HB7.out.size hb); have yu0 := pw_cell_below HB8.out u0; have yu1 := pw_cell_below HB8.out u1; have yu2 := pw_cell_below HB8.out u2; have yu3 := pw_cell_below HB8.out u3; have yu4 := pw_cell_below HB8.out u4; have yu5 := pw_cell_below HB8.out u5; have yu6 := pw_cell_below HB8.out u6; have yu7 := pw_cell_below HB8.out u7; have yk0 := pw_cell_below HB8.out k0; have yk1 := pw_cell_below HB8.out k1; have yk2 := pw_cell_below HB8.out k2; have yk3 := pw_cell_below HB8.out k3; have yk4 := pw_cell_below HB8.out k4; have yk5 := pw_cell_below HB8.out k5; have yk6 := pw_cell_below HB8.out k6; have yk7 := pw_cell_below HB8.out k7; have yp0 := pw_cell_below HB8.out p0; have yp1 := pw_cell_below HB8.out p1; have yp2 := pw_cell_below HB8.out p2; clear hb)
                | (go_at_call 20; with_reducible refine (HPL2.out w8 HB8.out).mono ?_; rintro e w9 ⟨rfl, hb⟩; have HB9 := Aside0.mk (below_then HB8.out HB8.out.size hb); have yu0 := pw_cell_below HB9.out u0; have yu1 := pw_cell_below HB9.out u1; have yu2 := pw_cell_below HB9.out u2; have yu3 := pw_cell_below HB9.out u3; have yu4 := pw_cell_below HB9.out u4; have yu5 := pw_cell_below HB9.out u5; have yu6 := pw_cell_below HB9.out u6; have yu7 := pw_cell_below HB9.out u7; have yk0 := pw_cell_below HB9.out k0; have yk1 := pw_cell_below HB9.out k1; have yk2 := pw_cell_below HB9.out k2; have yk3 := pw_cell_below HB9.out k3; have yk4 := pw_cell_below HB9.out k4; have yk5 := pw_cell_below HB9.out k5; have yk6 := pw_cell_below HB9.out k6; have yk7 := pw_cell_below HB9.out k7; have yp0 := pw_cell_below HB9.out p0; have yp1 := pw_cell_below HB9.out p1; have yp2 := pw_cell_below HB9.out p2; clear hb))
            all_goals (
              have HS9 := Aside0.mk (HS6.out.below HB9.out)
              have HPT9 := Aside0.mk (Kd.R_below HPT7.out HB9.out)
              have HL9 := Aside0.mk (HB6.out.trans (HB9.out.mono (by have := HB6.out.size; have := HG.out; omega)))
              clear u0 u1 u2 u3 u4 u5 u6 u7 k0 k1 k2 k3 k4 k5 k6 k7 p0 p1 p2 yu0 yu1 yu2 yu3 yu4 yu5 yu6 yu7 yk0 yk1 yk2 yk3 yk4 yk5 yk6 yk7 yp0 yp1 yp2 HPL1 HPL2 HSM
              go_wp2
              refine ⟨⟨i + 1, v7, _, _, by omega, by go_num, HS9, HF7, HMN, HLN7, HPRN, HPT9, HL9⟩, ?_⟩
              simp [intOf]
              omega)
      · obtain rfl : i = l.length := by omega
        go_wp2
        go_ret
        exact ⟨rfl, HB1.out.trans (HB.out.mono (by have := HB1.out.size; have := HG.out; omega))⟩
end Go.Proofs.YtfmlpcdbllpcaaaDoor.HX

namespace Go.Proofs.YtfmlpcdbllpcaaaDoor.pathOrder
open Go.ChangeShapes Go.WideShapes Go.ChangeAt Go.RowKit Go.Joins
set_option linter.unusedVariables false
theorem own : ownKnob Tryd.prog.godebug = none := by kernel_rfl
theorem laidOut : laidOutB Tryd.prog = true := by kernel_rfl
set_option maxRecDepth 100000 in
theorem lifted (os : Os) (started : os.Started) (H : Type) (enc : TypeId × Value → H) :
    ReturnsInHanded {} Tryd.checked os 5 .any (fun w args => (Rows.pathOrderSpec.pre enc Tryd.prog Tryd.f5 [] false w args ∧ laidMetH Tryd.prog HR.laid3 w) ∧ sizedMet enc Tryd.prog Tryd.f5 (OpenSpec.ofChange Rows.pathOrderSpec) false w args)
      (Rows.pathOrderSpec.post enc Tryd.prog Tryd.f5 false true false false) := by
  refine returnsInHanded_of_change_and (C := Tryd.checked) (X := fun w _ => laidMetH Tryd.prog HR.laid3 w) (fun _ _ _ hh h => h.of_heap hh) own started (by kernel_rfl) Tryd.func5
    (ChangeSpec.witness_shaped (enc := enc) (C := Tryd.checked) (os := os) (X := fun w _ => laidMetH Tryd.prog HR.laid3 w) false (World.doorLaid Tryd.prog 24 os) #[.slice none 0 0] 8 rfl (World.shaped_of_RefB (by kernel_rfl) (by kernel_rfl)) (by kernel_rfl) (by kernel_rfl) (by kernel_rfl) (HR.door_met os _)) ?_
  intro W base args ds gs before hval0 hW _ _ hL _
  have hval : ∀ (j : Nat) t v, Tryd.f5.params[j]? = some t → args[j]? = some v → Value.okWide Tryd.prog W .any base t v := hval0
  have hW' := hW
  obtain ⟨p, q, hA0, hV, rfl, hfz, hnd⟩ := hW
  have hA : DataW.TrodAll enc Tryd.prog W 0 (fun _ => true) true Tryd.f5.params.toList args.toList ds p := hA0
  rw [Tryd.params5] at hA hval
  obtain ⟨v0, vs0, d0, ds0, p0, q0, hargs, rfl, rfl, h0, r0⟩ := trodAll_cons hA
  obtain ⟨rfl, rfl, rfl⟩ := trodAll_nil r0
  obtain rfl : args = #[v0] := by cases args; simp_all
  obtain ⟨rfl, rfl⟩ := trodVars_none hV
  have k0 := h0
  have lt0 : ∀ x ∈ p0, x.block < W.heap.size := by obtain ⟨m, hm⟩ := k0; exact DataW.trod_lt m _ _ _ hm
  obtain ⟨a0, l0, c0, rfl⟩ := okWide_slice Tryd.underlying43 (hval 0 43 v0 rfl rfl)
  obtain ⟨xs0, rfl, hc0, hr0⟩ := HR.open_acts h0
  have hT := HR.tab_of_laid hL
  clear hA0 hval0 hL
  refine (HX.pathOrder_calls a0 c0 xs0 W hr0 hc0 hT).mono fun e W' ⟨he, bel⟩ => ?_
  subst he
  exact ⟨_, rfl, _, _, _, [], _, [], hW', trodAll_mk1 (shut_bool Tryd.underlying4 _), (trodAll_cons_mk (Below.trod laidOut (by kernel_rfl) (of_decide_eq_true (by kernel_rfl)) k0 bel lt0) trodAll_mk0), rfl, bel.frame _, fun h => by cases h⟩
theorem proved : Rows.PathOrderSaid :=
  OpenClaim.holds_of_wide 5 Tryd.f5 rfl rfl rfl rfl rfl rfl rfl ⟨rfl, rfl, rfl, rfl, rfl⟩ rfl rfl rfl rfl rfl (by kernel_rfl) Tryd.func5 (by kernel_rfl)
    (of_decide_eq_true (by kernel_rfl)) (by unfold Func.isWrapper; first | (rw [if_pos (by decide +kernel)]; kernel_rfl) | (rw [if_neg (by decide +kernel)]; exact ⟨rfl, rfl⟩))
    (fun os started H enc _ => lifted os started H enc)
theorem whole : Rows.PathOrderCardSaid :=
  Claim7.holds_tied_plain_at .later [] [.data, .data, .data] true Rows.pathOrderCard.stood.harness Rows.pathOrderCard.stood.looks
    proved (fun _ h => by cases h) (by kernel_rfl) (fun _ h => by cases h) pathOrder_row_tie rfl ⟨rfl, rfl⟩ (by kernel_rfl) rfl
    (fun f fn hf hfn => by
      obtain rfl : f = 5 := Option.some.inj ((show Tryd.prog.funcNamed "dispatcher/dispatcherlaw24.PathOrder" = some 5 by kernel_rfl).symm.trans hf) |>.symm
      obtain rfl : fn = Tryd.f5 := (Option.some.inj (Tryd.func5.symm.trans hfn)).symm
      exact ⟨by kernel_rfl, fun j t ht => by
        rw [Tryd.params5] at ht
        have hm : t ∈ [43] := by simpa using Array.mem_of_getElem? ht
        have hall : ([43].all fun u => !Tryd.prog.wantsStandIn u) = true := by kernel_rfl
        exact (show Tryd.prog.wantsStandIn t = false by simpa using List.all_eq_true.1 hall t hm)⟩)
    (by kernel_rfl)
end Go.Proofs.YtfmlpcdbllpcaaaDoor.pathOrder
namespace Go.Proofs.YtfmlpcdbllpcaaaDoor
/-- The card, under a short name, for the claim. -/
theorem pathOrder_holds : Rows.PathOrderCardSaid := pathOrder.whole
end Go.Proofs.YtfmlpcdbllpcaaaDoor
