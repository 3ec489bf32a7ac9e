/- PathTree: whatever comes in, the law answers true, and what came in reads as it did; the tables that it lists are tied to the program's text. No condition. -/
import Derived.Test.YtfmlpcdbllpcaaaDoorHW
import Derived.ProofKit
import Derived.OpenShut
import Derived.ShutString
import Derived.ChangeOld
import Derived.SizedLaws
import Derived.Lib.SmallJoins
import Derived.Deep.Slices
import Derived.Test.YtfmlpcdbllpcaaaDoorHK
import Derived.Test.YtfmlpcdbllpcaaaDoorTxA
import Derived.Test.YtfmlpcdbllpcaaaDoorRows
import Derived.Test.YtfmlpcdbllpcaaaDoorTie
import Derived.Test.YtfmlpcdbllpcaaaDoorCards
import Derived.LaidMore
import Derived.Stop.Joined
import Derived.WalkKit
import Derived.Below
import Derived.SevenTiedAt
import Derived.Test.YtfmlpcdbllpcaaaDoorHU
import Derived.Test.YtfmlpcdbllpcaaaDoorTrB
import Derived.Test.YtfmlpcdbllpcaaaDoorQcbasex2
import Derived.Test.YtfmlpcdbllpcaaaDoorPlB
namespace Go.Proofs.YtfmlpcdbllpcaaaDoor.HR
open Go.RowKit Go.Joins Go.ChangeShapes Go.WideShapes Go.Deep Go.Proofs.YtfmlpcdbllpcaaaDoorW.PrintWords Go.Proofs.YtfmlpcdbllpcaaaDoorW.PrintLast Go.Proofs.YtfmlpcdbllpcaaaDoorW.PrintMore
set_option linter.unusedVariables false
section
variable {H : Type} {enc : TypeId × Value → H} {P : Program} {w : World} {sp : Nat → Bool} {held : Bool}
theorem choose_below {α : Type} {p : Nat → α → Prop} : ∀ m, (∀ i, i < m → ∃ x, p i x) → ∃ xs : List α, xs.length = m ∧ ∀ i x, xs[i]? = some x → p i x
  | 0, _ => ⟨[], rfl, fun i x h => by simp at h⟩
  | m + 1, h => by
    obtain ⟨xs, hl, hx⟩ := choose_below m (fun i hi => h i (by omega))
    obtain ⟨x, hp⟩ := h m (by omega)
    refine ⟨xs ++ [x], by simp [hl], fun i y hy => ?_⟩
    by_cases hi : i < m
    · rw [List.getElem?_append_left (by omega)] at hy
      exact hx i y hy
    · rw [List.getElem?_append_right (by omega), hl] at hy
      have : i - m = 0 := by
        cases h : i - m with
        | zero => rfl
        | succ n => rw [h] at hy; simp at hy
      obtain rfl : i = m := by omega
      simp at hy
      exact hy ▸ hp
/-- A SLICE'S READING IS A ROW OF ITS ELEMENTS' KIND. -/
theorem open_kd {α : Type} (d : Kd α) {t e : TypeId} (ht : P.underlying t = some (.slice e)) (hsz : P.cellsOf e = d.sz)
    (hel : ∀ n cs y, cs.length = d.sz → DataW.trod enc P w 0 sp held n e cs = some y → ∃ x, d.K w x cs)
    {fuel : Nat} {v : Value} {x : DataW H × List MemPlace} (h : DataW.trod enc P w 0 sp held fuel t [v] = some x) :
    ∃ A c xs, v = .slice A xs.length c ∧ xs.length ≤ c ∧ d.C w A xs.length xs := by
  rcases open_slice ht h with ⟨hcs, _⟩ | ⟨a, len, cap, m, n, D, Pl, hcs, _, hl, hm, hmm, _, hx⟩
  · obtain rfl : v = .slice none 0 0 := by simpa using hcs
    exact ⟨none, 0, [], rfl, Nat.le_refl _, rfl, by simp, fun h => absurd h (by simp)⟩
  · obtain rfl : v = .slice (some a) len cap := by simpa using hcs
    have hlm : len ≤ m := by rw [hmm]; split <;> omega
    obtain ⟨xs, hxl, hxs⟩ := choose_below (p := fun i x => ∃ c, c.length = d.sz ∧ d.K w x c ∧ ∀ j u, c[j]? = some u → w.cell? (a.add (i * d.sz + j)) = some u) len (fun i hi => by
      obtain ⟨cs', h1, h2⟩ := hx i (by omega)
      obtain ⟨_, hlen, hc⟩ := World.cells?_some h1
      obtain ⟨x, hK⟩ := hel n cs' _ (by omega) h2
      refine ⟨x, cs', by omega, hK, fun j u hu => ?_⟩
      have hj : j < cs'.length := by
        rcases Nat.lt_or_ge j cs'.length with h | h
        · exact h
        · rw [List.getElem?_eq_none h] at hu; exact absurd hu (by simp)
      have := hc j (by omega)
      rw [hsz] at this
      rw [← hu, ← this]
      rw [Addr.add_add])
    have hmx : maxLen = 9223372036854775807 := rfl
    subst hxl
    exact ⟨some a, cap, xs, rfl, hl, rfl, by omega, fun _ => ⟨a, rfl, fun j p hp => hxs j p hp⟩⟩
end
end Go.Proofs.YtfmlpcdbllpcaaaDoor.HR

namespace Go.Proofs.YtfmlpcdbllpcaaaDoor.HR
open Go.RowKit Go.Joins Go.ChangeShapes Go.WideShapes Go.Deep Go.Proofs.YtfmlpcdbllpcaaaDoor.HK Go.Proofs.YtfmlpcdbllpcaaaDoorW.PrintWords Go.Proofs.YtfmlpcdbllpcaaaDoorW.PrintLast Go.Proofs.YtfmlpcdbllpcaaaDoorW.PrintMore
set_option linter.unusedVariables false
section
variable {H : Type} {enc : TypeId × Value → H} {w : World} {sp : Nat → Bool} {held : Bool}
/-- a struct of five whole numbers, read -/
theorem trod_five {P : Program} {t ti : TypeId} {f0 f1 f2 f3 f4 : Field} (hs : P.underlying t = some (.struct #[f0, f1, f2, f3, f4])) (hi : P.underlying ti = some (.int .i64))
    (h0 : f0.type = ti ∧ f0.offset = 0) (h1 : f1.type = ti ∧ f1.offset = 1) (h2 : f2.type = ti ∧ f2.offset = 2) (h3 : f3.type = ti ∧ f3.offset = 3) (h4 : f4.type = ti ∧ f4.offset = 4) (hc : P.cellsOf ti = 1)
    {n : Nat} {cs : List Value} {y : DataW H × List MemPlace} (hl : cs.length = 5) (h : DataW.trod enc P w 0 sp held n t cs = some y) :
    ∃ a b c d e : Int, cs = [.int .i64 a, .int .i64 b, .int .i64 c, .int .i64 d, .int .i64 e] := by
  obtain ⟨xs, n, _, _, _, hlen, hg⟩ := DataW.trod_struct hs h
  match cs, hl with
  | [v0, v1, v2, v3, v4], _ =>
    match xs, hlen with
    | [y0, y1, y2, y3, y4], _ =>
      have g0 : DataW.trod enc P w 0 sp held n ti [v0] = some y0 := by simpa [h0.1, h0.2, hc] using hg 0 f0 rfl
      have g1 : DataW.trod enc P w 0 sp held n ti [v1] = some y1 := by simpa [h1.1, h1.2, hc] using hg 1 f1 rfl
      have g2 : DataW.trod enc P w 0 sp held n ti [v2] = some y2 := by simpa [h2.1, h2.2, hc] using hg 2 f2 rfl
      have g3 : DataW.trod enc P w 0 sp held n ti [v3] = some y3 := by simpa [h3.1, h3.2, hc] using hg 3 f3 rfl
      have g4 : DataW.trod enc P w 0 sp held n ti [v4] = some y4 := by simpa [h4.1, h4.2, hc] using hg 4 f4 rfl
      obtain ⟨a, e0, _⟩ := DataW.trod_int hi g0
      obtain ⟨b, e1, _⟩ := DataW.trod_int hi g1
      obtain ⟨c, e2, _⟩ := DataW.trod_int hi g2
      obtain ⟨d, e3, _⟩ := DataW.trod_int hi g3
      obtain ⟨e, e4, _⟩ := DataW.trod_int hi g4
      simp only [List.cons.injEq, and_true] at e0 e1 e2 e3 e4
      exact ⟨a, b, c, d, e, by rw [e0, e1, e2, e3, e4]⟩
theorem cells_int : Tryd.prog.cellsOf 3 = 1 := by kernel_rfl
theorem cells_choice : Tryd.prog.cellsOf 49 = 5 := by kernel_rfl
theorem open_choices {a : Option Addr} {len cap : Nat} {d : DataW H} {p : List MemPlace} (h : DataW.Trod enc Tryd.prog w 0 sp held 36 (.slice a len cap) d p) :
    ∃ xs : List S49, len = xs.length ∧ xs.length ≤ cap ∧ Kd.C k49 w a xs.length xs := by
  obtain ⟨fuel, hf⟩ := h
  have hf' : DataW.trod enc Tryd.prog w 0 sp held fuel 36 [.slice a len cap] = some (d, p) := hf
  obtain ⟨A, c, xs, e, h1, h2⟩ := open_kd k49 Tryd.underlying36 cells_choice (fun n cs y hl hy => by
    obtain ⟨a, b, c, d, e, rfl⟩ := trod_five Tryd.underlying49 Tryd.underlying3 ⟨rfl, rfl⟩ ⟨rfl, rfl⟩ ⟨rfl, rfl⟩ ⟨rfl, rfl⟩ ⟨rfl, rfl⟩ cells_int (by exact hl) hy
    exact ⟨⟨a, b, c, d, e⟩, k49_mk w ⟨a, b, c, d, e⟩⟩) hf'
  injection e with e1 e2 e3
  subst e1 e2 e3
  exact ⟨xs, rfl, h1, h2⟩
end
end Go.Proofs.YtfmlpcdbllpcaaaDoor.HR

namespace Go.Proofs.YtfmlpcdbllpcaaaDoor.HR
open Go.RowKit Go.Joins Go.ChangeShapes Go.WideShapes Go.Deep Go.Proofs.YtfmlpcdbllpcaaaDoor.HK Go.Proofs.YtfmlpcdbllpcaaaDoor.HX Go.Proofs.YtfmlpcdbllpcaaaDoorW.PrintWords Go.Proofs.YtfmlpcdbllpcaaaDoorW.PrintLast Go.Proofs.YtfmlpcdbllpcaaaDoorW.PrintMore
set_option linter.unusedVariables false
section
variable {H : Type} {enc : TypeId × Value → H} {w : World} {sp : Nat → Bool} {held : Bool}
theorem open_kdP {α : Type} {P : Program} (d : Kd α) (p : α → Prop) {t e : TypeId} (ht : P.underlying t = some (.slice e)) (hsz : P.cellsOf e = d.sz)
    (hel : ∀ n cs y, cs.length = d.sz → DataW.trod enc P w 0 sp held n e cs = some y → ∃ x, d.K w x cs ∧ p x)
    {fuel : Nat} {v : Value} {x : DataW H × List MemPlace} (h : DataW.trod enc P w 0 sp held fuel t [v] = some x) :
    ∃ A c xs, v = .slice A xs.length c ∧ xs.length ≤ c ∧ d.C w A xs.length xs ∧ ∀ x ∈ xs, p x := by
  rcases open_slice ht h with ⟨hcs, _⟩ | ⟨a, len, cap, m, n, D, Pl, hcs, _, hl, hm, hmm, _, hx⟩
  · obtain rfl : v = .slice none 0 0 := by simpa using hcs
    exact ⟨none, 0, [], rfl, Nat.le_refl _, ⟨rfl, by simp, fun h => absurd h (by simp)⟩, by simp⟩
  · obtain rfl : v = .slice (some a) len cap := by simpa using hcs
    have hlm : len ≤ m := by rw [hmm]; split <;> omega
    obtain ⟨xs, hxl, hxs⟩ := choose_below (p := fun i x => (∃ c, c.length = d.sz ∧ d.K w x c ∧ ∀ j u, c[j]? = some u → w.cell? (a.add (i * d.sz + j)) = some u) ∧ p x) len (fun i hi => by
      obtain ⟨cs', h1, h2⟩ := hx i (by omega)
      obtain ⟨_, hlen, hc⟩ := World.cells?_some h1
      obtain ⟨x, hK, hp⟩ := hel n cs' _ (by omega) h2
      refine ⟨x, ⟨cs', by omega, hK, fun j u hu => ?_⟩, hp⟩
      have hj : j < cs'.length := by
        rcases Nat.lt_or_ge j cs'.length with h | h
        · exact h
        · rw [List.getElem?_eq_none h] at hu; exact absurd hu (by simp)
      have := hc j (by omega)
      rw [hsz] at this
      rw [← hu, ← this]
      rw [Addr.add_add])
    have hmx : maxLen = 9223372036854775807 := rfl
    subst hxl
    refine ⟨some a, cap, xs, rfl, hl, ⟨rfl, by omega, fun _ => ⟨a, rfl, fun j p hp => (hxs j p hp).1⟩⟩, fun x hx => ?_⟩
    obtain ⟨i, hi, rfl⟩ := List.getElem_of_mem hx
    exact (hxs i _ (List.getElem?_eq_getElem hi)).2
theorem rng_of {n : Int} (h : (Lit.int .i64 n).wf = true) : Rng n := by
  simp only [Lit.wf, Bool.and_eq_true, decide_eq_true_eq] at h
  exact ⟨h.1, h.2⟩
/-- a struct of five whole numbers, read: each within an int's range -/
theorem trod_fiveR {P : Program} {t ti : TypeId} {f0 f1 f2 f3 f4 : Field} (hs : P.underlying t = some (.struct #[f0, f1, f2, f3, f4])) (hi : P.underlying ti = some (.int .i64))
    (h0 : f0.type = ti ∧ f0.offset = 0) (h1 : f1.type = ti ∧ f1.offset = 1) (h2 : f2.type = ti ∧ f2.offset = 2) (h3 : f3.type = ti ∧ f3.offset = 3) (h4 : f4.type = ti ∧ f4.offset = 4) (hc : P.cellsOf ti = 1)
    {n : Nat} {cs : List Value} {y : DataW H × List MemPlace} (hl : cs.length = 5) (h : DataW.trod enc P w 0 sp held n t cs = some y) :
    ∃ a b c d e : Int, cs = [.int .i64 a, .int .i64 b, .int .i64 c, .int .i64 d, .int .i64 e] ∧ Rng a ∧ Rng b ∧ Rng c ∧ Rng d ∧ Rng e := by
  obtain ⟨xs, n, _, _, _, hlen, hg⟩ := DataW.trod_struct hs h
  match cs, hl with
  | [v0, v1, v2, v3, v4], _ =>
    match xs, hlen with
    | [y0, y1, y2, y3, y4], _ =>
      have g0 : DataW.trod enc P w 0 sp held n ti [v0] = some y0 := by simpa [h0.1, h0.2, hc] using hg 0 f0 rfl
      have g1 : DataW.trod enc P w 0 sp held n ti [v1] = some y1 := by simpa [h1.1, h1.2, hc] using hg 1 f1 rfl
      have g2 : DataW.trod enc P w 0 sp held n ti [v2] = some y2 := by simpa [h2.1, h2.2, hc] using hg 2 f2 rfl
      have g3 : DataW.trod enc P w 0 sp held n ti [v3] = some y3 := by simpa [h3.1, h3.2, hc] using hg 3 f3 rfl
      have g4 : DataW.trod enc P w 0 sp held n ti [v4] = some y4 := by simpa [h4.1, h4.2, hc] using hg 4 f4 rfl
      obtain ⟨a, e0, _, r0⟩ := DataW.trod_int hi g0
      obtain ⟨b, e1, _, r1⟩ := DataW.trod_int hi g1
      obtain ⟨c, e2, _, r2⟩ := DataW.trod_int hi g2
      obtain ⟨d, e3, _, r3⟩ := DataW.trod_int hi g3
      obtain ⟨e, e4, _, r4⟩ := DataW.trod_int hi g4
      simp only [List.cons.injEq, and_true] at e0 e1 e2 e3 e4
      exact ⟨a, b, c, d, e, by rw [e0, e1, e2, e3, e4], rng_of r0, rng_of r1, rng_of r2, rng_of r3, rng_of r4⟩
theorem cells_step : Tryd.prog.cellsOf 51 = 8 := by kernel_rfl
theorem cells_boolP : Tryd.prog.cellsOf 4 = 1 := by kernel_rfl
theorem trod_step {n : Nat} {cs : List Value} {y : DataW H × List MemPlace} (hl : cs.length = 8) (h : DataW.trod enc Tryd.prog w 0 sp held n 51 cs = some y) : ∃ x, k51.K w x cs ∧ SpOk x := by
  obtain ⟨ys, n, _, _, _, hlen, hg⟩ := DataW.trod_struct Tryd.underlying51 h
  match cs, hl with
  | [v0, v1, v2, v3, v4, v5, v6, v7], _ =>
    match ys, hlen with
    | [y0, y1, y2, y3], _ =>
      have g0 : DataW.trod enc Tryd.prog w 0 sp held n 4 [v0] = some y0 := by simpa [cells_boolP] using hg 0 _ rfl
      have g1 : DataW.trod enc Tryd.prog w 0 sp held n 3 [v1] = some y1 := by simpa [cells_int] using hg 1 _ rfl
      have g2 : DataW.trod enc Tryd.prog w 0 sp held n 3 [v2] = some y2 := by simpa [cells_int] using hg 2 _ rfl
      have g3 : DataW.trod enc Tryd.prog w 0 sp held n 49 [v3, v4, v5, v6, v7] = some y3 := by simpa [cells_choice] using hg 3 _ rfl
      obtain ⟨b, e0, _⟩ := DataW.trod_bool Tryd.underlying4 g0
      obtain ⟨r, e1, _, r1⟩ := DataW.trod_int Tryd.underlying3 g1
      obtain ⟨q, e2, _, r2⟩ := DataW.trod_int Tryd.underlying3 g2
      obtain ⟨a, b1, c, d, e, e3, ra, rb, rc, rd, re⟩ := trod_fiveR Tryd.underlying49 Tryd.underlying3 ⟨rfl, rfl⟩ ⟨rfl, rfl⟩ ⟨rfl, rfl⟩ ⟨rfl, rfl⟩ ⟨rfl, rfl⟩ cells_int rfl g3
      simp only [List.cons.injEq, and_true] at e0 e1 e2 e3
      obtain ⟨e3, e4, e5, e6, e7⟩ := e3
      subst e0 e1 e2 e3 e4 e5 e6 e7
      exact ⟨⟨b, r, q, ⟨a, b1, c, d, e⟩⟩, k51_mk w ⟨b, r, q, ⟨a, b1, c, d, e⟩⟩, ⟨rng_of r1, rng_of r2, ra, rb, rc, rd, re⟩⟩
theorem open_steps {a : Option Addr} {len cap : Nat} {d : DataW H} {p : List MemPlace} (h : DataW.Trod enc Tryd.prog w 0 sp held 22 (.slice a len cap) d p) :
    ∃ xs : List S51, len = xs.length ∧ xs.length ≤ cap ∧ Kd.C k51 w a xs.length xs ∧ ∀ x ∈ xs, SpOk x := by
  obtain ⟨fuel, hf⟩ := h
  have hf' : DataW.trod enc Tryd.prog w 0 sp held fuel 22 [.slice a len cap] = some (d, p) := hf
  obtain ⟨A, c, xs, e, h1, h2, h3⟩ := open_kdP k51 SpOk Tryd.underlying22 cells_step (fun n cs y hl hy => trod_step (by exact hl) hy) hf'
  injection e with e1 e2 e3
  subst e1 e2 e3
  exact ⟨xs, rfl, h1, h2, h3⟩
end
/-- the three tables that a row lists -/
abbrev laid3 {H : Type} : List (String × DataW H) := [("math/bits.deBruijn32tab", Rows.laid_math_bits_deBruijn32tab), ("math/bits.deBruijn64tab", Rows.laid_math_bits_deBruijn64tab), ("internal/strconv.uint64pow10", Rows.laid_internal_strconv_uint64pow10)]
theorem door_met (os : Os) (args : Array Value) : laidMetH Tryd.prog laid3 ((World.doorLaid Tryd.prog 24 os).forCall (fun _ _ => 0) ⟨#[], args, []⟩).memory :=
  laidMetH_of_parts3 (fuel := 8) (laidMet_of_run' 8 (by kernel_rfl) (by kernel_rfl)) (by kernel_rfl) (by kernel_rfl)
theorem tTab : (Tryd.prog.globals[1]?).map (·.type) = some 91 := by kernel_rfl
theorem tab_of_laid {W : World} (h : laidMetH Tryd.prog laid3 W) : Tab W := by
  rw [MakeChecks.laidMetH_plain _ _ _ (by kernel_rfl)] at h
  obtain ⟨ps, ⟨g0, t0, cs0, f0, p0, q0, hg0, ht0, hv0, hd0, ⟨g1, t1, cs1, f1, p1, q1, hg1, ht1, hv1, hd1, ⟨g2, t2, cs2, f2, p2, q2, hg2, ht2, hv2, hd2, _, _⟩, _⟩, _⟩, _, _⟩ := h
  obtain rfl := Option.some.inj (gTab.symm.trans hg2)
  obtain rfl := Option.some.inj (tTab.symm.trans ht2)
  have hc := Lib.cells_of_tab (k := .u64) (zs := Lib.pow10Tab) Tryd.underlying91 Tryd.underlying60 (by kernel_rfl) (by kernel_rfl) hd2
  have ht : Lib.TabIs Tryd.prog W "internal/strconv.uint64pow10" .u64 Lib.pow10Tab := by
    unfold Lib.TabIs
    rw [hv2, ← hc]
  exact ⟨ht, World.block_lt_of_cell? W _ (ht.cell gTab 0 (by decide))⟩
end Go.Proofs.YtfmlpcdbllpcaaaDoor.HR

namespace Go.Proofs.YtfmlpcdbllpcaaaDoor.HR
open Go.RowKit Go.Joins Go.ChangeShapes Go.WideShapes Go.Deep Go.Proofs.YtfmlpcdbllpcaaaDoor.HK Go.Proofs.YtfmlpcdbllpcaaaDoor.HX Go.Proofs.YtfmlpcdbllpcaaaDoorW.PrintWords Go.Proofs.YtfmlpcdbllpcaaaDoorW.PrintLast Go.Proofs.YtfmlpcdbllpcaaaDoorW.PrintMore
set_option linter.unusedVariables false
section
variable {H : Type} {enc : TypeId × Value → H} {w : World} {sp : Nat → Bool} {held : Bool}
theorem byte_of {n : Int} (h : (Lit.int .u8 n).wf = true) : 0 ≤ n ∧ n ≤ 255 := by
  simp only [Lit.wf, Bool.and_eq_true, decide_eq_true_eq] at h
  exact ⟨h.1, h.2⟩
theorem cells_u8 : Tryd.prog.cellsOf 5 = 1 := by kernel_rfl
theorem open_bytes {a : Option Addr} {len cap : Nat} {d : DataW H} {p : List MemPlace} (h : DataW.Trod enc Tryd.prog w 0 sp held 25 (.slice a len cap) d p) :
    ∃ xs : List Int, len = xs.length ∧ xs.length ≤ cap ∧ Kd.C (Kd.int .u8) w a xs.length xs ∧ ∀ x ∈ xs, 0 ≤ x ∧ x ≤ 255 := by
  obtain ⟨fuel, hf⟩ := h
  have hf' : DataW.trod enc Tryd.prog w 0 sp held fuel 25 [.slice a len cap] = some (d, p) := hf
  obtain ⟨A, c, xs, e, h1, h2, h3⟩ := open_kdP (Kd.int .u8) (fun x => 0 ≤ x ∧ x ≤ 255) Tryd.underlying25 cells_u8 (fun n cs y hl hy => by
    match cs, hl with
    | [u], _ =>
      obtain ⟨a, e, _, r⟩ := DataW.trod_int Tryd.underlying5 hy
      exact ⟨a, by rw [e]; rfl, byte_of r⟩) hf'
  injection e with e1 e2 e3
  subst e1 e2 e3
  exact ⟨xs, rfl, h1, h2, h3⟩
end
end Go.Proofs.YtfmlpcdbllpcaaaDoor.HR

namespace Go.Proofs.YtfmlpcdbllpcaaaDoor.HU
open Go.RowKit Go.Proofs.YtfmlpcdbllpcaaaDoorW.PrintWords Go.Proofs.YtfmlpcdbllpcaaaDoorW.PrintLast Go.Proofs.YtfmlpcdbllpcaaaDoorW.PrintMore
set_option linter.unusedVariables false
theorem R_empty_at {α : Type} (d : Kd α) {e : Nat} {W : World} {base b : Nat} {ok : Nat → Prop} (hblk : W.heap[b]? = some (.cells #[] e (0, 0))) (hb : base ≤ b) (hok : ok b) : d.R e W base ok (.slice (some ⟨b, 0, none⟩) 0 0) [] :=
  ⟨fun k hk => ownB hk ▸ hok, [], ⟨by simp, .inr ⟨b, 0, #[], rfl, hb, hblk, Nat.le_refl _, Nat.zero_le _, by simp, by simp⟩⟩, Reps.none _ _⟩
section
variable {P : Program} {ops : Array Oper} {rest : List Oper} {o : Oper} {a : Act} {Q : Exit → Act → World → Prop} {Kc : Act → World → Prop} {α : Type}
/-- where a row that was made lies -/
def AtOr (v : Value) (b n : Nat) : Prop := v.ownBlock = some b ∨ ∃ k, v.ownBlock = some k ∧ n ≤ k
/-- append([]T{}, ys...), the empty row at block b. -/
theorem app_new_step (d : Kd α) {Rr : α → List Value → Prop} {W : World} (base b : Nat) (hw : Region.wanted o (yielded ops a.tmps) = true) (s x : Operand) (t e : TypeId) (z : Value) (bytes : Nat)
    (ho : o.op = .call { callee := .builtin .append, args := #[s, x], argTypes := #[t, t] }) (hgd : o.guard = none)
    (ht : P.underlying t = some (.slice e)) (hinfo : (P.info? e).map (fun i => (i.zero, i.size, i.bytes)) = some (some z, d.sz, bytes)) (hz : z.cells.size = d.sz) (hs0 : 0 < d.sz) (hb0 : 0 < bytes)
    (ys : List α) (A : Option Addr) (m c : Nat) (ok okp : Nat → Prop) (hs : a.eval s = .slice (some ⟨b, 0, none⟩) 0 0) (hx : a.eval x = .slice A m c)
    (hblk : W.heap[b]? = some (.cells #[] e (0, 0))) (hbb : base ≤ b) (hokb : ok b) (HR : ReadsRow Rr d.sz W A m ys) (hKM : ∀ x cs, Rr x cs → d.M W base okp x cs) (hokp : ∀ k, okp k → ok k ∧ k ≠ b) (hfresh : ∀ k, W.heap.size ≤ k → ok k)
    (hl : m * bytes ≤ 140737488355328)
    (h : ∀ v1 w1, d.R e w1 base ok v1 ys → AtOr v1 b W.heap.size → Below b W w1 → Kept W w1 (fun k => k = b) → Kc (a.put o.dst v1) w1) :
    if Region.wanted o (yielded ops a.tmps) = true then Oper.wp P o a W Kc Q else Kc (a.put o.dst undef) W := by
  refine step_of_list hw ?_
  have hlt := blk_lt hblk
  refine Kd.R_append_rows d (w0 := W) base hgd s x t e z bytes ho ht hinfo hz hs0 hb0 (.slice (some ⟨b, 0, none⟩) 0 0) [] ys A m c ok okp hs hx (R_empty_at d hblk hbb hokb) HR hKM (fun k hk => ⟨(hokp k hk).1, fun he => (hokp k hk).2 (ownB he.symm).symm⟩) hfresh (Below.refl _ _) (by omega) (by simpa using hl) ?_
  intro v1 w1 hr hb hg hat
  show Kc _ _
  refine h v1 w1 (by simpa using hr) ?_ ?_ ?_
  · rcases hat with hat | hat
    · exact .inl (hat.trans rfl)
    · exact .inr hat
  · exact (Below.refl b W).grown hg (Nat.le_of_lt hlt) (fun k hk => Nat.le_of_eq (ownB hk))
  · exact Kept.of_grown hg (Kept.refl W _) (fun k hk => .inl (ownB hk).symm)
/-- append(v, x), the element in a block of its own (anywhere). -/
theorem app_one_step (d : Kd α) {w0 W : World} (base b : Nat) (hw : Region.wanted o (yielded ops a.tmps) = true) (s x : Operand) (t e : TypeId) (z : Value) (bytes : Nat)
    (ho : o.op = .call { callee := .builtin .append, args := #[s, x], argTypes := #[t, t] })
    (ht : P.underlying t = some (.slice e)) (hinfo : (P.info? e).map (fun i => (i.zero, i.size, i.bytes)) = some (some z, d.sz, bytes)) (hz : z.cells.size = d.sz) (hs0 : 0 < d.sz) (hb0 : 0 < bytes)
    (v : Value) (xs : List α) (p : α) (cs : List Value) (ok okp : Nat → Prop) (hs : a.eval s = v) (hx : a.eval x = .slice (some ⟨b, 0, none⟩) 1 1) (hblk : W.heap[b]? = some (.cells cs.toArray e (0, 0)))
    (hp : d.M W base okp p cs) (hokp : ∀ k, okp k → ok k ∧ some k ≠ v.ownBlock) (hfresh : ∀ k, W.heap.size ≤ k → ok k)
    (HO : d.Q e W base ok v xs) (HB : Below base w0 W) (hbase : base ≤ W.heap.size) (hl : (xs.length + 1) * bytes ≤ 140737488355328)
    (h : ∀ v1 w1, d.Q e w1 base ok v1 (xs ++ [p]) → Below base w0 w1 → W.grownBy w1 v.ownBlock → (v1.ownBlock = v.ownBlock ∨ ∃ b, v1.ownBlock = some b ∧ W.heap.size ≤ b) → Kc (a.put o.dst v1) w1) :
    if Region.wanted o (yielded ops a.tmps) = true then Oper.wp P o a W Kc Q else Kc (a.put o.dst undef) W := by
  obtain ⟨h0, inner, hown, hr⟩ := HO
  obtain ⟨i0, hi, hzz⟩ := Option.map_eq_some_iff.1 hinfo
  simp only [Prod.mk.injEq] at hzz
  obtain ⟨hz0, hz1, hz2⟩ := hzz
  have hlen : xs.length + 1 ≤ 140737488355328 := Nat.le_trans (Nat.le_mul_of_pos_right _ hb0) hl
  have hcl := d.K_len (d.K_of_M hp)
  obtain ⟨v1, w1, hrun, hq1, hg, hat⟩ := q_append (P := P) W base t o.type e i0 z d.sz bytes ht hi hz0 hz1 hz2 hz hs0 v xs.length inner hown ⟨b, 0, none⟩ 1 1 cs (by rw [hcl, Nat.one_mul])
    (fun j u hu => by rw [add_plain, blk_cell hblk, ← Array.getElem?_toList]; exact hu) (d.K_one (d.K_of_M hp)) (by omega) (by simp only [maxLen]; omega) hl hbase
  rw [if_pos hw]
  unfold Oper.wp execOp
  simp only [ho, resolve, invoke, builtin, Sem.run_bind, Sem.run_pure, Result.andThen_ok, List.map_toArray, List.map_cons, List.map_nil, hs, hx, hrun]
  exact h v1 w1 (Kd.Q_appended h0 hr hp hokp hfresh hq1 hg hat) (HB.grown hg hbase (fun k hk => (q_typed hown k hk).1)) hg hat
end
end Go.Proofs.YtfmlpcdbllpcaaaDoor.HU

namespace Go.Proofs.YtfmlpcdbllpcaaaDoor.HX
open Go.Proofs.YtfmlpcdbllpcaaaDoor.HD (Ch mayP mayQ eqC eqC_iff rd_ch)
open Go.Proofs.YtfmlpcdbllpcaaaDoor.HQ Go.Proofs.YtfmlpcdbllpcaaaDoor.HU Go.RowKit Go.Proofs.YtfmlpcdbllpcaaaDoor.HK Go.Proofs.YtfmlpcdbllpcaaaDoor.HP Go.Proofs.YtfmlpcdbllpcaaaDoor.Qcbase Go.Proofs.YtfmlpcdbllpcaaaDoorW.PrintWords Go.Proofs.YtfmlpcdbllpcaaaDoorW.PrintLast Go.Proofs.YtfmlpcdbllpcaaaDoorW.PrintMore
set_option linter.unusedVariables false
set_option linter.unusedSimpArgs false
theorem next_form (n : Nat) : ∀ ls : List Lv, ls.length = n → nextF ls = [] ∨ ∃ t x s, ls = t ++ x :: s ∧ x.f2 + 1 < manyI x ∧ nextF ls = t ++ [HQ.up x] := by
  induction n with
  | zero =>
    intro ls hl
    obtain rfl := List.eq_nil_of_length_eq_zero hl
    exact .inl rfl
  | succ n ih =>
    intro ls hl
    rcases snoc_cases ls with rfl | ⟨t, x, rfl⟩
    · simp at hl
    · rw [nextF_snoc]
      by_cases hu : x.f2 + 1 < manyI x
      · rw [if_pos hu]
        exact .inr ⟨t, x, [], rfl, hu, rfl⟩
      · rw [if_neg hu]
        rcases ih t (by simpa using hl) with h | ⟨t', x', s', h1, h2, h3⟩
        · exact .inl h
        · exact .inr ⟨t', x', s' ++ [x], by rw [h1]; simp, h2, h3⟩
theorem mayQ_at (r q : Int) (l : List Ch) : ∀ (n i : Nat), mayQ r q l n i = true → ∀ j, i ≤ j → j < i + n → (l.take j).any (eqC (rd_T49 l (j : Int))) = false
  | 0, i, _, j, h1, h2 => by omega
  | n + 1, i, h, j, h1, h2 => by
    unfold HD.mayQ at h
    simp only [Bool.and_eq_true] at h
    by_cases hji : j = i
    · subst hji
      simpa using h.2.2.1
    · exact mayQ_at r q l n (i + 1) h.2.2.2 j (by omega) (by omega)
theorem may_apart {r q : Int} {l : List Ch} (h : mayP r q l = true) {i j : Nat} (hij : i < j) (hj : j < l.length) : eqC l[i] l[j] = false := by
  unfold HD.mayP at h
  simp only [Bool.and_eq_true] at h
  have := mayQ_at r q l l.length 0 h.1 j (by omega) (by omega)
  rw [List.any_eq_false] at this
  rw [rd_ch hj] at this
  have h2 := this l[i] (by rw [List.mem_take_iff_getElem]; exact ⟨i, by omega, rfl⟩)
  cases hh : eqC l[i] l[j] with
  | false => rfl
  | true => rw [HD.eqC_comm] at hh; exact absurd hh h2
theorem place_off (r q a b c0 c1 c2 c3 c4 : Int) (l : List Ch) (hl : l.length ≤ 1000) : ∀ d i : Nat, l.length - i = d → i ≤ l.length → Ev (fun k => dispatcherlaw24_place.l0 k (i : Int) r q l true a b c0 c1 c2 c3 c4) (l.length : Int)
  | 0, i, hd, hi => by
    refine Ev.round (f := fun _ => some (l.length : Int)) (Ev.now _) (fun k => ?_)
    rw [dispatcherlaw24_place.l0, if_neg (by omega)]
  | d + 1, i, hd, hi => by
    refine Ev.round (place_off r q a b c0 c1 c2 c3 c4 l hl d (i + 1) (by omega) (by omega)) (fun k => ?_)
    rw [dispatcherlaw24_place.l0, if_pos (by omega), if_pos rfl, wrap64_nat i (by omega)]
theorem place_on (r q a b : Int) (l : List Ch) (hl : l.length ≤ 1000) {n : Nat} (hn : n < l.length) (hd0 : ∀ i, i < n → eqC (rd_T49 l (i : Int)) l[n] = false) : ∀ d i : Nat, n - i = d → i ≤ n → Ev (fun k => dispatcherlaw24_place.l0 k (i : Int) r q l false a b l[n].f0 l[n].f1 l[n].f2 l[n].f3 l[n].f4) (n : Int)
  | 0, i, hd, hi => by
    obtain rfl : i = n := by omega
    refine Ev.round (f := fun _ => some (i : Int)) (Ev.now _) (fun k => ?_)
    rw [dispatcherlaw24_place.l0, if_pos (by omega), if_neg (by decide), if_pos (by omega), rd_ch hn, if_pos (by simp)]
  | d + 1, i, hd, hi => by
    refine Ev.round (place_on r q a b l hl hn hd0 d (i + 1) (by omega) (by omega)) (fun k => ?_)
    rw [dispatcherlaw24_place.l0, if_pos (by omega), if_neg (by decide), if_pos (by omega), if_neg (by have := hd0 i (by omega); unfold HD.eqC at this; rw [this]; decide), wrap64_nat i (by omega)]
/-- where a level's step stands -/
theorem place_c (x : Lv) (A : Option Addr) (c : Nat) (w : World) (hr : Kd.C k49 w A x.f0.f2.length x.f0.f2) (hc : x.f0.f2.length ≤ c) (hm : mayP x.f0.f0 x.f0.f1 x.f0.f2 = true) (hf : Fit x) :
    Calls Tryd.prog 20 #[.agg #[.int .i64 x.f0.f0, .int .i64 x.f0.f1, .slice A x.f0.f2.length c], .agg (spL (stepOf x)).toArray] w fun e w' => e = .returned (.int .i64 x.f2) ∧ Below w.heap.size w w' := by
  obtain ⟨h0, h1, h2⟩ := hf
  have hle : x.f2 ≤ x.f0.f2.length := by unfold HQ.manyI at h1; split at h1 <;> omega
  by_cases he : x.f2 = (x.f0.f2.length : Int)
  · have hs : stepOf x = ⟨true, x.f0.f0, x.f0.f1, z49⟩ := by unfold HQ.stepOf; rw [if_pos he]
    obtain ⟨k, hk⟩ := (place_off x.f0.f0 x.f0.f1 x.f0.f0 x.f0.f1 0 0 0 0 0 x.f0.f2 h2 x.f0.f2.length 0 (by omega) (by omega)).rounds
    rw [hs, he]
    exact dispatcherlaw24_place.calls k x.f0.f0 x.f0.f1 A c x.f0.f2 true x.f0.f0 x.f0.f1 0 0 0 0 0 _ w hr hc hk
  · obtain ⟨n, hn⟩ : ∃ n : Nat, x.f2 = n := ⟨x.f2.toNat, by omega⟩
    have hnl : n < x.f0.f2.length := by omega
    have hs : stepOf x = ⟨false, x.f0.f0, x.f0.f1, x.f0.f2[n]⟩ := by unfold HQ.stepOf; rw [if_neg he, hn, rd_ch hnl]
    obtain ⟨k, hk⟩ := (place_on x.f0.f0 x.f0.f1 x.f0.f0 x.f0.f1 x.f0.f2 h2 hnl (fun i hi => by rw [rd_ch (by omega)]; exact may_apart hm hi hnl) n 0 (by omega) (by omega)).rounds
    rw [hs, hn]
    exact dispatcherlaw24_place.calls k x.f0.f0 x.f0.f1 A c x.f0.f2 false x.f0.f0 x.f0.f1 _ _ _ _ _ _ w hr hc hk
abbrev Sl := Option Addr × Nat × Nat
def encSl (s : Sl) : Value := .slice s.1 s.2.1 s.2.2
def kP : Kd (Int × Int × Sl) := Kd.pair (Kd.int .i64) (Kd.pair (Kd.int .i64) (Kd.scalar encSl (fun _ => rfl)))
theorem kP_mkM (W : World) (base : Nat) (ok : Nat → Prop) (r q : Int) (A : Option Addr) (n c : Nat) : kP.M W base ok (r, q, (A, n, c)) [.int .i64 r, .int .i64 q, .slice A n c] :=
  ⟨[.int .i64 r], [.int .i64 q, .slice A n c], rfl, rfl, ⟨[.int .i64 q], [.slice A n c], rfl, rfl, rfl⟩⟩
theorem kP_at {W : World} {A : Option Addr} {n : Nat} {ps : List (Int × Int × Sl)} (h : kP.C W A n ps) (i : Nat) (hi : i < n) {r q : Int} {A3 : Option Addr} {m c : Nat} (hx : ps[i]? = some (r, q, (A3, m, c))) :
    ∃ ad, A = some ad ∧ W.cell? (ad.add (i * 3)) = some (.int .i64 r) ∧ W.cell? ⟨(ad.add (i * 3)).block, (ad.add (i * 3)).off + 1, none⟩ = some (.int .i64 q) ∧ W.cell? ⟨(ad.add (i * 3)).block, (ad.add (i * 3)).off + 2, none⟩ = some (.slice A3 m c) := by
  obtain ⟨ad, cs, e, _, hK, hc⟩ := Kd.C_get h (0, 0, (none, 0, 0)) (i : Int) (by omega) (by omega)
  rw [Int.toNat_natCast, List.getD_eq_getElem?_getD, hx, Option.getD_some] at hK
  obtain ⟨_, _, rfl, rfl, _, _, rfl, rfl, rfl⟩ := hK
  have hc : ∀ j u, [Value.int .i64 r, .int .i64 q, .slice A3 m c][j]? = some u → W.cell? (ad.add (i * 3 + j)) = some u := fun j u hu => by
    have := hc j u hu
    rw [Int.toNat_natCast] at this
    exact this
  exact ⟨ad, e, hc 0 _ rfl, by rw [← add_field _ _ 1 (by omega)]; exact hc 1 _ rfl, by rw [← add_field _ _ 2 (by omega)]; exact hc 2 _ rfl⟩
theorem infoP : (Tryd.prog.info? 38).map (fun i => (i.zero, i.size, i.bytes)) = some (some (.agg #[.int .i64 0, .int .i64 0, .slice none 0 0]), 3, 40) := by kernel_rfl
/-- the points of a stack's levels, each as it came in -/
structure PR (w1 : World) (ls : List Lv) (ps : List (Int × Int × Sl)) : Prop where
  len : ps.length = ls.length
  pt : ∀ (j : Nat) (x : Lv), ls[j]? = some x → ∃ A c, ps[j]? = some (x.f0.f0, x.f0.f1, (A, x.f0.f2.length, c)) ∧ x.f0.f2.length ≤ c ∧ Kd.C k49 w1 A x.f0.f2.length x.f0.f2
theorem PR.snoc {w1 : World} {ls : List Lv} {ps : List (Int × Int × Sl)} (h : PR w1 ls ps) {r q : Int} {vs : List Ch} {off : Bool} {A : Option Addr} {c : Nat} (hc : vs.length ≤ c) (hC : Kd.C k49 w1 A vs.length vs) :
    PR w1 (ls ++ [⟨⟨r, q, vs⟩, off, 0⟩]) (ps ++ [(r, q, (A, vs.length, c))]) := by
  refine ⟨by rw [List.length_append, List.length_append, h.len]; rfl, fun j x hx => ?_⟩
  by_cases hj : j < ls.length
  · rw [List.getElem?_append_left hj] at hx
    rw [List.getElem?_append_left (by rw [h.len]; exact hj)]
    exact h.pt j x hx
  · rw [List.getElem?_append_right (by omega)] at hx
    rw [List.getElem?_append_right (by rw [h.len]; omega), h.len]
    have : j - ls.length = 0 := by
      cases hz : j - ls.length with
      | zero => rfl
      | succ m => rw [hz] at hx; simp at hx
    rw [this] at hx ⊢
    simp at hx
    subst hx
    exact ⟨A, c, rfl, hc, hC⟩
theorem PR.nil (w1 : World) : PR w1 [] [] := ⟨rfl, fun j x h => by simp at h⟩
theorem PR.next {w1 : World} {ls : List Lv} {ps : List (Int × Int × Sl)} (h : PR w1 ls ps) {t s : List Lv} {x : Lv} (hl : ls = t ++ x :: s) : PR w1 (t ++ [HQ.up x]) (ps.take (t.length + 1)) := by
  have hpl := h.len
  rw [hl] at hpl
  simp only [List.length_append, List.length_cons] at hpl
  refine ⟨by rw [List.length_take, List.length_append, List.length_singleton]; omega, fun j y hy => ?_⟩
  have hj : j < t.length + 1 := by
    have := (List.getElem?_eq_some_iff.1 hy).1
    simpa using this
  rw [List.getElem?_take_of_lt hj]
  by_cases hjt : j < t.length
  · rw [List.getElem?_append_left hjt] at hy
    exact h.pt j y (by rw [hl, List.getElem?_append_left hjt]; exact hy)
  · obtain rfl : j = t.length := by omega
    rw [List.getElem?_append_right (Nat.le_refl _)] at hy
    simp at hy
    subst hy
    exact h.pt t.length x (by rw [hl, List.getElem?_append_right (Nat.le_refl _)]; simp)
theorem points_keep {W W' : World} {base base2 : Nat} {ok ok' : Nat → Prop} {g : Nat} {v vp : Value} {ls : List Lv} {ps : List (Int × Int × Sl)} (h : kP.R 38 W base2 ok' vp ps) (hs : Sq W base ok g v ls) (hk : Kept W W' (fun k => k = g ∨ some k = v.ownBlock)) : kP.R 38 W' base2 ok' vp ps :=
  Kd.R_mono (Kd.R_kept (Kd.R_tight rfl h) hk (fun k hkk hw => by
    rcases hw with rfl | hw
    · exact Kd.R_ne h hs.blk (by decide) hkk
    · obtain ⟨c, hc⟩ := Kd.Q_typed hs.row k hw.symm
      exact Kd.R_ne h hc (by decide) hkk)) (fun k hkk => h.1 k hkk.symm)
theorem Sq.keep_p {W W' : World} {base base2 : Nat} {ok ok' : Nat → Prop} {g : Nat} {v vp : Value} {ls : List Lv} {ps : List (Int × Int × Sl)} (hs : Sq W base ok g v ls) (h : kP.R 38 W base2 ok' vp ps) (hk : Kept W W' (fun k => some k = vp.ownBlock)) : Sq W' base ok g v ls :=
  ⟨blk_kept hs.blk hk (fun hw => Kd.R_ne h hs.blk (by decide) hw), hs.hg,
    Kd.Q_mono (Kd.Q_kept (Kd.Q_apart' hs.row (Kd.R_typed h) HQ.E58) hk (fun k hkk hw => hkk.2 hw)) (fun _ hkk => hkk.1)⟩
end Go.Proofs.YtfmlpcdbllpcaaaDoor.HX

namespace Go.Proofs.YtfmlpcdbllpcaaaDoor.HX
open Go.Proofs.YtfmlpcdbllpcaaaDoor.HD (Ch mayP)
open Go.Proofs.YtfmlpcdbllpcaaaDoor.HQ Go.Proofs.YtfmlpcdbllpcaaaDoor.HU Go.RowKit Go.Proofs.YtfmlpcdbllpcaaaDoor.HK Go.Proofs.YtfmlpcdbllpcaaaDoor.HP Go.Proofs.YtfmlpcdbllpcaaaDoorW.PrintWords Go.Proofs.YtfmlpcdbllpcaaaDoorW.PrintLast Go.Proofs.YtfmlpcdbllpcaaaDoorW.PrintMore
set_option linter.unusedVariables false
set_option linter.unusedSimpArgs false
/-- a way's number -/
def nodeN (way : List Sp) : Int := way.foldl (fun n s => 3 * n + s.f3.f2 + (if s.f0 then 2 else 0)) way.length
/-- how many values, and whether it may be put off -/
def nodeF (shape : List Int) (way : List Sp) : Nat × Bool :=
  if 4 ≤ way.length ∨ shape = [] then (0, false) else (((rd shape (nodeN way % shape.length)).tmod 4).toNat, decide (128 ≤ rd shape (nodeN way % shape.length)))
theorem nodeF_deep {shape : List Int} {way : List Sp} (h : 4 ≤ way.length) : nodeF shape way = (0, false) := by unfold nodeF; rw [if_pos (.inl h)]
theorem nodeF_lt (shape : List Int) (way : List Sp) : (nodeF shape way).1 ≤ 3 := by
  unfold nodeF
  split
  · exact Nat.zero_le _
  · show ((rd shape _).tmod 4).toNat ≤ 3
    generalize rd shape (nodeN way % shape.length) = x
    rcases Int.le_total 0 x with h | h
    · rw [Int.tmod_eq_emod_of_nonneg h]; omega
    · obtain ⟨y, rfl⟩ : ∃ y : Int, x = -y := ⟨-x, by omega⟩
      rw [Int.neg_tmod, Int.tmod_eq_emod_of_nonneg (by omega)]
      omega
def stepAt (r m a : Nat) : Sp := if a = m then ⟨true, r, 0, ⟨0, 0, 0, 0, 0⟩⟩ else ⟨false, r, 0, ⟨r, 0, a, 0, 0⟩⟩
def manyN (x : Nat × Bool) : Nat := x.1 + (if x.2 then 1 else 0)
/-- the ways to leaves -/
def leavesF (shape : List Int) : Nat → List Sp → List (List Sp)
  | 0, way => [way]
  | d + 1, way => if (nodeF shape way).1 = 0 then [way] else (List.range (manyN (nodeF shape way))).flatMap (fun a => leavesF shape d (way ++ [stepAt way.length (nodeF shape way).1 a]))
def L4 (shape : List Int) (w : List Sp) : List (List Sp) := leavesF shape (4 - w.length) w
theorem leaves_pos (shape : List Int) : ∀ (d : Nat) (w : List Sp), leavesF shape d w ≠ []
  | 0, w => by simp [leavesF]
  | d + 1, w => by
    unfold leavesF
    split
    · simp
    · rename_i h
      have hm : 0 < manyN (nodeF shape w) := by unfold manyN; omega
      obtain ⟨k, hk⟩ : ∃ k, manyN (nodeF shape w) = k + 1 := ⟨manyN (nodeF shape w) - 1, by omega⟩
      rw [hk, List.range_succ_eq_map]
      simp only [List.flatMap_cons, ne_eq, List.append_eq_nil_iff, not_and]
      intro h0
      exact absurd h0 (leaves_pos shape d _)
theorem L4_leaf {shape : List Int} {w : List Sp} (h : (nodeF shape w).1 = 0) : L4 shape w = [w] := by
  unfold L4
  cases hd : 4 - w.length with
  | zero => rfl
  | succ d => unfold leavesF; rw [if_pos h]
/-- a level of a tree's -/
structure TLv (shape : List Int) (way : List Sp) (x : Lv) : Prop where
  pt : x.f0 = ⟨(way.length : Int), 0, chL way.length 0 (nodeF shape way).1⟩
  off : x.f1 = (nodeF shape way).2
  pos : 0 < (nodeF shape way).1
  fit : Fit x
def TL (shape : List Int) : List Sp → List Lv → Prop
  | _, [] => True
  | way, x :: s => TLv shape way x ∧ TL shape (way ++ [stepOf x]) s
def sib (shape : List Int) (way : List Sp) (x : Lv) : List (List Sp) :=
  (List.range' (x.f2.toNat + 1) (manyN (nodeF shape way) - (x.f2.toNat + 1))).flatMap (fun a => leavesF shape (3 - way.length) (way ++ [stepAt way.length (nodeF shape way).1 a]))
/-- what comes behind -/
def aft (shape : List Int) : List Sp → List Lv → List (List Sp)
  | _, [] => []
  | way, x :: s => aft shape (way ++ [stepOf x]) s ++ sib shape way x
theorem TL_snoc (shape : List Int) : ∀ (t : List Lv) (way : List Sp) (x : Lv), TL shape way (t ++ [x]) ↔ TL shape way t ∧ TLv shape (way ++ t.map stepOf) x
  | [], way, x => by simp [TL]
  | y :: t, way, x => by
    simp only [List.cons_append, TL, List.map_cons]
    rw [TL_snoc shape t (way ++ [stepOf y]) x, List.append_assoc, List.singleton_append, and_assoc]
theorem aft_snoc (shape : List Int) : ∀ (t : List Lv) (way : List Sp) (x : Lv), aft shape way (t ++ [x]) = sib shape (way ++ t.map stepOf) x ++ aft shape way t
  | [], way, x => by simp [aft]
  | y :: t, way, x => by
    simp only [List.cons_append, aft, List.map_cons]
    rw [aft_snoc shape t (way ++ [stepOf y]) x, List.append_assoc, List.append_assoc, List.singleton_append]
theorem TLv.many {shape : List Int} {way : List Sp} {x : Lv} (h : TLv shape way x) : manyI x = (manyN (nodeF shape way) : Nat) := by
  unfold HQ.manyI manyN
  rw [h.pt, h.off]
  simp only [chL_len]
  split <;> simp
theorem TLv.step {shape : List Int} {way : List Sp} {x : Lv} (h : TLv shape way x) : stepOf x = stepAt way.length (nodeF shape way).1 x.f2.toNat := by
  obtain ⟨h0, h1, _⟩ := h.fit
  rw [h.many] at h1
  have h3 := h.pos
  unfold HQ.stepOf stepAt
  rw [h.pt]
  simp only [chL_len]
  by_cases he : x.f2 = ((nodeF shape way).1 : Int)
  · rw [if_pos he, if_pos (by omega)]
    rfl
  · have hlt : x.f2.toNat < (nodeF shape way).1 := by unfold manyN at h1; split at h1 <;> omega
    rw [if_neg he, if_neg (by omega)]
    have : rd_T49 (chL way.length 0 (nodeF shape way).1) x.f2 = ⟨way.length, 0, (x.f2.toNat : Int), 0, 0⟩ := by
      simp [rd_T49, chL, hlt]
    rw [this]
theorem TLv.len {shape : List Int} {way : List Sp} {x : Lv} (h : TLv shape way x) : way.length < 4 := by
  rcases Nat.lt_or_ge way.length 4 with h1 | h1
  · exact h1
  · have := h.pos
    rw [nodeF_deep h1] at this
    exact absurd this (Nat.lt_irrefl _)
theorem TLv.up {shape : List Int} {way : List Sp} {x : Lv} (h : TLv shape way x) (hu : x.f2 + 1 < manyI x) : TLv shape way (HQ.up x) :=
  ⟨h.pt, h.off, h.pos, ⟨by have := h.fit.1; show 0 ≤ x.f2 + 1; omega, hu, h.fit.2.2⟩⟩
theorem sib_up {shape : List Int} {way : List Sp} {x : Lv} (h : TLv shape way x) (hu : x.f2 + 1 < manyI x) : sib shape way x = L4 shape (way ++ [stepOf (HQ.up x)]) ++ sib shape way (HQ.up x) := by
  have h0 := h.fit.1
  have hl := h.len
  have hs := (h.up hu).step
  have e : (HQ.up x).f2.toNat = x.f2.toNat + 1 := by show (x.f2 + 1).toNat = _; omega
  rw [h.many] at hu
  rw [hs]
  unfold sib L4
  rw [e, show manyN (nodeF shape way) - (x.f2.toNat + 1) = (manyN (nodeF shape way) - (x.f2.toNat + 1 + 1)) + 1 by omega, List.range'_succ, List.flatMap_cons, List.length_append, List.length_singleton, show 4 - (way.length + 1) = 3 - way.length by omega]
theorem sib_end {shape : List Int} {way : List Sp} {x : Lv} (h : TLv shape way x) (hu : ¬ x.f2 + 1 < manyI x) : sib shape way x = [] := by
  have h0 := h.fit.1
  rw [h.many] at hu
  unfold sib
  rw [show manyN (nodeF shape way) - (x.f2.toNat + 1) = 0 by omega]
  rfl
/-- going on comes to the next leaf's way, or there is none -/
theorem next_aft (shape : List Int) (n : Nat) : ∀ ls : List Lv, ls.length = n → TL shape [] ls → (aft shape [] ls = [] ∧ nextF ls = []) ∨ (0 < (nextF ls).length ∧ TL shape [] (nextF ls) ∧ aft shape [] ls = L4 shape ((nextF ls).map stepOf) ++ aft shape [] (nextF ls)) := by
  induction n with
  | zero =>
    intro ls hl h
    obtain rfl := List.eq_nil_of_length_eq_zero hl
    exact .inl ⟨rfl, rfl⟩
  | succ n ih =>
    intro ls hl h
    rcases snoc_cases ls with rfl | ⟨t, x, rfl⟩
    · simp at hl
    · obtain ⟨ht, hx⟩ := (TL_snoc shape t [] x).1 h
      rw [List.nil_append] at hx
      rw [nextF_snoc, aft_snoc, List.nil_append]
      by_cases hu : x.f2 + 1 < manyI x
      · rw [if_pos hu]
        refine .inr ⟨by simp, (TL_snoc shape t [] _).2 ⟨ht, by rw [List.nil_append]; exact hx.up hu⟩, ?_⟩
        rw [aft_snoc, List.nil_append, sib_up hx hu, List.map_append, List.map_cons, List.map_nil, List.append_assoc]
      · rw [if_neg hu, sib_end hx hu, List.nil_append]
        exact ih t (by simpa using hl) ht
/-- the level that a way's node makes -/
def lvN (shape : List Int) (way : List Sp) : Lv := ⟨⟨(way.length : Int), 0, chL way.length 0 (nodeF shape way).1⟩, (nodeF shape way).2, 0⟩
theorem lvN_ok {shape : List Int} {way : List Sp} (h : 0 < (nodeF shape way).1) : TLv shape way (lvN shape way) := by
  have h3 := nodeF_lt shape way
  refine ⟨rfl, rfl, h, ⟨Int.le_refl _, ?_, by show (chL _ _ _).length ≤ 1000; rw [chL_len]; omega⟩⟩
  unfold HQ.manyI
  show (0 : Int) < _
  split
  · show (0 : Int) < ((chL _ _ _).length : Int) + 1; omega
  · show (0 : Int) < ((chL _ _ _).length : Int); rw [chL_len]; omega
theorem down_aft {shape : List Int} {ls : List Lv} (h : TL shape [] ls) (hp : 0 < (nodeF shape (ls.map stepOf)).1) : TL shape [] (ls ++ [lvN shape (ls.map stepOf)]) ∧
    L4 shape (ls.map stepOf) ++ aft shape [] ls = L4 shape ((ls ++ [lvN shape (ls.map stepOf)]).map stepOf) ++ aft shape [] (ls ++ [lvN shape (ls.map stepOf)]) := by
  have hv := lvN_ok hp
  have hl := hv.len
  refine ⟨(TL_snoc shape ls [] _).2 ⟨h, by rw [List.nil_append]; exact hv⟩, ?_⟩
  rw [aft_snoc, List.nil_append, List.map_append, List.map_cons, List.map_nil, hv.step, ← List.append_assoc]
  congr 1
  generalize ls.map stepOf = way at hp hv hl
  unfold L4 sib
  rw [show (lvN shape way).f2.toNat = 0 from rfl, List.length_append, List.length_singleton, show 4 - (way.length + 1) = 3 - way.length by omega, show 4 - way.length = (3 - way.length) + 1 by omega]
  rw [leavesF, if_neg (by omega)]
  have hm : 0 < manyN (nodeF shape way) := by unfold manyN; omega
  obtain ⟨k, hk⟩ : ∃ k, manyN (nodeF shape way) = k + 1 := ⟨manyN (nodeF shape way) - 1, by omega⟩
  rw [hk, List.range_eq_range', List.range'_succ, List.flatMap_cons]
  rfl
end Go.Proofs.YtfmlpcdbllpcaaaDoor.HX

namespace Go.Proofs.YtfmlpcdbllpcaaaDoor.HX
open Go.Proofs.YtfmlpcdbllpcaaaDoor.HD (Ch mayP)
open Go.Proofs.YtfmlpcdbllpcaaaDoor.HQ Go.Proofs.YtfmlpcdbllpcaaaDoor.HU Go.RowKit Go.Proofs.YtfmlpcdbllpcaaaDoor.HK Go.Proofs.YtfmlpcdbllpcaaaDoor.HP Go.Proofs.YtfmlpcdbllpcaaaDoorW.PrintWords Go.Proofs.YtfmlpcdbllpcaaaDoorW.PrintLast Go.Proofs.YtfmlpcdbllpcaaaDoorW.PrintMore
set_option linter.unusedVariables false
set_option linter.unusedSimpArgs false
def ShOk (shape : List Int) : Prop := ∀ x ∈ shape, 0 ≤ x ∧ x ≤ 255
def WayOk (way : List Sp) : Prop := ∀ s ∈ way, 0 ≤ s.f3.f2 ∧ s.f3.f2 ≤ 3
def nodeK (way : List Sp) (i : Nat) : Int := (way.take i).foldl (fun n s => 3 * n + s.f3.f2 + (if s.f0 then 2 else 0)) way.length
theorem nodeK_succ {way : List Sp} {i : Nat} (h : i < way.length) : nodeK way (i + 1) = 3 * nodeK way i + way[i].f3.f2 + (if way[i].f0 then 2 else 0) := by
  unfold nodeK
  rw [List.take_succ_eq_append_getElem h, List.foldl_append]
  rfl
def bnd : Nat → Int
  | 0 => 3
  | 1 => 14
  | 2 => 47
  | _ => 146
theorem bnd_step {i : Nat} (hi : i < 3) {N f : Int} (h0 : 0 ≤ N) (h1 : N ≤ bnd i) (f0 : 0 ≤ f) (f1 : f ≤ 3) : 0 ≤ 3 * N + f ∧ 3 * N + f + 2 ≤ bnd (i + 1) ∧ bnd (i + 1) ≤ 146 := by
  rcases (by omega : i = 0 ∨ i = 1 ∨ i = 2) with rfl | rfl | rfl <;> simp only [bnd] at * <;> omega
theorem bnd_le (i : Nat) : bnd i ≤ 146 := by
  unfold bnd
  split <;> omega
set_option maxHeartbeats 4000000 in
theorem node_c (As : Option Addr) (cs : Nat) (shape : List Int) (A : Option Addr) (c : Nat) (way : List Sp) (w : World) (hrs : Kd.C (Kd.int .u8) w As shape.length shape) (hcs : shape.length ≤ cs) (hr : Kd.C k51 w A way.length way) (hc : way.length ≤ c)
    (hs : ShOk shape) (hsl : shape.length ≤ 60) (hw : WayOk way) :
    Calls Tryd.prog 12 #[.slice As shape.length cs, .slice A way.length c] w fun e w' => e = .returned (.tuple #[.int .i64 (nodeF shape way).1, .bool (nodeF shape way).2]) ∧ Below w.heap.size w w' := by
  have HR := Aside0.mk hr
  have HRS := Aside0.mk hrs
  have HS := Aside0.mk hs
  have HW := Aside0.mk hw
  clear hr hrs hs hw
  by_cases h4 : (way.length : Int) ≥ 4
  · have HN := Aside0.mk (nodeF_deep (shape := shape) (way := way) (by omega))
    have d4 : decide ((way.length : Int) ≥ 4) = true := decide_eq_true h4
    have d5 : decide (4 ≤ way.length) = true := decide_eq_true (by omega)
    clear h4 HR HRS HS HW
    go_enter Tryd.func12, Tryd.ntmps12
    go_wp2
    refine bodyPost_ret (results_tmp2 rfl _ _ _) rfl ?_
    exact ⟨by rw [HN.out]; rfl, Below.refl _ _⟩
  · have d4 : decide ((way.length : Int) ≥ 4) = false := decide_eq_false h4
    have d5 : decide (4 ≤ way.length) = false := decide_eq_false (by omega)
    have hw3 : way.length ≤ 3 := by omega
    by_cases hz : shape = []
    · have HN := Aside0.mk (show nodeF shape way = (0, false) by unfold nodeF; rw [if_pos (.inr hz)])
      subst hz
      clear h4 HR HRS HS HW hw3
      go_enter Tryd.func12, Tryd.ntmps12
      go_wp2
      refine bodyPost_ret (results_tmp2 rfl _ _ _) rfl ?_
      exact ⟨by rw [HN.out]; rfl, Below.refl _ _⟩
    · have hsz : ¬ shape.length = 0 := fun h => hz (List.eq_nil_of_length_eq_zero h)
      have dz : ((shape.length : Int) == 0) = false := by simpa using hz
      have HN := Aside0.mk (show nodeF shape way = (((rd shape (nodeN way % shape.length)).tmod 4).toNat, decide (128 ≤ rd shape (nodeN way % shape.length))) by unfold nodeF; rw [if_neg (by rintro (h | h); omega; exact hz h)])
      clear h4 hz
      go_enter Tryd.func12, Tryd.ntmps12
      go_wp2_with fail
      go_loopw [6, 7] (fun v6 v7 wr => ∃ (i : Nat) (N : Int), i ≤ way.length ∧ v7 = .int .i64 i ∧ v6 = .int .i64 N ∧ Aside0 (N = nodeK way i ∧ 0 ≤ N ∧ N ≤ bnd i) ∧ wr = w) (fun _ v7 _ => way.length - (intOf v7).toNat)
      case atStart => exact ⟨0, way.length, by omega, rfl, rfl, ⟨⟨rfl, by omega, by simp only [bnd]; omega⟩⟩, rfl⟩
      case round =>
        obtain ⟨i, N, hi, rfl, rfl, HK, rfl⟩ := hrel
        by_cases hiw : i < way.length
        · obtain ⟨ad, hA, g0, g1, g2, g3, g4, g5, g6, g7⟩ := at_T51 HR.out (i : Int) (by omega) (by omega)
          rw [Int.toNat_natCast] at g0 g5
          have hrd : rd_T51 way (i : Int) = way[i] := by simp [rd_T51, hiw]
          rw [hrd] at g0 g5
          subst hA
          obtain ⟨f0, f1⟩ := HW.out _ (List.getElem_mem hiw)
          have hks := nodeK_succ hiw
          obtain ⟨hNk, hN0, hN1⟩ := HK.out
          have hbs := bnd_step (by omega) hN0 hN1 f0 f1
          rw [← hNk] at hks
          generalize way[i].f3.f2 = f at g5 f0 f1 hks hbs
          have q1 : -9223372036854775808 ≤ 3 * N ∧ 3 * N ≤ 9223372036854775807 := by omega
          have q2 : -9223372036854775808 ≤ 3 * N + f ∧ 3 * N + f ≤ 9223372036854775807 := by omega
          have q3 : -9223372036854775808 ≤ 3 * N + f + 2 ∧ 3 * N + f + 2 ≤ 9223372036854775807 := by omega
          have q4 : -9223372036854775808 ≤ (i : Int) + 1 ∧ (i : Int) + 1 ≤ 9223372036854775807 := by omega
          have HIN := Aside0.mk (show i + 1 ≤ way.length by omega)
          have HME := Aside0.mk (show way.length - (i + 1) < way.length - i by omega)
          have HKS := Aside0.mk hks
          have HBS := Aside0.mk hbs
          clear g1 g2 g3 g4 g6 g7 hrd hks hNk hN0 hN1 hbs f0 f1
          cases hoff : way[i].f0 with
          | true =>
            rw [hoff] at g0
            have HK2 : Aside0 (3 * N + f + 2 = nodeK way (i + 1) ∧ 0 ≤ 3 * N + f + 2 ∧ 3 * N + f + 2 ≤ bnd (i + 1)) := ⟨by have h1 := HKS.out; rw [hoff] at h1; have h2 := HBS.out; exact ⟨h1.symm, by omega, h2.2.1⟩⟩
            clear hoff
            have m1 := i64w q1.1 q1.2
            have m2 := i64w q2.1 q2.2
            have m3 := i64w q3.1 q3.2
            have hi64 := i64w q4.1 q4.2
            clear q1 q2 q3 q4
            go_wp2
            clear m1 m2 m3 hi64
            refine ⟨⟨i + 1, _, HIN.out, by go_num, rfl, HK2, trivial⟩, ?_⟩
            have h := HME.out
            simp [intOf]
            omega
          | false =>
            rw [hoff] at g0
            have HK2 : Aside0 (3 * N + f = nodeK way (i + 1) ∧ 0 ≤ 3 * N + f ∧ 3 * N + f ≤ bnd (i + 1)) := ⟨by have h1 := HKS.out; rw [hoff] at h1; have h2 := HBS.out; exact ⟨by rw [h1]; simp, h2.1, by omega⟩⟩
            clear hoff
            have m1 := i64w q1.1 q1.2
            have m2 := i64w q2.1 q2.2
            have m3 := i64w q3.1 q3.2
            have hi64 := i64w q4.1 q4.2
            clear q1 q2 q3 q4
            go_wp2
            clear m1 m2 m3 hi64
            refine ⟨⟨i + 1, _, HIN.out, by go_num, rfl, HK2, trivial⟩, ?_⟩
            have h := HME.out
            simp [intOf]
            omega
        · obtain rfl : i = way.length := by omega
          obtain ⟨hNk, hN0, hN1⟩ := HK.out
          have hNN : N = nodeN way := by rw [hNk]; unfold nodeK nodeN; rw [List.take_length]
          have hb := bnd_le way.length
          have hlp : (0 : Int) < (shape.length : Int) := by omega
          have hm0 := Int.emod_nonneg N (show (shape.length : Int) ≠ 0 by omega)
          have hm1 := Int.emod_lt_of_pos N hlp
          obtain ⟨q, hq⟩ : ∃ q : Nat, N % (shape.length : Int) = q := ⟨(N % (shape.length : Int)).toNat, by omega⟩
          have hqm : N.tmod (shape.length : Int) = (q : Int) := by rw [Int.tmod_eq_emod_of_nonneg hN0]; exact hq
          have hql : q < shape.length := by omega
          have hqi : (q : Int) < (shape.length : Int) := by omega
          obtain ⟨ad, hA, e1⟩ := Kd.at_int HRS.out (q : Int) (by omega) (by omega)
          rw [Int.toNat_natCast] at e1
          have hxr := HS.out (rd shape (q : Int)) (by rw [rd_lt hql]; exact List.getElem_mem hql)
          rw [← hNN, hq] at HN
          subst hA
          generalize rd shape (q : Int) = x at e1 hxr HN
          have hx4 : x.tmod 4 = ((x.tmod 4).toNat : Int) := by rw [Int.tmod_eq_emod_of_nonneg hxr.1]; omega
          have hx5 : 0 ≤ x.tmod 4 ∧ x.tmod 4 ≤ 3 := by rw [Int.tmod_eq_emod_of_nonneg hxr.1]; omega
          have HX4 := Aside0.mk hx4
          have r1 : -9223372036854775808 ≤ (q : Int) ∧ (q : Int) ≤ 9223372036854775807 := by omega
          have r2 : -9223372036854775808 ≤ x.tmod 4 ∧ x.tmod 4 ≤ 9223372036854775807 := by omega
          have hUb : 0 ≤ N ∧ N < 18446744073709551616 := by omega
          have hU : IntKind.u64.wrap N = N := by
            have : IntKind.u64.wrap N = N % 18446744073709551616 := by simp [IntKind.wrap, IntKind.bits, IntKind.signed]
            rw [this, Int.emod_eq_of_lt hUb.1 hUb.2]
          have hwq := wrap64_of r1.1 r1.2
          have hwq2 := i64w r1.1 r1.2
          have hwx := wrap64_of r2.1 r2.2
          have hwx2 := i64w r2.1 r2.2
          clear HK hNk hN0 hN1 hNN hb hlp hm0 hm1 hq hx4 hx5 hxr r1 r2 hUb
          go_wp2
          refine bodyPost_ret (results_tmp2 rfl _ _ _) rfl ?_
          exact ⟨by rw [HN.out]; show Ending.returned (.tuple #[.int .i64 (x.tmod 4), .bool (decide (128 ≤ x))]) = _; rw [HX4.out]; rfl, Below.refl _ _⟩
end Go.Proofs.YtfmlpcdbllpcaaaDoor.HX

namespace Go.Proofs.YtfmlpcdbllpcaaaDoor.HX
open Go.Proofs.YtfmlpcdbllpcaaaDoor.HD (Ch mayP)
open Go.Proofs.YtfmlpcdbllpcaaaDoor.HQ Go.Proofs.YtfmlpcdbllpcaaaDoor.HU Go.RowKit Go.Proofs.YtfmlpcdbllpcaaaDoor.HK Go.Proofs.YtfmlpcdbllpcaaaDoor.HP Go.Proofs.YtfmlpcdbllpcaaaDoorW.PrintWords Go.Proofs.YtfmlpcdbllpcaaaDoorW.PrintLast Go.Proofs.YtfmlpcdbllpcaaaDoorW.PrintMore
set_option linter.unusedVariables false
set_option linter.unusedSimpArgs false
def kS : Kd Sl := Kd.scalar encSl (fun _ => rfl)
/-- a way's slice: it reads as the way; its block is one of steps -/
structure WS (W : World) (s : Sl) (way : List Sp) : Prop where
  n : s.2.1 = way.length
  c : s.2.1 ≤ s.2.2
  C : Kd.C k51 W s.1 s.2.1 way
  ty : ∀ ad, s.1 = some ad → ∃ cells f, W.heap[ad.block]? = some (.cells cells 51 f)
theorem add_block (a : Addr) (k : Nat) : (a.add k).block = a.block := by unfold Addr.add; split <;> rfl
theorem C_same {W W' : World} {A : Option Addr} {n : Nat} {xs : List Sp} (h : Kd.C k51 W A n xs) (hb : ∀ ad, A = some ad → W'.heap[ad.block]? = W.heap[ad.block]?) : Kd.C k51 W' A n xs := by
  refine ⟨h.1, h.2.1, fun hp => ?_⟩
  obtain ⟨ad, he, hc⟩ := h.2.2 hp
  refine ⟨ad, he, fun j p hj => ?_⟩
  obtain ⟨cs, h1, h2, h3⟩ := hc j p hj
  obtain rfl := k51_open h2
  refine ⟨_, h1, k51_mk W' p, fun i u hu => ?_⟩
  rw [← h3 i u hu]
  have hbb := hb ad he
  have e : ∀ a : Addr, a.block = ad.block → W'.cell? a = W.cell? a := fun a ha => by
    unfold World.cell?
    rw [ha, hbb]
  exact e _ (add_block _ _)
theorem WS.below {W W' : World} {s : Sl} {way : List Sp} (h : WS W s way) (hb : Below W.heap.size W W') : WS W' s way :=
  ⟨h.n, h.c, Kd.C_below h.C hb, fun ad ha => by
    obtain ⟨cells, f, hc⟩ := h.ty ad ha
    exact ⟨cells, f, (hb.block _ (blk_lt hc)).trans hc⟩⟩
theorem WS.kept {W W' : World} {S : Nat → Prop} {s : Sl} {way : List Sp} (h : WS W s way) (hk : Kept W W' S) (hS : ∀ k cells f, W.heap[k]? = some (.cells cells 51 f) → ¬ S k) : WS W' s way := by
  have hb : ∀ ad, s.1 = some ad → W'.heap[ad.block]? = W.heap[ad.block]? := fun ad ha => by
    obtain ⟨cells, f, hc⟩ := h.ty ad ha
    exact hk.2 _ (blk_lt hc) (hS _ _ _ hc)
  refine ⟨h.n, h.c, C_same h.C hb, fun ad ha => ?_⟩
  obtain ⟨cells, f, hc⟩ := h.ty ad ha
  exact ⟨cells, f, (hb ad ha).trans hc⟩
/-- rows of ways -/
def WL (W : World) (ss : List Sl) (ls : List (List Sp)) : Prop := ss.length = ls.length ∧ ∀ (j : Nat) (s : Sl) (way : List Sp), ss[j]? = some s → ls[j]? = some way → WS W s way
theorem WL.below {W W' : World} {ss : List Sl} {ls : List (List Sp)} (h : WL W ss ls) (hb : Below W.heap.size W W') : WL W' ss ls := ⟨h.1, fun j s way h1 h2 => (h.2 j s way h1 h2).below hb⟩
theorem WL.kept {W W' : World} {S : Nat → Prop} {ss : List Sl} {ls : List (List Sp)} (h : WL W ss ls) (hk : Kept W W' S) (hS : ∀ k cells f, W.heap[k]? = some (.cells cells 51 f) → ¬ S k) : WL W' ss ls := ⟨h.1, fun j s way h1 h2 => (h.2 j s way h1 h2).kept hk hS⟩
theorem WL.app {W : World} {ss ss2 : List Sl} {ls ls2 : List (List Sp)} (h : WL W ss ls) (h2 : WL W ss2 ls2) : WL W (ss ++ ss2) (ls ++ ls2) := by
  refine ⟨by rw [List.length_append, List.length_append, h.1, h2.1], fun j s way h3 h4 => ?_⟩
  by_cases hj : j < ls.length
  · rw [List.getElem?_append_left (by rw [h.1]; exact hj)] at h3
    rw [List.getElem?_append_left hj] at h4
    exact h.2 j s way h3 h4
  · rw [List.getElem?_append_right (by rw [h.1]; omega), h.1] at h3
    rw [List.getElem?_append_right (by omega)] at h4
    exact h2.2 _ s way h3 h4
theorem WL.one {W : World} {s : Sl} {way : List Sp} (h : WS W s way) : WL W [s] [way] :=
  ⟨rfl, fun j s' way' h1 h2 => by
    match j, h1, h2 with
    | 0, h1, h2 =>
      simp at h1 h2
      subst h1 h2
      exact h
    | j + 1, h1, h2 => simp at h1⟩
theorem WL.nil (W : World) : WL W [] [] := ⟨rfl, fun j s way h => by simp at h⟩
/-- an own row of steps is such a slice -/
theorem WS.of_R {W : World} {base : Nat} {ok : Nat → Prop} {A : Option Addr} {n c : Nat} {way : List Sp} (h : Kd.R k51 51 W base ok (.slice A n c) way) : WS W (A, n, c) way := by
  obtain ⟨A', c', he, hc, hC⟩ := Kd.R_reads h
  injection he with h1 h2 h3
  subst h1 h2 h3
  refine ⟨rfl, hc, hC, fun ad ha => ?_⟩
  subst ha
  by_cases hp : 0 < way.length
  · obtain ⟨b, cu, hv, _⟩ := Kd.R_form h hp
    injection hv with h1 h2 h3
    injection h1 with h1
    subst h1
    obtain ⟨cells, hcl⟩ := Kd.R_typed h b rfl
    exact ⟨cells, _, hcl⟩
  · obtain ⟨inner, ho⟩ := Kd.R_own h
    rcases ho.2 with ⟨hv, _⟩ | ⟨g, cap, cur, hv, _, hb, _⟩
    · injection hv with h1
      cases h1
    · injection hv with h1
      injection h1 with h1
      subst h1
      exact ⟨cur, _, hb⟩
theorem WS.of_Q {W : World} {base : Nat} {ok : Nat → Prop} {A : Option Addr} {n c : Nat} {way : List Sp} (h : Kd.Q k51 51 W base ok (.slice A n c) way) (hp : 0 < way.length) : WS W (A, n, c) way := by
  obtain ⟨A', c', he, hc, hC⟩ := Kd.Q_reads h
  injection he with h1 h2 h3
  subst h1 h2 h3
  refine ⟨rfl, hc, hC, fun ad ha => ?_⟩
  subst ha
  obtain ⟨_, inner, ho, _⟩ := h
  rcases ho.2 with ⟨h0, A, hv, hA⟩ | ⟨g, off, cap, cur, hv, hg, hh, r⟩
  · omega
  · injection hv with h1
    injection h1 with h1
    subst h1
    exact ⟨cur, _, hh⟩
end Go.Proofs.YtfmlpcdbllpcaaaDoor.HX

namespace Go.Proofs.YtfmlpcdbllpcaaaDoor.HX
open Go.Proofs.YtfmlpcdbllpcaaaDoor.HD (Ch mayP)
open Go.Proofs.YtfmlpcdbllpcaaaDoor.HQ Go.Proofs.YtfmlpcdbllpcaaaDoor.HU Go.RowKit Go.Proofs.YtfmlpcdbllpcaaaDoor.HK Go.Proofs.YtfmlpcdbllpcaaaDoor.HP Go.Proofs.YtfmlpcdbllpcaaaDoorW.PrintWords Go.Proofs.YtfmlpcdbllpcaaaDoorW.PrintLast Go.Proofs.YtfmlpcdbllpcaaaDoorW.PrintMore
set_option linter.unusedVariables false
set_option linter.unusedSimpArgs false
theorem R_one_S {w : World} {e : Nat} (s : Sl) : kS.R e (w.alloc (.cells #[.slice s.1 s.2.1 s.2.2] e)) w.heap.size (fun _ => True) (.slice (some ⟨w.heap.size, 0, none⟩) 1 1) [s] :=
  ⟨fun k hk => trivial, [encSl s], ⟨by simp [kS, Kd.scalar], .inr ⟨w.heap.size, 1, #[.slice s.1 s.2.1 s.2.2], rfl, Nat.le_refl _, blk_new _ _, Nat.le_refl _, by decide, by simp [kS, Kd.scalar], by simp [kS, Kd.scalar, encSl]⟩⟩, Reps.one rfl (Reps.none _ _)⟩
theorem infoSt : (Tryd.prog.info? 51).map (fun i => (i.zero, i.size, i.bytes)) = some (some (.agg #[.bool false, .int .i64 0, .int .i64 0, .int .i64 0, .int .i64 0, .int .i64 0, .int .i64 0, .int .i64 0]), 8, 64) := by kernel_rfl
theorem lw1 (w : World) (a : Obj) : Below w.heap.size w (w.drew.alloc a) := below_alloc (below_drew (Below.refl _ _)) a
theorem lw2 (w : World) (a b : Obj) : Below w.heap.size w ((w.drew.alloc a).alloc b) := below_alloc (lw1 w a) b
theorem l1_0 (w : World) (a : Obj) : (w.alloc a).heap[w.heap.size]? = some a := blk_new w a
theorem l2_0 (w : World) (a b : Obj) : ((w.alloc a).alloc b).heap[w.heap.size]? = some a := blk_alloc (blk_new w a) b
theorem l2_1 (w : World) (a b : Obj) : ((w.alloc a).alloc b).heap[w.heap.size + 1]? = some b := blk_second w a b
theorem lkeep {α : Type} {d : Kd α} {w W : World} {A : Option Addr} {n : Nat} {xs : List α} (h : d.C w A n xs) (hb : Below w.heap.size w W) : ReadsRow (d.K w) d.sz W A n xs := ReadsRow.imp_ h hb (fun _ _ hp => hp)
theorem lblk {W W1 : World} {b c : Nat} {o : Obj} (hb : W.heap[c]? = some o) (hk : Kept W W1 (fun k => k = b)) (hne : c ≠ b) : W1.heap[c]? = some o := blk_kept hb hk hne
theorem lbel {n b : Nat} {w W w1 : World} (hW : Below n w W) (hbl : Below b W w1) (hn : n ≤ b) : Below n w w1 := hW.trans (hbl.mono hn)
theorem lsz {w W : World} {k : Nat} (hW : Below w.heap.size w W) (hk : W.heap.size ≤ k) : w.heap.size ≤ k := Nat.le_trans hW.size hk
theorem lsz1 (w : World) (o : Obj) : w.heap.size ≤ (w.alloc o).heap.size := by rw [World.size_alloc]; omega
theorem lal {n : Nat} {w W : World} (hW : Below n w W) (hn : n ≤ W.heap.size) (o : Obj) : Below n w (W.alloc o) := hW.alloc hn o
/-- a way made longer by a step -/
theorem long_end {w W : World} {base : Nat} {ok : Nat → Prop} {A : Option Addr} {c : Nat} {way : List Sp} {p : Sp} {r m i : Nat} (hq : Kd.Q k51 51 W base ok (.slice A (way ++ [p]).length c) (way ++ [p])) (hp : p = stepAt r m i) (hb : Below w.heap.size w W) :
    ∃ A6 c6, Value.slice A (way.length + 1) c = .slice A6 (way.length + 1) c6 ∧ WS W (A6, way.length + 1, c6) (way ++ [stepAt r m i]) ∧ Below w.heap.size w W := by
  subst hp
  have h := WS.of_Q hq (by simp)
  rw [List.length_append, List.length_singleton] at h
  exact ⟨A, c, rfl, h, hb⟩
theorem long_endR {w W : World} {base : Nat} {ok : Nat → Prop} {A : Option Addr} {n c : Nat} {way : List Sp} {p : Sp} {r m i : Nat} (hq : Kd.R k51 51 W base ok (.slice A n c) (way ++ [p])) (hp : p = stepAt r m i) (hb : Below w.heap.size w W) :
    n = way.length + 1 ∧ WS W (A, way.length + 1, c) (way ++ [stepAt r m i]) ∧ Below w.heap.size w W := by
  subst hp
  have h := WS.of_R hq
  have hn := (Kd.R_reads' hq).1
  rw [List.length_append, List.length_singleton] at hn
  subst hn
  exact ⟨rfl, h, hb⟩
def kidsF (shape : List Int) (d : Nat) (way : List Sp) (i : Nat) : List (List Sp) := (List.range i).flatMap (fun a => leavesF shape d (way ++ [stepAt way.length (nodeF shape way).1 a]))
theorem kidsF_succ (shape : List Int) (d : Nat) (way : List Sp) (i : Nat) : kidsF shape d way (i + 1) = kidsF shape d way i ++ leavesF shape d (way ++ [stepAt way.length (nodeF shape way).1 i]) := by simp [kidsF, List.range_succ]
theorem flat_len {ls : List (List (List Sp))} {b : Nat} (h : ∀ x ∈ ls, x.length ≤ b) : ls.flatten.length ≤ ls.length * b := by
  induction ls with
  | nil => simp
  | cons x t ih =>
    have h1 := h x (by simp)
    have h2 := ih (fun y hy => h y (by simp [hy]))
    simp only [List.flatten_cons, List.length_append, List.length_cons, Nat.succ_mul]
    omega
theorem many_le (shape : List Int) (way : List Sp) : manyN (nodeF shape way) ≤ 4 := by
  have := nodeF_lt shape way
  unfold manyN
  split <;> omega
theorem leaves_len (shape : List Int) : ∀ (d : Nat) (way : List Sp), (leavesF shape d way).length ≤ 4 ^ d
  | 0, way => by simp [leavesF]
  | d + 1, way => by
    unfold leavesF
    split
    · exact Nat.pos_of_ne_zero (by simp)
    · rw [List.flatMap_def]
      refine Nat.le_trans (flat_len (b := 4 ^ d) (fun x hx => ?_)) ?_
      · obtain ⟨a, _, rfl⟩ := List.mem_map.1 hx
        exact leaves_len shape d _
      · rw [List.length_map, List.length_range, Nat.pow_succ, Nat.mul_comm]
        exact Nat.mul_le_mul_left _ (many_le shape way)
theorem pow_small {d : Nat} (h : d ≤ 3) : 4 ^ d ≤ 64 := Nat.le_trans (Nat.pow_le_pow_right (by decide) h) (by decide)
theorem leaves_small {shape : List Int} {d : Nat} {way : List Sp} (h : d ≤ 3) : (leavesF shape d way).length ≤ 64 := Nat.le_trans (leaves_len shape d way) (pow_small h)
theorem kids_small {shape : List Int} {d : Nat} {way : List Sp} {i : Nat} (h : d ≤ 3) (hi : i ≤ 4) : (kidsF shape d way i).length ≤ 256 := by
  unfold kidsF
  rw [List.flatMap_def]
  refine Nat.le_trans (flat_len (b := 64) (fun x hx => ?_)) ?_
  · obtain ⟨a, _, rfl⟩ := List.mem_map.1 hx
    exact leaves_small h
  · rw [List.length_map, List.length_range]
    omega
/-- a row of ways put behind another one -/
theorem kids_end {w6 w7 : World} {base : Nat} {ok : Nat → Prop} {v7 : Value} {ss ss2 : List Sl} {ls ls2 : List (List Sp)} (HO : kS.R 22 w6 base ok v7 ss) (h1 : WL w6 ss ls) (h2 : WL w6 ss2 ls2) (hg : w6.grownBy w7 v7.ownBlock) : WL w7 (ss ++ ss2) (ls ++ ls2) :=
  (h1.app h2).kept (Kept.of_grown (S := fun k => v7.ownBlock = some k) hg (Kept.refl w6 _) (fun k hk => .inl hk)) (fun k cells f hb hk => by
    obtain ⟨c2, h2⟩ := Kd.R_typed HO k hk
    rw [hb] at h2
    injection h2 with h2
    injection h2 with _ h2 _
    exact absurd h2 (by decide))
theorem infoR : (Tryd.prog.info? 22).map (fun i => (i.zero, i.size, i.bytes)) = some (some (.slice none 0 0), 1, 24) := by kernel_rfl
theorem WayOk.snoc {way : List Sp} (h : WayOk way) {r m i : Nat} (hi : i ≤ 3) (hm : m ≤ 3) : WayOk (way ++ [stepAt r m i]) := by
  intro s hs
  rcases List.mem_append.1 hs with hs | hs
  · exact h s hs
  · rw [List.mem_singleton.1 hs]
    unfold stepAt
    split
    · exact ⟨Int.le_refl _, by show (0 : Int) ≤ 3; decide⟩
    · exact ⟨by show (0 : Int) ≤ i; omega, by show (i : Int) ≤ 3; omega⟩
set_option maxRecDepth 100000 in
set_option maxHeartbeats 8000000 in
theorem leaves_c (As : Option Addr) (cs : Nat) (shape : List Int) (hcs : shape.length ≤ cs) (hs : ShOk shape) (hsl : shape.length ≤ 60) : ∀ (d : Nat) (A : Option Addr) (c : Nat) (way : List Sp) (w : World), way.length + d = 4 → WayOk way → Kd.C (Kd.int .u8) w As shape.length shape → WS w (A, way.length, c) way →
    Calls Tryd.prog 10 #[.slice As shape.length cs, .slice A way.length c] w fun e w' => ∃ v' ss, e = .returned v' ∧ kS.R 22 w' w.heap.size (fun _ => True) v' ss ∧ WL w' ss (leavesF shape d way) ∧ Below w.heap.size w w' := by
  intro d
  induction d with
  | zero =>
    intro A c way w hd hw hrs hws
    have HN := Aside0.mk (nodeF_deep (shape := shape) (way := way) (by omega))
    have HWS := Aside0.mk hws
    have HND := Aside0.mk (node_c As cs shape A c way w hrs hcs hws.C hws.c hs hsl hw)
    rw [HN.out] at HND
    clear hrs hws hw hs hd
    go_enter Tryd.func10, Tryd.ntmps10
    go_wp2_with fail
    refine HND.out.mono ?_
    rintro e w1 ⟨rfl, hb⟩
    have HB := Aside0.mk hb
    have HW1 := Aside0.mk (HWS.out.below hb)
    clear hb HND HWS
    go_wp2
    go_ret
    have hba := below_alloc (Below.refl w1.heap.size w1) (.cells #[.slice A way.length c] 22)
    refine ⟨_, [(A, way.length, c)], rfl, ?_, WL.one (HW1.out.below hba), below_then HB.out HB.out.size hba⟩
    exact Kd.R_lower (R_one_S (A, way.length, c)) HB.out.size
  | succ d ih =>
    intro A c way w hd hw hrs hws
    have HWS := Aside0.mk hws
    have HIH := Aside0.mk ih
    have HND := Aside0.mk (node_c As cs shape A c way w hrs hcs hws.C hws.c hs hsl hw)
    have HWO := Aside0.mk hw
    have HRS := Aside0.mk hrs
    have hm3 := nodeF_lt shape way
    have HLF := Aside0.mk (show leavesF shape (d + 1) way = if (nodeF shape way).1 = 0 then [way] else kidsF shape d way (manyN (nodeF shape way)) by rw [leavesF]; rfl)
    have HST := Aside0.mk (kidsF_succ shape d way)
    clear hrs hws hw hs ih
    go_enter Tryd.func10, Tryd.ntmps10
    go_wp2_with fail
    refine HND.out.mono ?_
    rintro e w1 ⟨rfl, hb⟩
    have HB := Aside0.mk hb
    have HW1 := Aside0.mk (HWS.out.below hb)
    have HRS1 := Aside0.mk (Kd.C_below HRS.out hb)
    clear hb HND HWS HRS
    obtain ⟨m, off, hmo⟩ : ∃ (m : Nat) (off : Bool), nodeF shape way = (m, off) := ⟨_, _, rfl⟩
    rw [hmo] at hm3 HLF HST ⊢
    dsimp only at hm3 HLF HST ⊢
    clear hmo
    by_cases hm0 : m = 0
    · subst hm0
      go_wp2
      go_ret
      have hba := below_alloc (Below.refl w1.heap.size w1) (.cells #[.slice A way.length c] 22)
      refine ⟨_, rfl, [(A, way.length, c)], Kd.R_lower (R_one_S (A, way.length, c)) HB.out.size, ?_, below_then HB.out HB.out.size hba⟩
      rw [HLF.out, if_pos trivial]
      exact WL.one (HW1.out.below hba)
    · have dm : ((m : Int) == 0) = false := beq_eq_false_iff_ne.2 (fun h => hm0 (by omega))
      have HLF2 := Aside0.mk (HLF.out.trans (if_neg hm0))
      have HP := Aside0.mk (point_c (way.length : Int) 0 m (by omega) w1)
      clear HLF
      go_wp2_with fail
      refine HP.out.mono ?_
      rintro e w2 ⟨AV, cV, rfl, hcV, hCV, hb⟩
      have HB2 := Aside0.mk (below_then HB.out HB.out.size hb)
      have HW2 := Aside0.mk (HW1.out.below hb)
      have HRS2 := Aside0.mk (Kd.C_below HRS1.out hb)
      have HCV := Aside0.mk hCV
      clear hb hCV HP HB HW1 HRS1
      go_wp2_with fail
      have hba := below_alloc (Below.refl w2.heap.size w2) (.cells #[.int .i64 way.length, .int .i64 0, .slice AV m cV] 38)
      have BP := Aside0.mk (blk_new w2 (.cells #[.int .i64 way.length, .int .i64 0, .slice AV m cV] 38))
      have HB3 := Aside0.mk (below_then HB2.out HB2.out.size hba)
      have HW3 := Aside0.mk (HW2.out.below hba)
      have HRS3 := Aside0.mk (Kd.C_below HRS2.out hba)
      have HCV3 := Aside0.mk (Kd.C_below HCV.out hba)
      have HZ3 := Aside0.mk (show w2.heap.size < (w2.alloc (.cells #[.int .i64 way.length, .int .i64 0, .slice AV m cV] 38)).heap.size by rw [World.size_alloc]; omega)
      clear hba HB2 HW2 HRS2 HCV
      generalize w2.heap.size = bp at BP HZ3 ⊢
      generalize w2.alloc (.cells #[.int .i64 way.length, .int .i64 0, .slice AV m cV] 38) = w3 at BP HB3 HW3 HRS3 HCV3 HZ3 ⊢
      go_loopw [7, 9] (fun v7 v9 wr => ∃ (i : Nat) (ss : List Sl), i ≤ m ∧ v9 = .int .i64 i ∧ Aside0 (kS.R 22 wr w3.heap.size (fun _ => True) v7 ss) ∧ Aside0 (WL wr ss (kidsF shape d way i)) ∧ Aside0 (Below w3.heap.size w3 wr)) (fun _ v9 _ => m - (intOf v9).toNat)
      case atStart => exact ⟨0, [], by omega, rfl, ⟨Kd.R_nil _ _ _ _ _⟩, ⟨WL.nil _⟩, ⟨Below.refl _ _⟩⟩
      case round =>
        obtain ⟨i, ss, hi, rfl, HO, HWL, HL⟩ := hrel
        obtain ⟨w4, rfl⟩ : ∃ w4 : World, w4 = wr := ⟨_, rfl⟩
        by_cases him : i < m
        · have hi64 : IntKind.i64.wrap ((i : Int) + 1) = (i : Int) + 1 := i64w (by omega) (by omega)
          have hmi : (i : Int) < (m : Int) := by omega
          obtain ⟨aV, hAV, e0, e1, e2, e3, e4⟩ := at_T49 (Kd.C_below HCV3.out HL.out) (i : Int) (by omega) (by omega)
          rw [Int.toNat_natCast] at e0 e1 e2 e3 e4
          have hci : rd_T49 (chL way.length 0 m) (i : Int) = ⟨way.length, 0, (i : Int), 0, 0⟩ := by simp [rd_T49, chL, him]
          rw [hci] at e0 e1 e2 e3 e4
          dsimp only at e0 e1 e2 e3 e4
          subst hAV
          have BP4 := Aside0.mk ((HL.out.block _ HZ3.out).trans BP.out)
          have p2 : w4.cell? ⟨bp, 2, none⟩ = some (.slice (some aV) m cV) := (blk_cell BP4.out 2).trans rfl
          have HW4 := Aside0.mk (HW3.out.below HL.out)
          have HIN := Aside0.mk (show i + 1 ≤ m by omega)
          clear hci
          have HSA := Aside0.mk (show (⟨false, way.length, 0, ⟨way.length, 0, i, 0, 0⟩⟩ : Sp) = stepAt way.length m i by unfold stepAt; rw [if_neg (by omega)])
          go_upto_region 9 with fail
          clear hi him
          go_cut [10] (fun v10 wx => ∃ A6 c6, v10 = .slice A6 (way.length + 1) c6 ∧ WS wx (A6, way.length + 1, c6) (way ++ [stepAt way.length m i]) ∧ Below w4.heap.size w4 wx)
          case first =>
            have hw4 : way.length ≤ 3 := by omega
            go_region_held3 (fun W => W.cell? ⟨bp, 2, none⟩ = some (.slice (some aV) m cV) ∧ W.cell? (aV.add (i * 5)) = some (.int .i64 way.length) ∧ W.cell? ⟨(aV.add (i * 5)).block, (aV.add (i * 5)).off + 1, none⟩ = some (.int .i64 0) ∧ W.cell? ⟨(aV.add (i * 5)).block, (aV.add (i * 5)).off + 2, none⟩ = some (.int .i64 i) ∧ W.cell? ⟨(aV.add (i * 5)).block, (aV.add (i * 5)).off + 3, none⟩ = some (.int .i64 0) ∧ W.cell? ⟨(aV.add (i * 5)).block, (aV.add (i * 5)).off + 4, none⟩ = some (.int .i64 0))
              (first | exact ⟨y2, z0, z1, z2, z3, z4⟩ | exact ⟨k2, x0, x1, x2, x3, x4⟩ | exact ⟨cell_alloc1 k2 _, cell_alloc1 x0 _, cell_alloc1 x1 _, cell_alloc1 x2 _, cell_alloc1 x3 _, cell_alloc1 x4 _⟩ | exact ⟨p2, e0, e1, e2, e3, e4⟩ | exact ⟨cell_alloc1 p2 _, cell_alloc1 e0 _, cell_alloc1 e1 _, cell_alloc1 e2 _, cell_alloc1 e3 _, cell_alloc1 e4 _⟩ | exact ⟨cell_alloc2 p2 _ _, cell_alloc2 e0 _ _, cell_alloc2 e1 _ _, cell_alloc2 e2 _ _, cell_alloc2 e3 _ _, cell_alloc2 e4 _ _⟩ | go_keep)
              (first
                | (refine app_new_step (Rr := Kd.K k51 w4) k51 w4.heap.size _ (by rfl) (.tmp 31) (.tmp 32) 22 51 (.agg #[.bool false, .int .i64 0, .int .i64 0, .int .i64 0, .int .i64 0, .int .i64 0, .int .i64 0, .int .i64 0]) 64 (by rfl) (by rfl) Tryd.underlying22 infoSt (by rfl) (by decide) (by omega) way A way.length c (fun k => w4.heap.size ≤ k) (fun _ => False) (by rfl) (by rfl) (by first | exact l1_0 w4.drew _ | exact l2_0 w4.drew _ _ | exact l2_1 w4.drew _ _) (by omega) (by omega) (lkeep HW4.out.C (by first | exact lw1 _ _ | exact lw2 _ _ _)) (fun x cs h => by obtain rfl := k51_open h; exact k51_mkM _ _ _ x) (fun _ h => h.elim) (fun k hk => lsz (by first | exact lw1 _ _ | exact lw2 _ _ _) hk) (by omega) ?_; intro v5 w5 hr5 hat hbl hkp; obtain ⟨Ap, cp, rfl, hlp, _⟩ := Kd.R_reads hr5; have HB5 := Aside0.mk (lbel (n := w4.heap.size) (w := w4) (by first | exact lw1 _ _ | exact lw2 _ _ _) hbl (by omega)); have k2 := pw_cell_below HB5.out p2; have x0 := pw_cell_below HB5.out e0; have x1 := pw_cell_below HB5.out e1; have x2 := pw_cell_below HB5.out e2; have x3 := pw_cell_below HB5.out e3; have x4 := pw_cell_below HB5.out e4; have HQ5 := Aside0.mk (Kd.Q_of_R hr5); (first | have h6 : w5.heap[w4.heap.size]? = some _ := lblk (by first | exact l2_0 w4.drew _ _) hkp (by omega) | have h6 : w5.heap[w4.heap.size + 1]? = some _ := lblk (by first | exact l2_1 w4.drew _ _) hkp (by omega) | have h6 := True.intro); clear hr5 hat hbl hkp)
                | (refine app_one_step k51 (w0 := w4) w4.heap.size (w5.heap.size) (by rfl) (.tmp 33) (.tmp 42) 22 51 (.agg #[.bool false, .int .i64 0, .int .i64 0, .int .i64 0, .int .i64 0, .int .i64 0, .int .i64 0, .int .i64 0]) 64 (by rfl) Tryd.underlying22 infoSt (by rfl) (by decide) (by omega) (.slice Ap way.length cp) way (⟨false, (way.length : Int), 0, ⟨(way.length : Int), 0, (i : Int), 0, 0⟩⟩ : Sp) [Value.bool false, Value.int .i64 (way.length : Int), Value.int .i64 0, Value.int .i64 (way.length : Int), Value.int .i64 0, Value.int .i64 (i : Int), Value.int .i64 0, Value.int .i64 0] (fun k => w4.heap.size ≤ k) (fun _ => False) (by rfl) (by rfl) (blk_new w5 _) (k51_mkM _ _ _ _) (fun _ h => h.elim) (fun k hk => Nat.le_trans (Nat.le_trans HB5.out.size (lsz1 _ _)) hk) (Kd.Q_alloc HQ5.out _) (lal HB5.out HB5.out.size _) (Nat.le_trans HB5.out.size (lsz1 _ _)) (by omega) ?_; intro v7 w7 hq7 hbl7 hgr hat; obtain ⟨A7, c7, rfl, hl7, _⟩ := Kd.Q_reads hq7; have HE := Aside0.mk (long_end hq7 HSA.out hbl7); have y2 := pw_cell_below hbl7 p2; have z0 := pw_cell_below hbl7 e0; have z1 := pw_cell_below hbl7 e1; have z2 := pw_cell_below hbl7 e2; have z3 := pw_cell_below hbl7 e3; have z4 := pw_cell_below hbl7 e4; rw [List.length_append, List.length_singleton]; clear hq7 hbl7 hgr hat)
                | (refine app_one_step k51 (w0 := w4) w4.heap.size (w4.heap.size) (by rfl) (.tmp 33) (.tmp 42) 22 51 (.agg #[.bool false, .int .i64 0, .int .i64 0, .int .i64 0, .int .i64 0, .int .i64 0, .int .i64 0, .int .i64 0]) 64 (by rfl) Tryd.underlying22 infoSt (by rfl) (by decide) (by omega) (.slice Ap way.length cp) way (⟨false, (way.length : Int), 0, ⟨(way.length : Int), 0, (i : Int), 0, 0⟩⟩ : Sp) [Value.bool false, Value.int .i64 (way.length : Int), Value.int .i64 0, Value.int .i64 (way.length : Int), Value.int .i64 0, Value.int .i64 (i : Int), Value.int .i64 0, Value.int .i64 0] (fun k => w4.heap.size ≤ k) (fun _ => False) (by rfl) (by rfl) (h6) (k51_mkM _ _ _ _) (fun _ h => h.elim) (fun k hk => Nat.le_trans HB5.out.size hk) (HQ5.out) (HB5.out) (HB5.out.size) (by omega) ?_; intro v7 w7 hq7 hbl7 hgr hat; obtain ⟨A7, c7, rfl, hl7, _⟩ := Kd.Q_reads hq7; have HE := Aside0.mk (long_end hq7 HSA.out hbl7); have y2 := pw_cell_below hbl7 p2; have z0 := pw_cell_below hbl7 e0; have z1 := pw_cell_below hbl7 e1; have z2 := pw_cell_below hbl7 e2; have z3 := pw_cell_below hbl7 e3; have z4 := pw_cell_below hbl7 e4; rw [List.length_append, List.length_singleton]; clear hq7 hbl7 hgr hat)
                | (refine app_one_step k51 (w0 := w4) w4.heap.size (w4.heap.size + 1) (by rfl) (.tmp 33) (.tmp 42) 22 51 (.agg #[.bool false, .int .i64 0, .int .i64 0, .int .i64 0, .int .i64 0, .int .i64 0, .int .i64 0, .int .i64 0]) 64 (by rfl) Tryd.underlying22 infoSt (by rfl) (by decide) (by omega) (.slice Ap way.length cp) way (⟨false, (way.length : Int), 0, ⟨(way.length : Int), 0, (i : Int), 0, 0⟩⟩ : Sp) [Value.bool false, Value.int .i64 (way.length : Int), Value.int .i64 0, Value.int .i64 (way.length : Int), Value.int .i64 0, Value.int .i64 (i : Int), Value.int .i64 0, Value.int .i64 0] (fun k => w4.heap.size ≤ k) (fun _ => False) (by rfl) (by rfl) (h6) (k51_mkM _ _ _ _) (fun _ h => h.elim) (fun k hk => Nat.le_trans HB5.out.size hk) (HQ5.out) (HB5.out) (HB5.out.size) (by omega) ?_; intro v7 w7 hq7 hbl7 hgr hat; obtain ⟨A7, c7, rfl, hl7, _⟩ := Kd.Q_reads hq7; have HE := Aside0.mk (long_end hq7 HSA.out hbl7); have y2 := pw_cell_below hbl7 p2; have z0 := pw_cell_below hbl7 e0; have z1 := pw_cell_below hbl7 e1; have z2 := pw_cell_below hbl7 e2; have z3 := pw_cell_below hbl7 e3; have z4 := pw_cell_below hbl7 e4; rw [List.length_append, List.length_singleton]; clear hq7 hbl7 hgr hat))
            all_goals (
              go_wp2_with fail
              go_meet
              exact HE.out)
          case rest =>
            obtain ⟨A6, c6, rfl, HW6, HB6⟩ := hcut
            have HC := Aside0.mk (HIH.out A6 c6 (way ++ [stepAt way.length m i]) wc (by rw [List.length_append, List.length_singleton]; omega) (HWO.out.snoc (by omega) hm3) (Kd.C_below (Kd.C_below HRS3.out HL.out) HB6) (by rw [List.length_append, List.length_singleton]; exact HW6))
            rw [List.length_append, List.length_singleton] at HC
            have HO6 := Aside0.mk (Kd.R_below HO.out HB6)
            have HL6 := Aside0.mk (below_then HL.out HL.out.size HB6)
            have HWL6 := Aside0.mk (HWL.out.below HB6)
            have hl1 : ss.length ≤ 256 := by rw [HWL.out.1]; exact kids_small (by omega) (by omega)
            clear HW6 HB6 HO HL HWL e0 e1 e2 e3 e4 p2 BP4 HW4
            go_wp2_with fail
            refine HC.out.mono ?_
            rintro e w6 ⟨v6, ss2, rfl, hr, hwl, hb⟩
            obtain ⟨A7, c7, rfl, hc7, hC7⟩ := Kd.R_reads hr
            have hl2 : ss2.length ≤ 64 := by rw [hwl.1]; exact leaves_small (by omega)
            have HO7 := Aside0.mk (Kd.R_below HO6.out hb)
            have HL7 := Aside0.mk (below_then HL6.out HL6.out.size hb)
            have HWL7 := Aside0.mk (HWL6.out.below hb)
            have HW2 := Aside0.mk hwl
            have HC7 := Aside0.mk hC7
            have hz := HL7.out.size
            have hl3 : (ss.length + ss2.length) * 24 ≤ 140737488355328 := by omega
            clear hr hwl hb hC7 HC HO6 HL6 HWL6
            go_wp2_with (at_builtin; refine Kd.R_append_rows kS (w0 := w3) w3.heap.size rfl (.tmp 44) (.tmp 47) 27 22 (.slice none 0 0) 24 rfl Tryd.underlying27 infoR rfl (by decide) (by omega) u7 ss ss2 A7 ss2.length c7 (fun _ => True) (fun _ => False) rfl rfl HO7.out HC7.out (fun _ _ h => h) (fun _ h => h.elim) (fun _ _ => trivial) HL7.out hz hl3 ?_; intro v1 w7 ho hbl hgr hat; have HE := Aside0.mk (kids_end HO7.out HWL7.out HW2.out hgr); have HO8 := Aside0.mk ho; have HL8 := Aside0.mk hbl; clear ho hbl hgr hat)
            rw [← HST.out] at HE
            exact ⟨⟨i + 1, ss ++ ss2, HIN.out, by go_num, HO8, HE, HL8⟩, by simp [intOf]; omega⟩
        · obtain rfl : i = m := by omega
          cases off with
          | false =>
            have hmn : manyN (i, false) = i := rfl
            obtain ⟨Ao, co, hvo, _⟩ := Kd.R_reads HO.out
            go_wp2
            go_ret
            refine ⟨_, ss, rfl, Kd.R_lower HO.out HB3.out.size, ?_, below_then HB3.out HB3.out.size HL.out⟩
            rw [HLF2.out, hmn]
            exact HWL.out
          | true =>
            have HW4 := Aside0.mk (HW3.out.below HL.out)
            have hw4 : way.length ≤ 3 := by omega
            have HSA := Aside0.mk (show (⟨true, (way.length : Int), 0, ⟨0, 0, 0, 0, 0⟩⟩ : Sp) = stepAt way.length i i by unfold stepAt; rw [if_pos rfl])
            have HBA := Aside0.mk (below_alloc (Below.refl w4.heap.size w4) (.cells #[] 51))
            have HC1 := Aside0.mk (Kd.C_below HW4.out.C HBA.out)
            have HN0 := Aside0.mk (R_empty_at (ok := fun _ => True) k51 (blk_new w4 (.cells #[] 51)) (Nat.le_refl _) trivial)
            have hza : w4.heap.size ≤ (w4.alloc (.cells #[] 51)).heap.size := HBA.out.size
            have hk64 : (([] : List Sp).length + way.length) * 64 ≤ 140737488355328 := by simp; omega
            have hk65 : (way.length + 1) * 64 ≤ 140737488355328 := by omega
            clear hi him
            go_upto_region 12 with fail
            go_wp2_with (at_builtin; first
              | (refine Kd.R_append_rows k51 (w0 := w4) w4.heap.size rfl (.tmp 50) (.tmp 51) 22 51 (.agg #[.bool false, .int .i64 0, .int .i64 0, .int .i64 0, .int .i64 0, .int .i64 0, .int .i64 0, .int .i64 0]) 64 rfl Tryd.underlying22 infoSt rfl (by decide) (by decide) (.slice (some ⟨w4.heap.size, 0, none⟩) 0 0) [] way A way.length c (fun _ => True) (fun _ => False) rfl rfl HN0.out HC1.out (fun x cs h => by obtain rfl := k51_open h; exact k51_mkM _ _ _ x) (fun _ h => h.elim) (fun _ _ => trivial) HBA.out hza hk64 ?_; intro v5 w5 ho hbl hgr hat; rw [List.nil_append] at ho; obtain ⟨A5, c5, rfl, hc5, _⟩ := Kd.R_reads ho; have HM5 := Aside0.mk ho; have HB5 := Aside0.mk hbl; have hz5 := HB5.out.size; clear ho hbl hgr hat)
              | (refine Kd.R_append k51 (w0 := w4) w4.heap.size rfl (.tmp 52) (.tmp 56) 22 51 (.agg #[.bool false, .int .i64 0, .int .i64 0, .int .i64 0, .int .i64 0, .int .i64 0, .int .i64 0, .int .i64 0]) 64 rfl Tryd.underlying22 infoSt rfl (by decide) (by decide) (.slice A5 way.length c5) way (⟨true, (way.length : Int), 0, ⟨0, 0, 0, 0, 0⟩⟩ : Sp) [Value.bool true, Value.int .i64 (way.length : Int), Value.int .i64 0, Value.int .i64 0, Value.int .i64 0, Value.int .i64 0, Value.int .i64 0, Value.int .i64 0] (fun _ => True) (fun _ => False) rfl rfl (k51_mkM _ _ _ _) (fun _ h => h.elim) (fun _ _ => trivial) HM5.out HB5.out hz5 hk65 ?_; intro v6 wc ho hbl hgr hat; obtain ⟨A6, c6, hv6, _⟩ := Kd.R_reads ho; subst hv6; obtain ⟨hn6, HW6, HB6⟩ := long_endR ho HSA.out hbl; clear ho hbl hgr hat; rw [List.length_append, List.length_singleton]))
            have HC := Aside0.mk (HIH.out A6 c6 (way ++ [stepAt way.length i i]) wc (by rw [List.length_append, List.length_singleton]; omega) (HWO.out.snoc hm3 hm3) (Kd.C_below (Kd.C_below HRS3.out HL.out) HB6) (by rw [List.length_append, List.length_singleton]; exact HW6))
            rw [List.length_append, List.length_singleton] at HC
            have HO6 := Aside0.mk (Kd.R_below HO.out HB6)
            have HL6 := Aside0.mk (below_then HL.out HL.out.size HB6)
            have HWL6 := Aside0.mk (HWL.out.below HB6)
            have hl1 : ss.length ≤ 256 := by rw [HWL.out.1]; exact kids_small (by omega) (by omega)
            clear HW6 HB6 HO HL HWL HW4 HBA HC1 HN0 hza hk64 hk65 HM5 HB5 hz5 hc5
            refine HC.out.mono ?_
            rintro e w6 ⟨v6, ss2, rfl, hr, hwl, hb⟩
            obtain ⟨A7, c7, rfl, hc7, hC7⟩ := Kd.R_reads hr
            have hl2 : ss2.length ≤ 64 := by rw [hwl.1]; exact leaves_small (by omega)
            have HO7 := Aside0.mk (Kd.R_below HO6.out hb)
            have HL7 := Aside0.mk (below_then HL6.out HL6.out.size hb)
            have HWL7 := Aside0.mk (HWL6.out.below hb)
            have HW2 := Aside0.mk hwl
            have HC7 := Aside0.mk hC7
            have hz := HL7.out.size
            have hl3 : (ss.length + ss2.length) * 24 ≤ 140737488355328 := by omega
            clear hr hwl hb hC7 HC HO6 HL6 HWL6
            go_wp2_with (at_builtin; refine Kd.R_append_rows kS (w0 := w3) w3.heap.size rfl (.tmp 58) (.tmp 61) 27 22 (.slice none 0 0) 24 rfl Tryd.underlying27 infoR rfl (by decide) (by omega) u7 ss ss2 A7 ss2.length c7 (fun _ => True) (fun _ => False) rfl rfl HO7.out HC7.out (fun _ _ h => h) (fun _ h => h.elim) (fun _ _ => trivial) HL7.out hz hl3 ?_; intro v1 w7 ho hbl hgr hat; have HE := Aside0.mk (kids_end HO7.out HWL7.out HW2.out hgr); have HO8 := Aside0.mk ho; have HL8 := Aside0.mk hbl; clear ho hbl hgr hat)
            rw [← HST.out] at HE
            have hmn : manyN (i, true) = i + 1 := rfl
            go_wp2
            go_ret
            refine ⟨_, ss ++ ss2, rfl, Kd.R_lower HO8.out HB3.out.size, ?_, below_then HB3.out HB3.out.size HL8.out⟩
            rw [HLF2.out, hmn]
            exact HE.out
end Go.Proofs.YtfmlpcdbllpcaaaDoor.HX

namespace Go.Proofs.YtfmlpcdbllpcaaaDoor.HX
open Go.Proofs.YtfmlpcdbllpcaaaDoor.HD (Ch mayP)
open Go.Proofs.YtfmlpcdbllpcaaaDoor.HQ Go.Proofs.YtfmlpcdbllpcaaaDoor.HU Go.RowKit Go.Proofs.YtfmlpcdbllpcaaaDoor.HK Go.Proofs.YtfmlpcdbllpcaaaDoor.HP Go.Proofs.YtfmlpcdbllpcaaaDoorW.PrintWords Go.Proofs.YtfmlpcdbllpcaaaDoorW.PrintLast Go.Proofs.YtfmlpcdbllpcaaaDoorW.PrintMore
set_option linter.unusedVariables false
set_option linter.unusedSimpArgs false
theorem kS_at {W : World} {A : Option Addr} {n : Nat} {ss : List Sl} (h : kS.C W A n ss) (i : Nat) (hi : i < n) {s : Sl} (hx : ss[i]? = some s) :
    ∃ ad, A = some ad ∧ W.cell? (ad.add i) = some (.slice s.1 s.2.1 s.2.2) := by
  obtain ⟨ad, cs, e, _, hK, hc⟩ := Kd.C_get h (none, 0, 0) (i : Int) (by omega) (by omega)
  rw [Int.toNat_natCast, List.getD_eq_getElem?_getD, hx, Option.getD_some] at hK
  obtain rfl : cs = [encSl s] := hK
  have := hc 0 _ rfl
  rw [Int.toNat_natCast] at this
  refine ⟨ad, e, ?_⟩
  have h1 : i * kS.sz + 0 = i := by show i * 1 + 0 = i; omega
  rw [h1] at this
  exact this
theorem TL_fit {shape : List Int} : ∀ {ls : List Lv} {way : List Sp}, TL shape way ls → ∀ x ∈ ls, Fit x
  | [], _, _, _, h => by cases h
  | y :: t, way, h, x, hx => by
    rcases List.mem_cons.1 hx with rfl | hx
    · exact h.1.fit
    · exact TL_fit h.2 x hx
theorem TL_ok {shape : List Int} : ∀ {ls : List Lv} {way : List Sp}, TL shape way ls → WayOk (ls.map stepOf)
  | [], _, _ => fun s hs => by cases hs
  | y :: t, way, h => fun s hs => by
    rcases List.mem_cons.1 hs with rfl | hs
    · have hm := h.1.many
      have hf := h.1.fit
      have h4 := many_le shape way
      have h3 := nodeF_lt shape way
      rw [h.1.step]
      unfold stepAt
      split
      · exact ⟨Int.le_refl _, by show (0 : Int) ≤ 3; decide⟩
      · obtain ⟨f0, f1, _⟩ := hf
        exact ⟨by show (0 : Int) ≤ (y.f2.toNat : Int); omega, by show (y.f2.toNat : Int) ≤ 3; omega⟩
    · exact TL_ok h.2 s hs
theorem TL_len {shape : List Int} : ∀ {ls : List Lv} {way : List Sp}, way.length ≤ 4 → TL shape way ls → way.length + ls.length ≤ 4
  | [], way, hw, _ => by simpa using hw
  | y :: t, way, hw, h => by
    have h1 := h.1.len
    have := TL_len (way := way ++ [stepOf y]) (by simp; omega) h.2
    simp at this ⊢
    omega
def TInv (shape : List Int) (want : List (List Sp)) (i : Nat) (ls : List Lv) : Prop :=
  TL shape [] ls ∧ ((i < want.length ∧ want.drop i = L4 shape (ls.map stepOf) ++ aft shape [] ls) ∨ (i = want.length ∧ ls = []))
theorem TInv.zero (shape : List Int) : TInv shape (leavesF shape 4 []) 0 [] :=
  ⟨trivial, .inl ⟨List.length_pos_iff.2 (leaves_pos shape 4 []), by simp [L4, aft]⟩⟩
/-- at a leaf: the way that is wanted, and going on -/
theorem leaf_next {shape : List Int} {want : List (List Sp)} {i : Nat} {ls : List Lv} (ht : TL shape [] ls) (hi : i < want.length) (hd : want.drop i = L4 shape (ls.map stepOf) ++ aft shape [] ls) (hn : (nodeF shape (ls.map stepOf)).1 = 0) :
    want[i]? = some (ls.map stepOf) ∧ ∃ b : Bool, decide (0 < (nextF ls).length) = b ∧ decide ((i : Int) < (want.length : Int) - 1) = b ∧ TInv shape want (i + 1) (nextF ls) := by
  rw [L4_leaf hn, List.singleton_append] at hd
  have h1 : want[i]? = some (ls.map stepOf) := by
    have := congrArg (fun l => l[0]?) hd
    simpa using this
  have h2 : want.drop (i + 1) = aft shape [] ls := by
    rw [← List.drop_drop, hd]
    rfl
  refine ⟨h1, ?_⟩
  have hlen := congrArg List.length h2
  rw [List.length_drop] at hlen
  rcases next_aft shape ls.length ls rfl ht with ⟨ha, hx⟩ | ⟨hp, ht2, ha⟩
  · rw [ha, List.length_nil] at hlen
    refine ⟨false, by rw [hx]; rfl, decide_eq_false (by omega), ?_⟩
    rw [hx]
    exact ⟨trivial, .inr ⟨by omega, rfl⟩⟩
  · have h4 : 0 < (aft shape [] ls).length := by
      rw [ha, List.length_append]
      have := List.length_pos_iff.2 (leaves_pos shape (4 - ((nextF ls).map stepOf).length) ((nextF ls).map stepOf))
      unfold L4
      omega
    exact ⟨true, decide_eq_true hp, decide_eq_true (by omega), ht2, .inl ⟨by omega, by rw [h2, ha]⟩⟩
theorem may_lv {r m : Nat} (hr : r ≤ 3) (h0 : 0 < m) (hm : m ≤ 3) : mayP (r : Int) 0 (chL (r : Int) 0 m) = true := by
  rcases (by omega : r = 0 ∨ r = 1 ∨ r = 2 ∨ r = 3) with rfl | rfl | rfl | rfl <;> rcases (by omega : m = 1 ∨ m = 2 ∨ m = 3) with rfl | rfl | rfl <;> decide
set_option maxRecDepth 100000 in
set_option maxHeartbeats 16000000 in
theorem tree_c (As : Option Addr) (cs : Nat) (shape : List Int) (w : World) (hr : Kd.C (Kd.int .u8) w As shape.length shape) (hcs : shape.length ≤ cs) (hs : ShOk shape) (ht : Tab w) :
    Calls Tryd.prog 4 #[.slice As shape.length cs] w fun e w' => e = .returned (.bool true) ∧ Below w.heap.size w w' := by
  have HR0 := Aside0.mk hr
  have HSH := Aside0.mk hs
  have HT := Aside0.mk ht
  clear hr ht hs
  go_enter Tryd.func4, Tryd.ntmps4
  go_wp2_with fail
  refine (awake_c w HT.out).mono ?_
  rintro e w0 ⟨rfl, hb⟩
  have HB0 := Aside0.mk hb
  have HR1 := Aside0.mk (Kd.C_below HR0.out hb)
  clear hb HR0 HT
  by_cases h60 : 60 < shape.length
  · have d60 : decide ((shape.length : Int) > 60) = true := decide_eq_true (by omega)
    have d61 : decide ((60 : Int) < (shape.length : Int)) = true := decide_eq_true (by omega)
    clear h60
    go_wp2
    go_ret
    exact ⟨rfl, HB0.out⟩
  · have d60 : decide ((shape.length : Int) > 60) = false := decide_eq_false (by omega)
    have d61 : decide ((60 : Int) < (shape.length : Int)) = false := decide_eq_false (by omega)
    have h60' : shape.length ≤ 60 := by omega
    have HLV := Aside0.mk (leaves_c As cs shape hcs HSH.out h60' 4 none 0 [] w0 rfl (fun s hs => by cases hs) HR1.out ⟨rfl, Nat.le_refl _, Kd.C_nil _ _, fun _ h => by cases h⟩)
    clear h60
    go_wp2_with fail
    refine HLV.out.mono ?_
    rintro e w1 ⟨v1, ss, rfl, hr1, hwl, hb⟩
    obtain ⟨Aw, cw, rfl, hcw, hCw⟩ := Kd.R_reads hr1
    have hn256 : ss.length ≤ 256 := by rw [hwl.1]; exact leaves_len shape 4 []
    have HB1 := Aside0.mk (below_then HB0.out HB0.out.size hb)
    have HRS := Aside0.mk (Kd.C_below HR1.out hb)
    have HWL := Aside0.mk hwl
    have HCW := Aside0.mk hCw
    have HI0 := Aside0.mk (TInv.zero shape)
    clear hr1 hwl hb hCw HLV HR1 HB0
    generalize leavesF shape 4 [] = want at HWL HI0
    go_wp2_with fail
    refine (HQ.new_calls w1 (fun _ => True)).mono ?_
    rintro e w2 ⟨rfl, hs, hb⟩
    have HS2 := Aside0.mk hs
    have HB2 := Aside0.mk hb
    clear hs hb
    obtain ⟨g, hg⟩ : ∃ g : Nat, g = w1.heap.size := ⟨_, rfl⟩
    rw [← hg] at HS2 HB2 ⊢
    have HG := Aside0.mk hg
    clear hg
    obtain ⟨n, hn⟩ : ∃ n : Nat, n = ss.length := ⟨_, rfl⟩
    have HN := Aside0.mk (hn.trans HWL.out.1)
    have HN2 := Aside0.mk hn
    rw [← hn] at HCW hcw hn256 ⊢
    clear hn
    go_wp2_with fail
    go_loopw [5] (fun v5 wr => ∃ (i : Nat) (v' : Value) (ls : List Lv), i ≤ n ∧ v5 = .int .i64 i ∧ Aside0 (Sq wr g (fun _ => True) g v' ls) ∧ Aside0 (TInv shape want i ls) ∧ Aside0 (Below g w1 wr)) (fun v5 _ => n - (intOf v5).toNat)
    case atStart => exact ⟨0, _, [], by omega, rfl, HS2, HI0, HB2⟩
    case round =>
      clear HS2 HB2 HI0
      obtain ⟨i, v3, ls, hi, rfl, HS, HI, HL⟩ := hrel
      obtain ⟨w3, rfl⟩ : ∃ w3 : World, w3 = wr := ⟨_, rfl⟩
      by_cases hin : i < n
      · have hi64 : IntKind.i64.wrap ((i : Int) + 1) = (i : Int) + 1 := i64w (by omega) (by omega)
        have hii : (i : Int) < (n : Int) := by omega
        obtain ⟨ht, hI⟩ := HI.out
        have HT := Aside0.mk ht
        have HD : Aside0 (want.drop i = L4 shape (ls.map stepOf) ++ aft shape [] ls) := ⟨by
          rcases hI with ⟨_, h⟩ | ⟨h, _⟩
          · exact h
          · have := HN.out; omega⟩
        clear ht hI HI
        go_wp2_with fail
        go_loopw [6] (fun v6 wr2 => ∃ (j : Nat) (v' : Value) (ls2 : List Lv), j ≤ 5 ∧ v6 = .int .i64 j ∧ Aside0 (Sq wr2 g (fun _ => True) g v' ls2) ∧ Aside0 (TL shape [] ls2) ∧ Aside0 (want.drop i = L4 shape (ls2.map stepOf) ++ aft shape [] ls2) ∧ Aside0 ((nodeF shape (ls2.map stepOf)).1 = 0 ∨ j ≤ ls2.length) ∧ Aside0 (Below g w1 wr2)) (fun v6 _ => 5 - (intOf v6).toNat)
        case atStart => exact ⟨0, _, ls, by omega, rfl, HS, HT, HD, ⟨.inr (Nat.zero_le _)⟩, HL⟩
        case round =>
          clear HS HT HD HL
          obtain ⟨j, v4, ls2, hj, rfl, HS, HT, HD, HJ, HL⟩ := hrel
          obtain ⟨w4, rfl⟩ : ∃ w4 : World, w4 = wr := ⟨_, rfl⟩
          have HF := Aside0.mk (TL_fit HT.out)
          have HW := Aside0.mk (TL_ok HT.out)
          have HLE := Aside0.mk (show ls2.length ≤ 4 by have := TL_len (Nat.zero_le _) HT.out; simpa using this)
          have HGW := Aside0.mk (show g ≤ w4.heap.size by have := HL.out.size; have := HG.out; omega)
          by_cases hj5 : j < 5
          · have hj64 : IntKind.i64.wrap ((j : Int) + 1) = (j : Int) + 1 := i64w (by omega) (by omega)
            have hjj : (j : Int) < 5 := by omega
            go_wp2_with fail
            refine (steps_ok g (fun _ => True) g v4 ls2 w4 HS.out HF.out (by have := HLE.out; omega)).mono ?_
            rintro e w5 ⟨v5, rfl, hr, hb⟩
            obtain ⟨A5, c5, rfl, hc5, hC5⟩ := Kd.R_reads hr
            have HS5 := Aside0.mk (HS.out.below hb)
            have HL5 := Aside0.mk (HL.out.trans (hb.mono HGW.out))
            have HGW5 := Aside0.mk (Nat.le_trans HGW.out hb.size)
            have hgw : w1.heap.size = g := HG.out.symm
            have HND := Aside0.mk (node_c As cs shape A5 c5 (ls2.map stepOf) w5 (Kd.C_below HRS.out (by rw [hgw]; exact HL5.out)) hcs hC5 hc5 HSH.out h60' HW.out)
            have hm3 := nodeF_lt shape (ls2.map stepOf)
            have HLM := Aside0.mk (show (ls2.map stepOf).length = ls2.length from List.length_map _)
            have HDN := Aside0.mk (fun h => down_aft (shape := shape) (ls := ls2) HT.out h)
            have HLV : Aside0 (lvN shape (ls2.map stepOf) = ⟨⟨(ls2.length : Int), 0, chL ls2.length 0 (nodeF shape (ls2.map stepOf)).1⟩, (nodeF shape (ls2.map stepOf)).2, 0⟩) := ⟨by unfold lvN; rw [HLM.out]⟩
            clear hr hb hC5 HS HL HGW
            have HDD := HD
            obtain ⟨way, hwy⟩ : ∃ way, way = ls2.map stepOf := ⟨_, rfl⟩
            rw [← hwy] at HND hm3 HLM HDN HLV HD HJ HW hc5 ⊢
            have HWY := Aside0.mk hwy
            clear hwy
            go_wp2_with fail
            refine HND.out.mono ?_
            rintro e w6 ⟨rfl, hb⟩
            have HS6 := Aside0.mk (HS5.out.below hb)
            have HL6 := Aside0.mk (HL5.out.trans (hb.mono HGW5.out))
            have HGW6 := Aside0.mk (Nat.le_trans HGW5.out hb.size)
            clear hb HND HS5 HL5 HGW5
            obtain ⟨m, off, hmo⟩ : ∃ (m : Nat) (off : Bool), nodeF shape way = (m, off) := ⟨_, _, rfl⟩
            have HMO := Aside0.mk hmo
            rw [hmo] at hm3 HDN HLV HJ ⊢
            dsimp only at hm3 HDN HLV HJ ⊢
            clear hmo
            by_cases hm0 : m = 0
            · subst hm0
              go_wp2
              refine ⟨⟨j + 1, v4, ls2, by omega, by go_num, HS6, HT, HDD, ⟨.inl (by rw [← HWY.out, HMO.out])⟩, HL6⟩, ?_⟩
              simp [intOf]
              omega
            · have d1 : decide ((m : Int) > 0) = true := decide_eq_true (by omega)
              have d2 : decide ((0 : Int) < (m : Int)) = true := decide_eq_true (by omega)
              have hlt : ls2.length ≤ 3 := by
                rcases Nat.lt_or_ge way.length 4 with h | h
                · have := HLM.out; omega
                · have h1 := nodeF_deep (shape := shape) h
                  have h2 := HMO.out
                  rw [h1] at h2
                  injection h2 with h2
                  exact absurd h2.symm hm0
              have HMY := Aside0.mk (may_lv hlt (by omega) hm3)
              have hm1 : m ≤ 100 := by omega
              go_wp2_with fail
              refine (HQ.depth_calls g (fun _ => True) g v4 ls2 w6 HS6.out).mono ?_
              rintro e w7 ⟨rfl, rfl⟩
              go_wp2_with fail
              refine (point_c (ls2.length : Int) 0 m hm1 w6).mono ?_
              rintro e w7 ⟨A7, c7, rfl, hc7, hC7, hb⟩
              have HS7 := Aside0.mk (HS6.out.below hb)
              have HL7 := Aside0.mk (HL6.out.trans (hb.mono HGW6.out))
              have HGW7 := Aside0.mk (Nat.le_trans HGW6.out hb.size)
              have HPU := Aside0.mk (push_ok g (fun _ => True) g v4 ls2 (ls2.length : Int) 0 A7 c7 (chL ls2.length 0 m) off w7 HS7.out HGW7.out (fun _ _ => trivial) (by rw [chL_len]; exact hC7) (by rw [chL_len]; exact hc7) (by rw [chL_len]; omega) HMY.out (by omega))
              rw [chL_len] at HPU
              clear hb hC7 HS6 HL6 HGW6 HMY
              go_wp2_with fail
              refine HPU.out.mono ?_
              rintro e w8 ⟨rfl, ⟨v8, hs8, _⟩, _, hb⟩
              have HS8 := Aside0.mk hs8
              have HL8 := Aside0.mk (HL7.out.trans hb)
              clear hs8 hb HPU HS7 HL7 HGW7
              obtain ⟨ht8, hd8⟩ := HDN.out (by omega)
              rw [HLV.out] at ht8 hd8
              have HT8 := Aside0.mk ht8
              have HD8 := Aside0.mk (HD.out.trans hd8)
              clear ht8 hd8
              have hcode : ((0 : Int) != 0) = false := rfl
              have HJ8 : Aside0 ((nodeF shape ((ls2 ++ [(⟨⟨(ls2.length : Int), 0, chL ls2.length 0 m⟩, off, 0⟩ : Lv)]).map stepOf)).1 = 0 ∨ j + 1 ≤ (ls2 ++ [(⟨⟨(ls2.length : Int), 0, chL ls2.length 0 m⟩, off, 0⟩ : Lv)]).length) := ⟨.inr (by
                rw [List.length_append, List.length_singleton]
                rcases HJ.out with h | h
                · exact absurd h hm0
                · omega)⟩
              go_wp2
              refine ⟨⟨j + 1, v8, ls2 ++ [⟨⟨(ls2.length : Int), 0, chL ls2.length 0 m⟩, off, 0⟩], by omega, by go_num, HS8, HT8, HD8, HJ8, HL8⟩, ?_⟩
              simp [intOf]
              omega
          · obtain rfl : j = 5 := by omega
            have hn0 : (nodeF shape (ls2.map stepOf)).1 = 0 := by
              rcases HJ.out with h | h
              · exact h
              · have := HLE.out; omega
            obtain ⟨hwi, b, hb1, hb2, hI⟩ := leaf_next HT.out (by have := HN.out; omega) HD.out hn0
            have HI := Aside0.mk hI
            obtain ⟨s, hs⟩ : ∃ s, ss[i]? = some s := ⟨ss[i]'(by have := HN2.out; omega), by simp⟩
            have HWS := Aside0.mk (HWL.out.2 i s _ hs hwi)
            have hgw : w1.heap.size = g := HG.out.symm
            have HLW := Aside0.mk (show Below w1.heap.size w1 w4 by rw [hgw]; exact HL.out)
            obtain ⟨aW, hAW, x1⟩ := kS_at HCW.out i hin hs
            subst hAW
            rw [HWS.out.n] at x1
            have hsc := HWS.out.c
            rw [HWS.out.n] at hsc
            have HSC : Aside0 (∀ W, Below w4.heap.size w4 W → Kd.C k51 W s.1 (ls2.map stepOf).length (ls2.map stepOf)) := ⟨fun W hW => by
              have := (HWS.out.below (below_then HLW.out HLW.out.size hW)).C
              rw [HWS.out.n] at this
              exact this⟩
            generalize s.1 = A9 at x1 HSC
            generalize s.2.2 = c9 at x1 hsc
            have HX1 := Aside0.mk x1
            have x0 := pw_cell_below HLW.out x1
            clear x1
            have hdn : IntKind.i64.wrap ((n : Int) - 1) = (n : Int) - 1 := i64w (by omega) (by omega)
            rw [← HN.out] at hb2
            have HF := Aside0.mk (TL_fit HT.out)
            have HSTP : Aside0 (∀ W, Below w4.heap.size w4 W → Calls Tryd.prog 13 #[.pointer (some ⟨g, 0, none⟩)] W fun e w' => ∃ v0_, e = .returned v0_ ∧ Kd.R k51 51 w' W.heap.size (fun _ => True) v0_ (ls2.map stepOf) ∧ Below W.heap.size W w') := ⟨fun W hW => steps_ok g (fun _ => True) g v4 ls2 W (HS.out.below hW) HF.out (by have := HLE.out; omega)⟩
            have HNX : Aside0 (∀ W, Below w4.heap.size w4 W → Calls Tryd.prog 18 #[.pointer (some ⟨g, 0, none⟩)] W fun e w' => e = .returned (.bool b) ∧ (∃ v', Sq w' g (fun _ => True) g v' (nextF ls2)) ∧ Below g W w') := ⟨fun W hW => (next_ok g (fun _ => True) g v4 ls2 W (HS.out.below hW) HF.out).mono (by
              rintro e w' ⟨rfl, ⟨v', h1, _⟩, _, h2⟩
              exact ⟨by rw [hb1], ⟨v', h1⟩, h2⟩)⟩
            obtain ⟨way, hwy⟩ : ∃ way, way = ls2.map stepOf := ⟨_, rfl⟩
            rw [← hwy] at HSTP HSC hsc x0 HX1
            have HGW2 := Aside0.mk hgw
            clear hs hwi hI HD HT HJ hn0 hj hj5 HLE hgw HWS HW hwy hb1 HS HF
            go_upto_region 16 with fail
            go_region_held3 (fun W => W.cell? (aW.add i) = some (.slice A9 way.length c9))
              (first | exact y3 | exact y2 | exact y1 | exact x0)
              (first
                | (go_at_call 13; with_reducible refine (HSTP.out w4.drew (below_drew (Below.refl _ _))).mono ?_; rintro e w5 ⟨v5, rfl, hR, hb⟩; obtain ⟨A5, c5, rfl, hc5, hC5⟩ := Kd.R_reads hR; have HC5 := Aside0.mk hC5; have HB5 := Aside0.mk (below_of_drew hb); have y1 := pw_cell_below HB5.out x0; clear hR hb hC5)
                | (go_at_call 17; with_reducible refine (same_c A5 c5 A9 c9 way w5 HC5.out hc5 (HSC.out w5 HB5.out) hsc).mono ?_; rintro e w6 ⟨rfl, hb⟩; have HB6 := Aside0.mk (below_then HB5.out HB5.out.size hb); have y2 := pw_cell_below HB6.out x0; clear hb)
                | (go_at_call 18; with_reducible refine (HNX.out w6 HB6.out).mono ?_; rintro e w7 ⟨rfl, ⟨v7, hs7⟩, hb⟩; have HS7 := Aside0.mk hs7; have HL7 := Aside0.mk ((HL.out.trans (HB6.out.mono (by have := HL.out.size; have := HG.out; omega))).trans hb); have y3 := pw_cell_below (show Below w1.heap.size w1 w7 by rw [HGW2.out]; exact HL7.out) HX1.out; clear hb hs7))
            all_goals (
              have hbb : (b != b) = false := by cases b <;> rfl
              clear y1 y2 y3 x0
              go_wp2
              refine ⟨⟨i + 1, v7, nextF ls2, by omega, by go_num, HS7, HI, HL7⟩, ?_⟩
              simp [intOf]
              omega)
      · obtain rfl : i = n := by omega
        obtain ⟨_, hI⟩ := HI.out
        have hls : ls = [] := by
          rcases hI with ⟨h, _⟩ | ⟨_, h⟩
          · have := HN.out; omega
          · exact h
        subst hls
        clear hI
        go_wp2_with fail
        refine (HQ.depth_calls g (fun _ => True) g v3 [] w3 HS.out).mono ?_
        rintro e w4 ⟨rfl, rfl⟩
        go_wp2
        go_ret
        exact ⟨rfl, HB1.out.trans (HL.out.mono (by have := HB1.out.size; have := HG.out; omega))⟩
end Go.Proofs.YtfmlpcdbllpcaaaDoor.HX

namespace Go.Proofs.YtfmlpcdbllpcaaaDoor.pathTree
open Go.ChangeShapes Go.WideShapes Go.ChangeAt Go.RowKit Go.Joins
set_option linter.unusedVariables false
theorem own : ownKnob Tryd.prog.godebug = none := by kernel_rfl
theorem laidOut : laidOutB Tryd.prog = true := by kernel_rfl
set_option maxRecDepth 100000 in
theorem lifted (os : Os) (started : os.Started) (H : Type) (enc : TypeId × Value → H) :
    ReturnsInHanded {} Tryd.checked os 4 .any (fun w args => (Rows.pathTreeSpec.pre enc Tryd.prog Tryd.f4 [] false w args ∧ laidMetH Tryd.prog HR.laid3 w) ∧ sizedMet enc Tryd.prog Tryd.f4 (OpenSpec.ofChange Rows.pathTreeSpec) false w args)
      (Rows.pathTreeSpec.post enc Tryd.prog Tryd.f4 false true false false) := by
  refine returnsInHanded_of_change_and (C := Tryd.checked) (X := fun w _ => laidMetH Tryd.prog HR.laid3 w) (fun _ _ _ hh h => h.of_heap hh) own started (by kernel_rfl) Tryd.func4
    (ChangeSpec.witness_shaped (enc := enc) (C := Tryd.checked) (os := os) (X := fun w _ => laidMetH Tryd.prog HR.laid3 w) false (World.doorLaid Tryd.prog 24 os) #[.slice none 0 0] 8 rfl (World.shaped_of_RefB (by kernel_rfl) (by kernel_rfl)) (by kernel_rfl) (by kernel_rfl) (by kernel_rfl) (HR.door_met os _)) ?_
  intro W base args ds gs before hval0 hW _ _ hL _
  have hval : ∀ (j : Nat) t v, Tryd.f4.params[j]? = some t → args[j]? = some v → Value.okWide Tryd.prog W .any base t v := hval0
  have hW' := hW
  obtain ⟨p, q, hA0, hV, rfl, hfz, hnd⟩ := hW
  have hA : DataW.TrodAll enc Tryd.prog W 0 (fun _ => true) true Tryd.f4.params.toList args.toList ds p := hA0
  rw [Tryd.params4] at hA hval
  obtain ⟨v0, vs0, d0, ds0, p0, q0, hargs, rfl, rfl, h0, r0⟩ := trodAll_cons hA
  obtain ⟨rfl, rfl, rfl⟩ := trodAll_nil r0
  obtain rfl : args = #[v0] := by cases args; simp_all
  obtain ⟨rfl, rfl⟩ := trodVars_none hV
  have k0 := h0
  have lt0 : ∀ x ∈ p0, x.block < W.heap.size := by obtain ⟨m, hm⟩ := k0; exact DataW.trod_lt m _ _ _ hm
  obtain ⟨a0, l0, c0, rfl⟩ := okWide_slice Tryd.underlying25 (hval 0 25 v0 rfl rfl)
  obtain ⟨xs0, rfl, hc0, hr0, hx0⟩ := HR.open_bytes h0
  have hT := HR.tab_of_laid hL
  clear hA0 hval0 hL
  refine (HX.tree_c a0 c0 xs0 W hr0 hc0 hx0 hT).mono fun e W' ⟨he, bel⟩ => ?_
  subst he
  exact ⟨_, rfl, _, _, _, [], _, [], hW', trodAll_mk1 (shut_bool Tryd.underlying4 _), (trodAll_cons_mk (Below.trod laidOut (by kernel_rfl) (of_decide_eq_true (by kernel_rfl)) k0 bel lt0) trodAll_mk0), rfl, bel.frame _, fun h => by cases h⟩
theorem proved : Rows.PathTreeSaid :=
  OpenClaim.holds_of_wide 4 Tryd.f4 rfl rfl rfl rfl rfl rfl rfl ⟨rfl, rfl, rfl, rfl, rfl⟩ rfl rfl rfl rfl rfl (by kernel_rfl) Tryd.func4 (by kernel_rfl)
    (of_decide_eq_true (by kernel_rfl)) (by unfold Func.isWrapper; first | (rw [if_pos (by decide +kernel)]; kernel_rfl) | (rw [if_neg (by decide +kernel)]; exact ⟨rfl, rfl⟩))
    (fun os started H enc _ => lifted os started H enc)
theorem whole : Rows.PathTreeCardSaid :=
  Claim7.holds_tied_plain_at .later [] [.data, .data, .data] true Rows.pathTreeCard.stood.harness Rows.pathTreeCard.stood.looks
    proved (fun _ h => by cases h) (by kernel_rfl) (fun _ h => by cases h) pathTree_row_tie rfl ⟨rfl, rfl⟩ (by kernel_rfl) rfl
    (fun f fn hf hfn => by
      obtain rfl : f = 4 := Option.some.inj ((show Tryd.prog.funcNamed "dispatcher/dispatcherlaw24.PathTree" = some 4 by kernel_rfl).symm.trans hf) |>.symm
      obtain rfl : fn = Tryd.f4 := (Option.some.inj (Tryd.func4.symm.trans hfn)).symm
      exact ⟨by kernel_rfl, fun j t ht => by
        rw [Tryd.params4] at ht
        have hm : t ∈ [25] := by simpa using Array.mem_of_getElem? ht
        have hall : ([25].all fun u => !Tryd.prog.wantsStandIn u) = true := by kernel_rfl
        exact (show Tryd.prog.wantsStandIn t = false by simpa using List.all_eq_true.1 hall t hm)⟩)
    (by kernel_rfl)
end Go.Proofs.YtfmlpcdbllpcaaaDoor.pathTree
namespace Go.Proofs.YtfmlpcdbllpcaaaDoor
/-- The card, under a short name, for the claim. -/
theorem pathTree_holds : Rows.PathTreeCardSaid := pathTree.whole
end Go.Proofs.YtfmlpcdbllpcaaaDoor
