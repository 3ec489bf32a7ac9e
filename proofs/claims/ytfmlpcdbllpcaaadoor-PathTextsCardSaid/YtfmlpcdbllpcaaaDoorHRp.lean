/-
  ROWS BY HAND (4): an argument []path.Step, as a row of the print's own kind, its numbers within an int's range; and the library's table, out of the row's listed variables.
-/
import Derived.Test.YtfmlpcdbllpcaaaDoorHRs
import Derived.Test.YtfmlpcdbllpcaaaDoorTxA
import Derived.Test.YtfmlpcdbllpcaaaDoorRows
import Derived.Test.YtfmlpcdbllpcaaaDoorTie
import Derived.Test.YtfmlpcdbllpcaaaDoorCards
import Derived.LaidMore
import Derived.Stop.Joined
import Derived.WalkKit
import Derived.Below
import Derived.SevenTiedAt
namespace Go.Proofs.YtfmlpcdbllpcaaaDoor.HR
open Go.RowKit Go.Joins Go.ChangeShapes Go.WideShapes Go.Deep Go.Proofs.YtfmlpcdbllpcaaaDoor.HK Go.Proofs.YtfmlpcdbllpcaaaDoor.HX Go.Proofs.YtfmlpcdbllpcaaaDoorW.PrintWords Go.Proofs.YtfmlpcdbllpcaaaDoorW.PrintLast Go.Proofs.YtfmlpcdbllpcaaaDoorW.PrintMore
set_option linter.unusedVariables false
section
variable {H : Type} {enc : TypeId × Value → H} {w : World} {sp : Nat → Bool} {held : Bool}
theorem open_kdP {α : Type} {P : Program} (d : Kd α) (p : α → Prop) {t e : TypeId} (ht : P.underlying t = some (.slice e)) (hsz : P.cellsOf e = d.sz)
    (hel : ∀ n cs y, cs.length = d.sz → DataW.trod enc P w 0 sp held n e cs = some y → ∃ x, d.K w x cs ∧ p x)
    {fuel : Nat} {v : Value} {x : DataW H × List MemPlace} (h : DataW.trod enc P w 0 sp held fuel t [v] = some x) :
    ∃ A c xs, v = .slice A xs.length c ∧ xs.length ≤ c ∧ d.C w A xs.length xs ∧ ∀ x ∈ xs, p x := by
  rcases open_slice ht h with ⟨hcs, _⟩ | ⟨a, len, cap, m, n, D, Pl, hcs, _, hl, hm, hmm, _, hx⟩
  · obtain rfl : v = .slice none 0 0 := by simpa using hcs
    exact ⟨none, 0, [], rfl, Nat.le_refl _, ⟨rfl, by simp, fun h => absurd h (by simp)⟩, by simp⟩
  · obtain rfl : v = .slice (some a) len cap := by simpa using hcs
    have hlm : len ≤ m := by rw [hmm]; split <;> omega
    obtain ⟨xs, hxl, hxs⟩ := choose_below (p := fun i x => (∃ c, c.length = d.sz ∧ d.K w x c ∧ ∀ j u, c[j]? = some u → w.cell? (a.add (i * d.sz + j)) = some u) ∧ p x) len (fun i hi => by
      obtain ⟨cs', h1, h2⟩ := hx i (by omega)
      obtain ⟨_, hlen, hc⟩ := World.cells?_some h1
      obtain ⟨x, hK, hp⟩ := hel n cs' _ (by omega) h2
      refine ⟨x, ⟨cs', by omega, hK, fun j u hu => ?_⟩, hp⟩
      have hj : j < cs'.length := by
        rcases Nat.lt_or_ge j cs'.length with h | h
        · exact h
        · rw [List.getElem?_eq_none h] at hu; exact absurd hu (by simp)
      have := hc j (by omega)
      rw [hsz] at this
      rw [← hu, ← this]
      rw [Addr.add_add])
    have hmx : maxLen = 9223372036854775807 := rfl
    subst hxl
    refine ⟨some a, cap, xs, rfl, hl, ⟨rfl, by omega, fun _ => ⟨a, rfl, fun j p hp => (hxs j p hp).1⟩⟩, fun x hx => ?_⟩
    obtain ⟨i, hi, rfl⟩ := List.getElem_of_mem hx
    exact (hxs i _ (List.getElem?_eq_getElem hi)).2
theorem rng_of {n : Int} (h : (Lit.int .i64 n).wf = true) : Rng n := by
  simp only [Lit.wf, Bool.and_eq_true, decide_eq_true_eq] at h
  exact ⟨h.1, h.2⟩
/-- a struct of five whole numbers, read: each within an int's range -/
theorem trod_fiveR {P : Program} {t ti : TypeId} {f0 f1 f2 f3 f4 : Field} (hs : P.underlying t = some (.struct #[f0, f1, f2, f3, f4])) (hi : P.underlying ti = some (.int .i64))
    (h0 : f0.type = ti ∧ f0.offset = 0) (h1 : f1.type = ti ∧ f1.offset = 1) (h2 : f2.type = ti ∧ f2.offset = 2) (h3 : f3.type = ti ∧ f3.offset = 3) (h4 : f4.type = ti ∧ f4.offset = 4) (hc : P.cellsOf ti = 1)
    {n : Nat} {cs : List Value} {y : DataW H × List MemPlace} (hl : cs.length = 5) (h : DataW.trod enc P w 0 sp held n t cs = some y) :
    ∃ a b c d e : Int, cs = [.int .i64 a, .int .i64 b, .int .i64 c, .int .i64 d, .int .i64 e] ∧ Rng a ∧ Rng b ∧ Rng c ∧ Rng d ∧ Rng e := by
  obtain ⟨xs, n, _, _, _, hlen, hg⟩ := DataW.trod_struct hs h
  match cs, hl with
  | [v0, v1, v2, v3, v4], _ =>
    match xs, hlen with
    | [y0, y1, y2, y3, y4], _ =>
      have g0 : DataW.trod enc P w 0 sp held n ti [v0] = some y0 := by simpa [h0.1, h0.2, hc] using hg 0 f0 rfl
      have g1 : DataW.trod enc P w 0 sp held n ti [v1] = some y1 := by simpa [h1.1, h1.2, hc] using hg 1 f1 rfl
      have g2 : DataW.trod enc P w 0 sp held n ti [v2] = some y2 := by simpa [h2.1, h2.2, hc] using hg 2 f2 rfl
      have g3 : DataW.trod enc P w 0 sp held n ti [v3] = some y3 := by simpa [h3.1, h3.2, hc] using hg 3 f3 rfl
      have g4 : DataW.trod enc P w 0 sp held n ti [v4] = some y4 := by simpa [h4.1, h4.2, hc] using hg 4 f4 rfl
      obtain ⟨a, e0, _, r0⟩ := DataW.trod_int hi g0
      obtain ⟨b, e1, _, r1⟩ := DataW.trod_int hi g1
      obtain ⟨c, e2, _, r2⟩ := DataW.trod_int hi g2
      obtain ⟨d, e3, _, r3⟩ := DataW.trod_int hi g3
      obtain ⟨e, e4, _, r4⟩ := DataW.trod_int hi g4
      simp only [List.cons.injEq, and_true] at e0 e1 e2 e3 e4
      exact ⟨a, b, c, d, e, by rw [e0, e1, e2, e3, e4], rng_of r0, rng_of r1, rng_of r2, rng_of r3, rng_of r4⟩
theorem cells_step : Tryd.prog.cellsOf 51 = 8 := by kernel_rfl
theorem cells_boolP : Tryd.prog.cellsOf 4 = 1 := by kernel_rfl
theorem trod_step {n : Nat} {cs : List Value} {y : DataW H × List MemPlace} (hl : cs.length = 8) (h : DataW.trod enc Tryd.prog w 0 sp held n 51 cs = some y) : ∃ x, k51.K w x cs ∧ SpOk x := by
  obtain ⟨ys, n, _, _, _, hlen, hg⟩ := DataW.trod_struct Tryd.underlying51 h
  match cs, hl with
  | [v0, v1, v2, v3, v4, v5, v6, v7], _ =>
    match ys, hlen with
    | [y0, y1, y2, y3], _ =>
      have g0 : DataW.trod enc Tryd.prog w 0 sp held n 4 [v0] = some y0 := by simpa [cells_boolP] using hg 0 _ rfl
      have g1 : DataW.trod enc Tryd.prog w 0 sp held n 3 [v1] = some y1 := by simpa [cells_int] using hg 1 _ rfl
      have g2 : DataW.trod enc Tryd.prog w 0 sp held n 3 [v2] = some y2 := by simpa [cells_int] using hg 2 _ rfl
      have g3 : DataW.trod enc Tryd.prog w 0 sp held n 49 [v3, v4, v5, v6, v7] = some y3 := by simpa [cells_choice] using hg 3 _ rfl
      obtain ⟨b, e0, _⟩ := DataW.trod_bool Tryd.underlying4 g0
      obtain ⟨r, e1, _, r1⟩ := DataW.trod_int Tryd.underlying3 g1
      obtain ⟨q, e2, _, r2⟩ := DataW.trod_int Tryd.underlying3 g2
      obtain ⟨a, b1, c, d, e, e3, ra, rb, rc, rd, re⟩ := trod_fiveR Tryd.underlying49 Tryd.underlying3 ⟨rfl, rfl⟩ ⟨rfl, rfl⟩ ⟨rfl, rfl⟩ ⟨rfl, rfl⟩ ⟨rfl, rfl⟩ cells_int rfl g3
      simp only [List.cons.injEq, and_true] at e0 e1 e2 e3
      obtain ⟨e3, e4, e5, e6, e7⟩ := e3
      subst e0 e1 e2 e3 e4 e5 e6 e7
      exact ⟨⟨b, r, q, ⟨a, b1, c, d, e⟩⟩, k51_mk w ⟨b, r, q, ⟨a, b1, c, d, e⟩⟩, ⟨rng_of r1, rng_of r2, ra, rb, rc, rd, re⟩⟩
theorem open_steps {a : Option Addr} {len cap : Nat} {d : DataW H} {p : List MemPlace} (h : DataW.Trod enc Tryd.prog w 0 sp held 22 (.slice a len cap) d p) :
    ∃ xs : List S51, len = xs.length ∧ xs.length ≤ cap ∧ Kd.C k51 w a xs.length xs ∧ ∀ x ∈ xs, SpOk x := by
  obtain ⟨fuel, hf⟩ := h
  have hf' : DataW.trod enc Tryd.prog w 0 sp held fuel 22 [.slice a len cap] = some (d, p) := hf
  obtain ⟨A, c, xs, e, h1, h2, h3⟩ := open_kdP k51 SpOk Tryd.underlying22 cells_step (fun n cs y hl hy => trod_step (by exact hl) hy) hf'
  injection e with e1 e2 e3
  subst e1 e2 e3
  exact ⟨xs, rfl, h1, h2, h3⟩
end
/-- the three tables that a row lists -/
abbrev laid3 {H : Type} : List (String × DataW H) := [("math/bits.deBruijn32tab", Rows.laid_math_bits_deBruijn32tab), ("math/bits.deBruijn64tab", Rows.laid_math_bits_deBruijn64tab), ("internal/strconv.uint64pow10", Rows.laid_internal_strconv_uint64pow10)]
theorem door_met (os : Os) (args : Array Value) : laidMetH Tryd.prog laid3 ((World.doorLaid Tryd.prog 24 os).forCall (fun _ _ => 0) ⟨#[], args, []⟩).memory :=
  laidMetH_of_parts3 (fuel := 8) (laidMet_of_run' 8 (by kernel_rfl) (by kernel_rfl)) (by kernel_rfl) (by kernel_rfl)
theorem tTab : (Tryd.prog.globals[1]?).map (·.type) = some 91 := by kernel_rfl
theorem tab_of_laid {W : World} (h : laidMetH Tryd.prog laid3 W) : Tab W := by
  rw [MakeChecks.laidMetH_plain _ _ _ (by kernel_rfl)] at h
  obtain ⟨ps, ⟨g0, t0, cs0, f0, p0, q0, hg0, ht0, hv0, hd0, ⟨g1, t1, cs1, f1, p1, q1, hg1, ht1, hv1, hd1, ⟨g2, t2, cs2, f2, p2, q2, hg2, ht2, hv2, hd2, _, _⟩, _⟩, _⟩, _, _⟩ := h
  obtain rfl := Option.some.inj (gTab.symm.trans hg2)
  obtain rfl := Option.some.inj (tTab.symm.trans ht2)
  have hc := Lib.cells_of_tab (k := .u64) (zs := Lib.pow10Tab) Tryd.underlying91 Tryd.underlying60 (by kernel_rfl) (by kernel_rfl) hd2
  have ht : Lib.TabIs Tryd.prog W "internal/strconv.uint64pow10" .u64 Lib.pow10Tab := by
    unfold Lib.TabIs
    rw [hv2, ← hc]
  exact ⟨ht, World.block_lt_of_cell? W _ (ht.cell gTab 0 (by decide))⟩
end Go.Proofs.YtfmlpcdbllpcaaaDoor.HR
