/- GroupHandles: whatever comes in, the law answers true, and what came in reads as it did; the tables that it lists are tied to the program's text. No condition. -/
import Derived.Test.YtkifmhfgplhabaaDoorHRg
import Derived.Test.YtkifmhfgplhabaaDoorGdA
import Derived.Test.YtkifmhfgplhabaaDoorRows
import Derived.Test.YtkifmhfgplhabaaDoorTie
import Derived.Test.YtkifmhfgplhabaaDoorCards
import Derived.LaidMore
import Derived.Stop.Joined
import Derived.WalkKit
import Derived.Below
import Derived.SevenTiedAt
import Derived.Test.YtkifmhfgplhabaaDoorGpB
import Derived.Test.YtkifmhfgplhabaaDoorHV
import Derived.Test.YtkifmhfgplhabaaDoorGdE
import Derived.Test.YtkifmhfgplhabaaDoorGdB
import Derived.Deep.Slices
import Derived.Deep.QuietTactic
import Derived.ProofKit
import Derived.OpenShut
import Derived.ShutString
import Derived.ChangeOld
import Derived.SizedLaws
import Derived.Lib.SmallJoins
namespace Go.Proofs.YtkifmhfgplhabaaDoor.HR
open Go.RowKit Go.Joins Go.ChangeShapes Go.WideShapes Go.Deep Go.Proofs.YtkifmhfgplhabaaDoor.HK Go.Proofs.YtkifmhfgplhabaaDoor.HQ Go.Proofs.YtkifmhfgplhabaaDoorW.PrintWords Go.Proofs.YtkifmhfgplhabaaDoorW.PrintLast Go.Proofs.YtkifmhfgplhabaaDoorW.PrintMore
set_option linter.unusedVariables false
theorem rng_of {n : Int} (h : (Lit.int .i64 n).wf = true) : Rng n := by
  simp only [Lit.wf, Bool.and_eq_true, decide_eq_true_eq] at h
  exact ⟨h.1, h.2⟩
section
variable {H : Type} {enc : TypeId × Value → H} {w : World} {sp : Nat → Bool} {held : Bool}
theorem open_kdP {α : Type} {P : Program} (d : Kd α) (p : α → Prop) {t e : TypeId} (ht : P.underlying t = some (.slice e)) (hsz : P.cellsOf e = d.sz)
    (hel : ∀ n cs y, cs.length = d.sz → DataW.trod enc P w 0 sp held n e cs = some y → ∃ x, d.K w x cs ∧ p x)
    {fuel : Nat} {v : Value} {x : DataW H × List MemPlace} (h : DataW.trod enc P w 0 sp held fuel t [v] = some x) :
    ∃ A c xs, v = .slice A xs.length c ∧ xs.length ≤ c ∧ d.C w A xs.length xs ∧ ∀ x ∈ xs, p x := by
  rcases open_slice ht h with ⟨hcs, _⟩ | ⟨a, len, cap, m, n, D, Pl, hcs, _, hl, hm, hmm, _, hx⟩
  · obtain rfl : v = .slice none 0 0 := by simpa using hcs
    exact ⟨none, 0, [], rfl, Nat.le_refl _, ⟨rfl, by simp, fun h => absurd h (by simp)⟩, by simp⟩
  · obtain rfl : v = .slice (some a) len cap := by simpa using hcs
    have hlm : len ≤ m := by rw [hmm]; split <;> omega
    obtain ⟨xs, hxl, hxs⟩ := choose_below (p := fun i x => (∃ c, c.length = d.sz ∧ d.K w x c ∧ ∀ j u, c[j]? = some u → w.cell? (a.add (i * d.sz + j)) = some u) ∧ p x) len (fun i hi => by
      obtain ⟨cs', h1, h2⟩ := hx i (by omega)
      obtain ⟨_, hlen, hc⟩ := World.cells?_some h1
      obtain ⟨x, hK, hp⟩ := hel n cs' _ (by omega) h2
      refine ⟨x, ⟨cs', by omega, hK, fun j u hu => ?_⟩, hp⟩
      have hj : j < cs'.length := by
        rcases Nat.lt_or_ge j cs'.length with h | h
        · exact h
        · rw [List.getElem?_eq_none h] at hu; exact absurd hu (by simp)
      have := hc j (by omega)
      rw [hsz] at this
      rw [← hu, ← this]
      rw [Addr.add_add])
    have hmx : maxLen = 9223372036854775807 := rfl
    subst hxl
    refine ⟨some a, cap, xs, rfl, hl, ⟨rfl, by omega, fun _ => ⟨a, rfl, fun j p hj => (hxs j p hj).1⟩⟩, fun x hx => ?_⟩
    obtain ⟨i, hi, rfl⟩ := List.getElem_of_mem hx
    exact (hxs i _ (List.getElem?_eq_getElem hi)).2
theorem cells_ask : Tryd.prog.cellsOf 40 = 2 := by kernel_rfl
set_option maxRecDepth 100000 in
theorem trod_ask {n : Nat} {cs : List Value} {y : DataW H × List MemPlace} (hl : cs.length = 2) (h : DataW.trod enc Tryd.prog w 0 sp held n 40 cs = some y) : ∃ x : S40, k40.K w x cs ∧ (Rng x.f0 ∧ Rng x.f1) := by
  obtain ⟨ys, n, _, _, _, hlen, hg⟩ := DataW.trod_struct Tryd.underlying40 h
  match cs, hl with
  | [v0, v1], _ =>
    match ys, hlen with
    | [y0, y1], _ =>
      have g0 : DataW.trod enc Tryd.prog w 0 sp held n 3 [v0] = some y0 := by simpa [cells_int] using hg 0 _ rfl
      have g1 : DataW.trod enc Tryd.prog w 0 sp held n 3 [v1] = some y1 := by simpa [cells_int] using hg 1 _ rfl
      obtain ⟨a, e0, _, r0⟩ := DataW.trod_int Tryd.underlying3 g0
      obtain ⟨b, e1, _, r1⟩ := DataW.trod_int Tryd.underlying3 g1
      simp only [List.cons.injEq, and_true] at e0 e1
      exact ⟨⟨a, b⟩, by rw [e0, e1]; exact k40_mk w ⟨a, b⟩, rng_of r0, rng_of r1⟩
theorem open_asks {a : Option Addr} {len cap : Nat} {d : DataW H} {p : List MemPlace} (h : DataW.Trod enc Tryd.prog w 0 sp held 25 (.slice a len cap) d p) :
    ∃ xs : List S40, len = xs.length ∧ xs.length ≤ cap ∧ Kd.C k40 w a xs.length xs ∧ ∀ x ∈ xs, (Rng x.f0 ∧ Rng x.f1) := by
  obtain ⟨fuel, hf⟩ := h
  have hf' : DataW.trod enc Tryd.prog w 0 sp held fuel 25 [.slice a len cap] = some (d, p) := hf
  obtain ⟨A, c, xs, e, h1, h2, h3⟩ := open_kdP k40 (fun x => Rng x.f0 ∧ Rng x.f1) Tryd.underlying25 cells_ask (fun n cs y hl hy => trod_ask (by exact hl) hy) hf'
  injection e with e1 e2 e3
  subst e1 e2 e3
  exact ⟨xs, rfl, h1, h2, h3⟩
end
/-- the three tables that a row lists -/
abbrev laid3 {H : Type} : List (String × DataW H) := [("math/bits.deBruijn32tab", Rows.laid_math_bits_deBruijn32tab), ("math/bits.deBruijn64tab", Rows.laid_math_bits_deBruijn64tab), ("internal/strconv.uint64pow10", Rows.laid_internal_strconv_uint64pow10)]
theorem door_met (os : Os) (args : Array Value) : laidMetH Tryd.prog laid3 ((World.doorLaid Tryd.prog 24 os).forCall (fun _ _ => 0) ⟨#[], args, []⟩).memory :=
  laidMetH_of_parts3 (fuel := 8) (laidMet_of_run' 8 (by kernel_rfl) (by kernel_rfl)) (by kernel_rfl) (by kernel_rfl)
theorem tTab : (Tryd.prog.globals[0]?).map (·.type) = some 98 := by kernel_rfl
theorem tab_of_laid {W : World} (h : laidMetH Tryd.prog laid3 W) : Tab W := by
  rw [MakeChecks.laidMetH_plain _ _ _ (by kernel_rfl)] at h
  obtain ⟨ps, ⟨g0, t0, cs0, f0, p0, q0, hg0, ht0, hv0, hd0, ⟨g1, t1, cs1, f1, p1, q1, hg1, ht1, hv1, hd1, ⟨g2, t2, cs2, f2, p2, q2, hg2, ht2, hv2, hd2, _, _⟩, _⟩, _⟩, _, _⟩ := h
  obtain rfl := Option.some.inj (gTab.symm.trans hg2)
  obtain rfl := Option.some.inj (tTab.symm.trans ht2)
  have hc := Lib.cells_of_tab (k := .u64) (zs := Lib.pow10Tab) Tryd.underlying98 Tryd.underlying58 (by kernel_rfl) (by kernel_rfl) hd2
  have ht : Lib.TabIs Tryd.prog W "internal/strconv.uint64pow10" .u64 Lib.pow10Tab := by
    unfold Lib.TabIs
    rw [hv2, ← hc]
  exact ⟨ht, World.block_lt_of_cell? W _ (ht.cell gTab 0 (by decide))⟩
end Go.Proofs.YtkifmhfgplhabaaDoor.HR

namespace Go.Proofs.YtkifmhfgplhabaaDoor.HQ
open Go.Proofs.YtkifmhfgplhabaaDoor.HU Go.RowKit Go.Proofs.YtkifmhfgplhabaaDoor.HK Go.Proofs.YtkifmhfgplhabaaDoor.HP Go.Proofs.YtkifmhfgplhabaaDoorW.PrintWords Go.Proofs.YtkifmhfgplhabaaDoorW.PrintLast Go.Proofs.YtkifmhfgplhabaaDoorW.PrintMore
set_option linter.unusedVariables false
set_option linter.unusedSimpArgs false
theorem len_le : ∀ (l m : List Int), l.Nodup → (∀ x ∈ l, x ∈ m) → l.length ≤ m.length
  | [], m, _, _ => by simp
  | x :: t, m, hn, hs => by
    rw [List.nodup_cons] at hn
    have hx := hs x (by simp)
    have h1 := len_le t (m.erase x) hn.2 (fun y hy => (List.mem_erase_of_ne (by rintro rfl; exact hn.1 hy)).2 (hs y (by simp [hy])))
    rw [List.length_erase_of_mem hx] at h1
    have h2 := List.length_pos_of_mem hx
    simp only [List.length_cons]
    omega
theorem pre_len {l : List Int} (h : Pre l) : l.length ≤ 64 := by
  have := len_le l ((List.range 64).map fun n : Nat => (n : Int)) h.2 (fun x hx => by
    have := h.1 x hx
    exact List.mem_map.2 ⟨x.toNat, List.mem_range.2 (by omega), by omega⟩)
  simpa using this
theorem take_snoc {l : List Int} {i : Nat} (h : i < l.length) : l.take (i + 1) = l.take i ++ [rd l (i : Int)] := by
  rw [rd_lt h, List.take_add_one, List.getElem?_eq_getElem h]; rfl
theorem mem_take_rd {l : List Int} {i : Nat} {x : Int} (hi : i ≤ l.length) : x ∈ l.take i ↔ ∃ m : Nat, m < i ∧ rd l (m : Int) = x := by
  rw [List.mem_take_iff_getElem]
  constructor
  · rintro ⟨m, hm, he⟩
    exact ⟨m, by omega, by rw [rd_lt (by omega)]; exact he⟩
  · rintro ⟨m, hm, he⟩
    exact ⟨m, by omega, by rw [rd_lt (by omega)] at he; exact he⟩
end Go.Proofs.YtkifmhfgplhabaaDoor.HQ

namespace Go.Proofs.YtkifmhfgplhabaaDoor.HQ
open Go.Proofs.YtkifmhfgplhabaaDoor.HU Go.RowKit Go.Proofs.YtkifmhfgplhabaaDoor.HK Go.Proofs.YtkifmhfgplhabaaDoor.HP Go.Proofs.YtkifmhfgplhabaaDoorW.PrintWords Go.Proofs.YtkifmhfgplhabaaDoorW.PrintLast Go.Proofs.YtkifmhfgplhabaaDoorW.PrintMore
set_option linter.unusedVariables false
set_option linter.unusedSimpArgs false
abbrev Sl := S76
abbrev Gp := S24
/-- a row of one, in a block of its own -/
theorem R_one_at {α : Type} (d : Kd α) {e : Nat} {W : World} {base b : Nat} {ok okp : Nat → Prop} {cs : List Value} {p : α} (hblk : W.heap[b]? = some (.cells cs.toArray e (0, 0))) (hb : base ≤ b) (hok : ok b) (hp : d.M W base okp p cs) (hokp : ∀ k, okp k → ok k ∧ k ≠ b) :
    d.R e W base ok (.slice (some ⟨b, 0, none⟩) 1 1) [p] := by
  have hcl := d.K_len (d.K_of_M hp)
  refine ⟨fun k hk => ownB hk ▸ hok, cs, ⟨by simp [hcl], .inr ⟨b, 1, cs.toArray, rfl, hb, hblk, Nat.le_refl _, by simp [maxLen], by simp [hcl], ?_⟩⟩, ?_⟩
  · have h1 : cs.length = [p].length * d.sz := by simpa using hcl
    exact List.take_of_length_le (Nat.le_of_eq h1)
  · have h1 := Reps.snoc (Reps.none (d.M W base (fun k => ok k ∧ some k ≠ (Value.slice (some ⟨b, 0, none⟩) 1 1).ownBlock)) d.sz) (c := cs) (p := p) (d.M_mono (fun k hk => ⟨(hokp k hk).1, fun he => (hokp k hk).2 (ownB he.symm).symm⟩) hp) hcl
    simpa using h1
/-- a table's state: its block, its row of handles -/
structure Gs (W : World) (base : Nat) (ok : Nat → Prop) (g : Nat) (v : Value) (ls : List Sl) : Prop where
  blk : W.heap[g]? = some (.cells #[v] 79 (0, 0))
  hg : base ≤ g
  row : Kd.Q k76 76 W base ok v ls
theorem Gs.below {W W' : World} {base g : Nat} {ok : Nat → Prop} {v : Value} {ls : List Sl} (h : Gs W base ok g v ls) (hb : Below W.heap.size W W') : Gs W' base ok g v ls := ⟨blk_below h.blk hb, h.hg, Kd.Q_below h.row hb⟩
theorem Gs.max {W : World} {base g : Nat} {ok : Nat → Prop} {v : Value} {ls : List Sl} (h : Gs W base ok g v ls) : ls.length ≤ 9223372036854775807 := by
  obtain ⟨A, c, _, _, hc⟩ := Kd.Q_reads h.row
  exact Kd.C_max hc
/-- the handle of a number, if it is one -/
def getH (k : Int) (ls : List Sl) : Option Sl := if 0 ≤ k then (ls[k.toNat]?).filter (fun x => !x.f1) else none
theorem getH_some {k : Int} {ls : List Sl} {x : Sl} (h : getH k ls = some x) : 0 ≤ k ∧ k < ls.length ∧ ls[k.toNat]? = some x ∧ x.f1 = false := by
  unfold getH at h
  split at h
  · rename_i h0
    rw [Option.filter_eq_some_iff] at h
    obtain ⟨h1, h2⟩ := h
    have := (List.getElem?_eq_some_iff.1 h1).1
    exact ⟨h0, by omega, h1, by simpa using h2⟩
  · cases h
theorem getH_none {k : Int} {ls : List Sl} (h : getH k ls = none) : k < 0 ∨ (ls.length : Int) ≤ k ∨ ∃ x, 0 ≤ k ∧ k < ls.length ∧ ls[k.toNat]? = some x ∧ x.f1 = true := by
  unfold getH at h
  split at h
  · rename_i h0
    rcases Int.lt_or_le k ls.length with h1 | h1
    · refine .inr (.inr ⟨ls[k.toNat]'(by omega), h0, h1, List.getElem?_eq_getElem _, ?_⟩)
      rw [List.getElem?_eq_getElem (by omega)] at h
      simpa [Option.filter] using h
    · exact .inr (.inl h1)
  · exact .inl (by omega)
section
variable {W : World} {base g : Nat} {ok : Nat → Prop} {v : Value} {ls : List Sl}
/-- a handle of it: where it lies, what it reads as -/
theorem Gs.slot (h : Gs W base ok g v ls) (i : Nat) (x : Sl) (hi : ls[i]? = some x) :
    ∃ b o c A cc, v = .slice (some ⟨b, o, none⟩) ls.length c ∧ W.cell? ⟨b, o + i * 3, none⟩ = some (.string x.f0.f0) ∧ W.cell? ⟨b, o + i * 3 + 1, none⟩ = some (.slice A x.f0.f1.length cc) ∧ W.cell? ⟨b, o + i * 3 + 2, none⟩ = some (.bool x.f1) ∧ W.frozen? ⟨b, o + i * 3 + 2, none⟩ = false ∧
      x.f0.f1.length ≤ cc ∧ Kd.C (Kd.int .i64) W A x.f0.f1.length x.f0.f1 ∧ base ≤ b ∧ b ≠ g := by
  have hil : i < ls.length := (List.getElem?_eq_some_iff.1 hi).1
  obtain ⟨b, o, c, hv, hb, _, cells, hcp⟩ := Kd.Q_form h.row (by omega)
  have row := h.row
  have hgb := h.blk
  subst hv
  obtain ⟨cs, hcl, hM, hcc, hfr⟩ := Kd.Q_elem row z76 (i : Int) (by omega) (by omega)
  rw [Int.toNat_natCast] at hM hcc hfr
  have hx : ls.getD i z76 = x := by simp [List.getD, hi]
  rw [hx] at hM
  obtain ⟨v2, hce, hR⟩ := k76_openM hM
  obtain ⟨A, cc, hv2, hcl2, hC⟩ := Kd.R_reads hR
  subst hv2
  have hsz : (k76).sz = 3 := rfl
  rw [hsz] at hcc hfr
  refine ⟨b, o, c, A, cc, rfl, hcc 0 _ (by rw [hce]; rfl), hcc 1 _ (by rw [hce]; rfl), hcc 2 _ (by rw [hce]; rfl), hfr 2, hcl2, hC, hb, ?_⟩
  rintro rfl
  rw [hcp] at hgb
  injection hgb with hgb
  injection hgb with _ h2
  exact absurd (show (76 : Nat) = 79 from h2) (by decide)
end
theorem many_c (base : Nat) (ok : Nat → Prop) (g : Nat) (v : Value) (ls : List Sl) (w : World) (h : Gs w base ok g v ls) : Calls Tryd.prog 37 #[.pointer (some ⟨g, 0, none⟩)] w fun e w' => e = .returned (.int .i64 ls.length) ∧ w = w' := by
  obtain ⟨A, c, rfl, hl, hr⟩ := Kd.Q_reads h.row
  have h1 := (blk_cell h.blk 0).trans rfl
  go_enter Tryd.func37, Tryd.ntmps37
  go_wp2
  go_ret
  exact ⟨rfl, rfl⟩
theorem find_some (base : Nat) (ok : Nat → Prop) (g : Nat) (v : Value) (ls : List Sl) (k : Int) (x : Sl) (w : World) (h : Gs w base ok g v ls) (hx : getH k ls = some x) :
    Calls Tryd.prog 38 #[.pointer (some ⟨g, 0, none⟩), .int .i64 k] w fun e w' => (∃ b o c, v = .slice (some ⟨b, o, none⟩) ls.length c ∧ e = .returned (.tuple #[.pointer (some ⟨b, o + k.toNat * 3, none⟩), .int .i64 0])) ∧ w = w' := by
  obtain ⟨h0, h1, hi, hgn⟩ := getH_some hx
  have hmax := h.max
  obtain ⟨n, rfl⟩ : ∃ n : Nat, k = n := ⟨k.toNat, by omega⟩
  rw [Int.toNat_natCast] at hi ⊢
  obtain ⟨b, o, c, A, cc, rfl, c0, c1, c2, _, _, _, _, _⟩ := h.slot n x hi
  rw [hgn] at c2
  have hg0 : w.cell? ⟨g, 0, none⟩ = some (.slice (some ⟨b, o, none⟩) ls.length c) := (blk_cell h.blk 0).trans rfl
  have b0 : ((ls.length : Int) == 0) = false := beq_eq_false_iff_ne.2 (by omega)
  have b1 : decide ((n : Int) < 0) = false := decide_eq_false (by omega)
  have b2 : decide ((ls.length : Int) ≤ (n : Int)) = false := decide_eq_false (by omega)
  have HM := Aside0.mk (many_c base ok g _ ls w h)
  clear c0 c1 h hx hi
  go_enter Tryd.func38, Tryd.ntmps38
  go_wp2_with fail
  refine HM.out.mono ?_
  rintro e w1 ⟨rfl, rfl⟩
  go_wp2
  go_ret2
  exact ⟨⟨b, o, c, rfl, rfl⟩, rfl⟩
end Go.Proofs.YtkifmhfgplhabaaDoor.HQ

namespace Go.Proofs.YtkifmhfgplhabaaDoor.HQ
open Go.Proofs.YtkifmhfgplhabaaDoor.HU Go.RowKit Go.Proofs.YtkifmhfgplhabaaDoor.HK Go.Proofs.YtkifmhfgplhabaaDoor.HP Go.Proofs.YtkifmhfgplhabaaDoorW.PrintWords Go.Proofs.YtkifmhfgplhabaaDoorW.PrintLast Go.Proofs.YtkifmhfgplhabaaDoorW.PrintMore
set_option linter.unusedVariables false
set_option linter.unusedSimpArgs false
theorem find_none (base : Nat) (ok : Nat → Prop) (g : Nat) (v : Value) (ls : List Sl) (k : Int) (w : World) (h : Gs w base ok g v ls) (hp : 0 < ls.length) (hx : getH k ls = none) :
    Calls Tryd.prog 38 #[.pointer (some ⟨g, 0, none⟩), .int .i64 k] w fun e w' => e = .returned (.tuple #[.pointer none, .int .i64 110]) ∧ w = w' := by
  have hmax := h.max
  obtain ⟨Av, cv, rfl, hlv, _⟩ := Kd.Q_reads h.row
  have hg0 : w.cell? ⟨g, 0, none⟩ = some (.slice Av ls.length cv) := (blk_cell h.blk 0).trans rfl
  have b0 : ((ls.length : Int) == 0) = false := beq_eq_false_iff_ne.2 (by omega)
  have HM := Aside0.mk (many_c base ok g _ ls w h)
  rcases getH_none hx with h0 | h0 | ⟨x, h0, h1, hi, hgn⟩
  · have b1 : decide (k < 0) = true := decide_eq_true h0
    clear h hx
    go_enter Tryd.func38, Tryd.ntmps38
    go_wp2_with fail
    refine HM.out.mono ?_
    rintro e w1 ⟨rfl, rfl⟩
    go_wp2
    go_ret2
    exact ⟨rfl, rfl⟩
  · have b1 : decide (k < 0) = false := decide_eq_false (by omega)
    have b2 : decide ((ls.length : Int) ≤ k) = true := decide_eq_true h0
    clear h hx
    go_enter Tryd.func38, Tryd.ntmps38
    go_wp2_with fail
    refine HM.out.mono ?_
    rintro e w1 ⟨rfl, rfl⟩
    go_wp2
    go_ret2
    exact ⟨rfl, rfl⟩
  · obtain ⟨n, rfl⟩ : ∃ n : Nat, k = n := ⟨k.toNat, by omega⟩
    rw [Int.toNat_natCast] at hi
    obtain ⟨b, o, c, A, cc, hve, c0, c1, c2, _, _, _, _, _⟩ := h.slot n x hi
    injection hve with hv1 hv2 hv3
    subst hv1 hv3
    rw [hgn] at c2
    have b1 : decide ((n : Int) < 0) = false := decide_eq_false (by omega)
    have b2 : decide ((ls.length : Int) ≤ (n : Int)) = false := decide_eq_false (by omega)
    clear c0 c1 h hx hi
    go_enter Tryd.func38, Tryd.ntmps38
    go_wp2_with fail
    refine HM.out.mono ?_
    rintro e w1 ⟨rfl, rfl⟩
    go_wp2
    go_ret2
    exact ⟨rfl, rfl⟩
theorem at_none (base : Nat) (ok : Nat → Prop) (g : Nat) (v : Value) (ls : List Sl) (k : Int) (w : World) (h : Gs w base ok g v ls) (hp : 0 < ls.length) (hx : getH k ls = none) :
    Calls Tryd.prog 24 #[.pointer (some ⟨g, 0, none⟩), .int .i64 k] w fun e w' => e = .returned (.tuple #[.agg #[.string ⟨#[]⟩, .slice none 0 0], .int .i64 110]) ∧ Below w.heap.size w w' := by
  have HF := Aside0.mk (find_none base ok g v ls k _ (h.below (below_alloc (Below.refl w.heap.size w) (.cells #[.string ⟨#[]⟩, .slice none 0 0] 24))) hp hx)
  have hblk := blk_new w (.cells #[.string ⟨#[]⟩, .slice none 0 0] 24)
  have HB := Aside0.mk hblk
  clear h hx hblk
  go_enter Tryd.func24, Tryd.ntmps24
  go_wp2_with fail
  refine HF.out.mono ?_
  rintro e w1 ⟨rfl, rfl⟩
  go_wp2
  refine bodyPost_ret (results_ct rfl _ _ w.heap.size 24 #[.string ⟨#[]⟩, .slice none 0 0] (0, 0) _ rfl HB.out Tryd.underlying24 rfl (by kernel_rfl)) rfl ?_
  exact ⟨rfl, below_alloc (Below.refl _ _) _⟩
theorem at_some (base : Nat) (ok : Nat → Prop) (g : Nat) (v : Value) (ls : List Sl) (k : Int) (x : Sl) (w : World) (h : Gs w base ok g v ls) (hx : getH k ls = some x) (hl : x.f0.f1.length ≤ 1000) :
    Calls Tryd.prog 24 #[.pointer (some ⟨g, 0, none⟩), .int .i64 k] w fun e w' => (∃ u, e = .returned (.tuple #[.agg #[.string x.f0.f0, u], .int .i64 0]) ∧ Kd.R (Kd.int .i64) 3 w' w.heap.size (fun _ => True) u x.f0.f1) ∧ Below w.heap.size w w' := by
  have HF := Aside0.mk (find_some base ok g v ls k x _ (h.below (below_alloc (Below.refl w.heap.size w) (.cells #[.string ⟨#[]⟩, .slice none 0 0] 24))) hx)
  obtain ⟨h0, h1, hi, hgn⟩ := getH_some hx
  obtain ⟨b, o, c, A, cc, hve, c0, c1, c2, _, hcc, hC, _, _⟩ := h.slot _ x hi
  have HC := Aside0.mk hC
  have c0 := cell_alloc1 c0 (.cells #[.string ⟨#[]⟩, .slice none 0 0] 24)
  have c1 := cell_alloc1 c1 (.cells #[.string ⟨#[]⟩, .slice none 0 0] 24)
  have HB := Aside0.mk (blk_new w (.cells #[.string ⟨#[]⟩, .slice none 0 0] 24))
  clear h hx hi hC c2
  go_enter Tryd.func24, Tryd.ntmps24
  go_wp2_with fail
  refine HF.out.mono ?_
  rintro e w1 ⟨⟨b', o', c', hv', rfl⟩, rfl⟩
  have hbb : b = b' ∧ o = o' := by
    rw [hve] at hv'
    injection hv' with hv' _ _
    injection hv' with hv'
    injection hv' with h1 h2 _
    exact ⟨h1, h2⟩
  obtain ⟨rfl, rfl⟩ := hbb
  clear hv' hve
  go_wp2_with fail
  refine (own_c x.f0.f0 A cc x.f0.f1 _ (Kd.C_alloc HC.out _) hcc (by omega)).mono ?_
  rintro e w2 ⟨u, rfl, hR, hb⟩
  obtain ⟨An, cn, rfl, hln, _⟩ := Kd.R_reads hR
  have HB2 := Aside0.mk (blk_below HB.out hb)
  have HR := Aside0.mk hR
  have HBL := Aside0.mk (below_then (below_alloc (Below.refl w.heap.size w) (.cells #[.string ⟨#[]⟩, .slice none 0 0] 24)) (by simp) hb)
  clear hR hb c0 c1
  have g0 := (blk_cell HB2.out 0).trans rfl
  have g1 := (blk_cell HB2.out 1).trans rfl
  have f0 := blk_frozen HB2.out 0
  have f1 := blk_frozen HB2.out 1
  go_wp2
  have C1 := blk_put (cs' := #[.string x.f0.f0, .slice none 0 0]) HB2.out 0 (.string x.f0.f0) rfl
  have C2 := blk_put (cs' := #[.string x.f0.f0, .slice An x.f0.f1.length cn]) C1 1 (.slice An x.f0.f1.length cn) rfl
  have R1 := Kd.R_set HR.out HB2.out E24 0 (.string x.f0.f0)
  have R2 := Kd.R_set R1 C1 E24 1 (.slice An x.f0.f1.length cn)
  refine bodyPost_ret (results_ct rfl _ _ w.heap.size 24 #[.string x.f0.f0, .slice An x.f0.f1.length cn] (0, 0) _ rfl C2 Tryd.underlying24 rfl (by kernel_rfl)) rfl ?_
  exact ⟨⟨_, rfl, Kd.R_lower R2 (by simp)⟩, (HBL.out.setCell (Nat.le_refl _) _).setCell (Nat.le_refl _) _⟩
/-- the handles behind a free -/
def freeL (k : Int) (ls : List Sl) : List Sl := match getH k ls with | some x => ls.set k.toNat { x with f1 := true } | none => ls
def atE (k : Int) (ls : List Sl) : Int := if (getH k ls).isSome = true then 0 else 110
theorem free_some (base : Nat) (ok : Nat → Prop) (g : Nat) (v : Value) (ls : List Sl) (k : Int) (x : Sl) (w : World) (h : Gs w base ok g v ls) (hx : getH k ls = some x) :
    Calls Tryd.prog 23 #[.pointer (some ⟨g, 0, none⟩), .int .i64 k] w fun e w' => e = .returned (.int .i64 0) ∧ Gs w' base ok g v (ls.set k.toNat { x with f1 := true }) ∧ Kept w w' (fun j => some j = v.ownBlock) ∧ Below base w w' := by
  have HF := Aside0.mk (find_some base ok g v ls k x _ h hx)
  obtain ⟨h0, h1, hi, hgn⟩ := getH_some hx
  obtain ⟨b, o, c, A, cc, hve, c0, c1, c2, f2, hcc, hC, hbb, hbg⟩ := h.slot _ x hi
  have HG := Aside0.mk h
  subst hve
  have HS : Aside0 (Gs (w.setCell ⟨b, o + k.toNat * 3 + 2, none⟩ (.bool true)) base ok g (.slice (some ⟨b, o, none⟩) ls.length c) (ls.set k.toNat { x with f1 := true })) := by
    obtain ⟨cs, hcl, hM, hcc2, hfr⟩ := Kd.Q_elem h.row z76 k h0 (by omega)
    have hxx : ls.getD k.toNat z76 = x := by simp [List.getD, hi]
    rw [hxx] at hM
    obtain ⟨v2, hce, hR⟩ := k76_openM hM
    have hs := Kd.Q_seg h.row k h0 (by omega) (c := cs) (seg := [.bool true]) (j := 2) (x' := { x with f1 := true }) (okp := fun j => ok j ∧ j ≠ b) hcl hcc2 (by show _ ≤ 3; simp) (by
        rw [hce]
        exact k76_mkM w base _ { x with f1 := true } hR) (fun _ h => h)
    exact ⟨⟨blk_far h.blk (by show g ≠ b; omega) _, h.hg, hs.1⟩⟩
  have HK : Aside0 (Kept w (w.setCell ⟨b, o + k.toNat * 3 + 2, none⟩ (.bool true)) (fun j => some j = (Value.slice (some ⟨b, o, none⟩) ls.length c).ownBlock)) := ⟨Kept.setCell (p := ⟨b, o + k.toNat * 3 + 2, none⟩) (Kept.refl w (fun j => some j = (Value.slice (some ⟨b, o, none⟩) ls.length c).ownBlock)) (.inl (show some b = some b from rfl)) _⟩
  have HBL : Aside0 (Below base w (w.setCell ⟨b, o + k.toNat * 3 + 2, none⟩ (.bool true))) := ⟨(Below.refl base w).setCell hbb _⟩
  clear h hx hi hC c0 c1
  go_enter Tryd.func23, Tryd.ntmps23
  go_wp2_with fail
  refine HF.out.mono ?_
  rintro e w1 ⟨⟨b', o', c', hv', rfl⟩, rfl⟩
  injection hv' with hv' _ _
  injection hv' with hv'
  injection hv' with hb1 ho1 _
  subst hb1 ho1
  go_wp2
  go_ret
  exact ⟨rfl, HS.out, HK.out, HBL.out⟩
theorem free_none (base : Nat) (ok : Nat → Prop) (g : Nat) (v : Value) (ls : List Sl) (k : Int) (w : World) (h : Gs w base ok g v ls) (hp : 0 < ls.length) (hx : getH k ls = none) :
    Calls Tryd.prog 23 #[.pointer (some ⟨g, 0, none⟩), .int .i64 k] w fun e w' => e = .returned (.int .i64 110) ∧ w = w' := by
  have HF := Aside0.mk (find_none base ok g v ls k _ h hp hx)
  clear h hx
  go_enter Tryd.func23, Tryd.ntmps23
  go_wp2_with fail
  refine HF.out.mono ?_
  rintro e w1 ⟨rfl, rfl⟩
  go_wp2
  go_ret
  exact ⟨rfl, rfl⟩
theorem free_any (base : Nat) (ok : Nat → Prop) (g : Nat) (v : Value) (ls : List Sl) (k : Int) (w : World) (h : Gs w base ok g v ls) (hp : 0 < ls.length) :
    Calls Tryd.prog 23 #[.pointer (some ⟨g, 0, none⟩), .int .i64 k] w fun e w' => e = .returned (.int .i64 (atE k ls)) ∧ Gs w' base ok g v (freeL k ls) ∧ Kept w w' (fun j => some j = v.ownBlock) ∧ Below base w w' := by
  cases hx : getH k ls with
  | none =>
    refine (free_none base ok g v ls k w h hp hx).mono ?_
    rintro e w' ⟨rfl, rfl⟩
    have h1 : atE k ls = 110 := by unfold atE; rw [hx]; rfl
    have h2 : freeL k ls = ls := by unfold freeL; rw [hx]
    rw [h1, h2]
    exact ⟨rfl, h, Kept.refl w _, Below.refl _ _⟩
  | some x =>
    have h1 : atE k ls = 0 := by unfold atE; rw [hx]; rfl
    have h2 : freeL k ls = ls.set k.toNat { x with f1 := true } := by unfold freeL; rw [hx]
    rw [h1, h2]
    exact free_some base ok g v ls k x w h hx
theorem new_no (s : ByteArray) (A : Option Addr) (c : Nat) (l : List Int) (w : World) (hr : Kd.C (Kd.int .i64) w A l.length l) (hc : l.length ≤ c) (hm : mayB l = false) :
    Calls Tryd.prog 21 #[.agg #[.string s, .slice A l.length c]] w fun e w' => e = .returned (.tuple #[.pointer none, .int .i64 2]) ∧ Below w.heap.size w w' := by
  have HR := Aside0.mk hr
  clear hr
  go_enter Tryd.func21, Tryd.ntmps21
  go_wp2_with fail
  have hb1 := below_alloc (Below.refl w.heap.size w) (.cells #[.string s, .slice A l.length c] 24)
  refine (may_c s A c l _ (Kd.C_below HR.out hb1) hc).mono ?_
  rintro e w1 ⟨rfl, hbx⟩
  have HB := Aside0.mk (below_then hb1 hb1.size hbx)
  clear hb1 hbx
  rw [hm]
  go_wp2
  go_ret2
  exact ⟨rfl, HB.out⟩
theorem new_ok (s : ByteArray) (A : Option Addr) (c : Nat) (l : List Int) (w : World) (hr : Kd.C (Kd.int .i64) w A l.length l) (hc : l.length ≤ c) (hl : l.length ≤ 1000) (hm : mayB l = true) :
    Calls Tryd.prog 21 #[.agg #[.string s, .slice A l.length c]] w fun e w' => (∃ g v, e = .returned (.tuple #[.pointer (some ⟨g, 0, none⟩), .int .i64 0]) ∧ Gs w' w.heap.size (fun _ => True) g v [⟨⟨s, l⟩, false⟩]) ∧ Below w.heap.size w w' := by
  have HR := Aside0.mk hr
  clear hr
  go_enter Tryd.func21, Tryd.ntmps21
  go_wp2_with fail
  have hb1 := below_alloc (Below.refl w.heap.size w) (.cells #[.string s, .slice A l.length c] 24)
  have BP := Aside0.mk (blk_new w (.cells #[.string s, .slice A l.length c] 24))
  refine (may_c s A c l _ (Kd.C_below HR.out hb1) hc).mono ?_
  rintro e w1 ⟨rfl, hbx⟩
  have HB := Aside0.mk (below_then hb1 hb1.size hbx)
  have BP1 := Aside0.mk (blk_below BP.out hbx)
  clear hb1 hbx BP
  rw [hm]
  have g0 := (blk_cell BP1.out 0).trans rfl
  have g1 := (blk_cell BP1.out 1).trans rfl
  go_wp2_with fail
  refine (own_c s A c l w1 (Kd.C_below HR.out HB.out) hc (by omega)).mono ?_
  rintro e w2 ⟨u, rfl, hR, hb⟩
  obtain ⟨An, cn, rfl, hln, _⟩ := Kd.R_reads hR
  have HB2 := Aside0.mk (below_then HB.out HB.out.size hb)
  have HR2 := Aside0.mk hR
  have hz := Aside0.mk (Nat.le_trans HB.out.size hb.size)
  have hz1 := Aside0.mk hb.size
  have hz0 := Aside0.mk HB.out.size
  clear hR hb g0 g1
  go_wp2
  go_ret2
  have hq := R_one_at k76 (W := (w2.alloc (.cells #[.string s, .slice An l.length cn, .bool false] 76)).alloc (.cells #[.slice (some ⟨w2.heap.size, 0, none⟩) 1 1] 79)) (base := w.heap.size) (b := w2.heap.size) (ok := fun _ => True) (okp := fun k => k < w2.heap.size) (cs := [.string s, .slice An l.length cn, .bool false]) (p := (⟨⟨s, l⟩, false⟩ : Sl)) (blk_alloc (blk_new w2 _) _) hz.out trivial
    (k76_mkM _ w.heap.size _ (⟨⟨s, l⟩, false⟩ : Sl) (Kd.R_alloc (Kd.R_alloc (Kd.R_mono (Kd.R_bound (Kd.R_lower HR2.out hz0.out)) (fun k hk => hk.2.2.1)) _) _)) (fun k hk => ⟨trivial, by omega⟩)
  refine ⟨⟨_, _, rfl, ⟨blk_second w2 _ _, ?_, Kd.Q_of_R hq⟩⟩, below_alloc (below_alloc HB2.out _) _⟩
  have := hz.out
  omega
end Go.Proofs.YtkifmhfgplhabaaDoor.HQ

namespace Go.Proofs.YtkifmhfgplhabaaDoor.HU
open Go.RowKit Go.Proofs.YtkifmhfgplhabaaDoorW.PrintWords Go.Proofs.YtkifmhfgplhabaaDoorW.PrintLast Go.Proofs.YtkifmhfgplhabaaDoorW.PrintMore
set_option linter.unusedVariables false
section
variable {P : Program} {ops : Array Oper} {Q : Exit → Act → World → Prop} {md : Region.Mode} {S : World → Prop} {T : Nat → Bool}
/-- has one of T come up? -/
def pastB (T : Nat → Bool) (ld : Array Bool) : Bool := (List.range ld.size).any fun t => T t && ld.getD t false
theorem past_spec {ld : Array Bool} : pastB T ld = true ↔ ∃ t, T t = true ∧ ld.getD t false = true := by
  unfold pastB
  rw [List.any_eq_true]
  constructor
  · rintro ⟨t, _, h⟩
    simp only [Bool.and_eq_true] at h
    exact ⟨t, h⟩
  · rintro ⟨t, h1, h2⟩
    refine ⟨t, List.mem_range.2 ?_, by rw [h1, h2]; rfl⟩
    rcases Nat.lt_or_ge t ld.size with h | h
    · exact h
    · simp [Array.getElem?_eq_none h] at h2
theorem past_set {ld : Array Bool} {i : Nat} (h : pastB T ld = true) : pastB T (ld.setIfInBounds i true) = true := by
  obtain ⟨t, h1, h2⟩ := past_spec.1 h
  exact past_spec.2 ⟨t, h1, getD_set_true h2⟩
theorem past_back {ld : Array Bool} {i : Nat} (hT : T i = false) (h : pastB T (ld.setIfInBounds i true) = true) : pastB T ld = true := by
  obtain ⟨t, h1, h2⟩ := past_spec.1 h
  refine past_spec.2 ⟨t, h1, ?_⟩
  have hne : i ≠ t := by
    rintro rfl
    rw [hT] at h1
    cases h1
  rwa [getD_set_ne false hne] at h2
/-- whatever comes up next; S behind all, till one of T has come up -/
def anyT (P : Program) (md : Region.Mode) (ops : Array Oper) (Q : Exit → Act → World → Prop) (S : World → Prop) (T : Nat → Bool) : Nat → Array Bool → Act → World → Prop
  | 0, ld, a, w => Region.ready md ops ld = [] ∧ Q .normal a w
  | f + 1, ld, a, w => (Region.ready md ops ld = [] → Q .normal a w) ∧ ∀ i ∈ Region.ready md ops ld, wpOp P ops Q i (fun a' w' => (pastB T (ld.setIfInBounds i true) = true ∨ S w') ∧ anyT P md ops Q S T f (ld.setIfInBounds i true) a' w') a w
theorem any_of_T : ∀ (f : Nat) (ld : Array Bool) (a : Act) (w : World), anyT P md ops Q S T f ld a w → wpAny P md ops Q f ld a w
  | 0, _, _, _, h => h
  | f + 1, _, _, _, h => ⟨h.1, fun i hi => wpOp_mono (fun a' w' h' => any_of_T f _ a' w' h'.2) (h.2 i hi)⟩
/-- each of T waits for i -/
def waits (md : Region.Mode) (ops : Array Oper) (T : Nat → Bool) (i : Nat) : Bool :=
  (List.range ops.size).all fun t => !T t || (match ops[t]? with | some o => o.after.any fun e => Region.binds md e && e.on == i | none => true)
theorem waits_spec {i t : Nat} {o : Oper} (h : waits md ops T i = true) (ht : T t = true) (ho : ops[t]? = some o) : ∃ e ∈ o.after, Region.binds md e = true ∧ e.on = i := by
  have hl := (Array.getElem?_eq_some_iff.1 ho).1
  have h1 := List.all_eq_true.1 h t (List.mem_range.2 hl)
  simp only [ht, Bool.not_true, Bool.false_or, ho] at h1
  obtain ⟨e, he, hb⟩ := Array.any_eq_true'.1 h1
  simp only [Bool.and_eq_true, beq_iff_eq] at hb
  exact ⟨e, he, hb⟩
theorem not_on {i : Nat} {ld : Array Bool} {oj : Oper} (hr : i ∈ Region.ready md ops ld) (hall : ∀ e ∈ oj.after, Region.binds md e = true → ld.getD e.on false = true) : ∀ e ∈ oj.after, Region.binds md e = true → e.on ≠ i := by
  intro e he hb heq
  have h1 := hall e he hb
  have h0 := (mem_ready.1 hr).1
  rw [heq] at h1
  rcases Nat.lt_or_ge i ld.size with h' | h'
  · simp [h'] at h0 h1
    rw [h0] at h1
    cases h1
  · simp [Array.getElem?_eq_none h'] at h1
theorem free_set {i j : Nat} {oi : Oper} {ld : Array Bool} (hjun : ld.getD j true = false) (hfree : ∀ k ok, ops[k]? = some ok → k ≠ i → ld.getD k true = false → (∀ e ∈ ok.after, Region.binds md e = true → e.on ≠ i) → oi.apart ops ok = true) :
    ∀ k ok, ops[k]? = some ok → k ≠ i → (ld.setIfInBounds j true).getD k true = false → (∀ e ∈ ok.after, Region.binds md e = true → e.on ≠ i) → oi.apart ops ok = true := by
  intro k ok hk hki hun hno
  refine hfree k ok hk hki ?_ hno
  by_cases hjk : j = k
  · subst hjk
    exact hjun
  · rw [getD_set_ne true hjk] at hun
    exact hun
/-- a load under S may be taken first -/
theorem anyT_first {i : Nat} {oi : Oper} {v : Value} (hi : ops[i]? = some oi) (hsel : ∀ (j : Nat) (o : Oper) cs b, ops[j]? = some o → o.op ≠ .select cs b) (hT : waits md ops T i = true) (hTi : T i = false)
    (hQ : ∀ c a w, Q (.panic c) (a.put oi.dst v) w → Q (.panic c) a w) : ∀ (f : Nat) (ld : Array Bool) (a : Act) (w : World),
      (∀ j oj, ops[j]? = some oj → j ≠ i → ld.getD j true = false → (∀ e ∈ oj.after, Region.binds md e = true → e.on ≠ i) → oi.apart ops oj = true) →
      i ∈ Region.ready md ops ld → pastB T ld = false → YieldsIf P ops S oi v a → S w → anyT P md ops Q S T f (ld.setIfInBounds i true) (a.put oi.dst v) w → anyT P md ops Q S T (f + 1) ld a w := by
  intro f
  induction f with
  | zero =>
    intro ld a w _ hr _ hy hS H
    refine ⟨fun h => (by rw [h] at hr; cases hr), fun j hj => ?_⟩
    by_cases hji : j = i
    · subst hji
      exact hy.wpOp hi hS ⟨.inr hS, H⟩
    · have := ready_mono hj hji
      rw [H.1] at this
      cases this
  | succ f ih =>
    intro ld a w hfree hr hp hy hS H
    refine ⟨fun h => (by rw [h] at hr; cases hr), fun j hj => ?_⟩
    by_cases hji : j = i
    · subst hji
      exact hy.wpOp hi hS ⟨.inr hS, H⟩
    · obtain ⟨hjun, oj, hoj, hall⟩ := mem_ready.1 hj
      have hnot := not_on hr hall
      have hTj : T j = false := by
        cases ht : T j with
        | false => rfl
        | true =>
          obtain ⟨e, he, hb, hon⟩ := waits_spec hT ht hoj
          exact absurd hon (hnot e he hb)
      have hp' : pastB T (ld.setIfInBounds j true) = false := by
        cases h : pastB T (ld.setIfInBounds j true) with
        | false => rfl
        | true => rw [past_back hTj h] at hp; cases hp
      have h2 := wpOp_putIf hoj (hfree j oj hoj hji hjun hnot) (fun cs b => hsel i oi cs b hi) (fun cs b => hsel j oj cs b hoj) hQ hy (H.2 j (ready_mono hj hji))
      refine wpOp_mono (fun a' w' h3 => ?_) h2
      have hS' : S w' := h3.2.1.resolve_left (fun h => by
        rw [← Array.setIfInBounds_comm _ _ hji] at h
        rw [past_back hTi h] at hp'
        cases hp')
      refine ⟨.inr hS', ih (ld.setIfInBounds j true) a' w' (free_set hjun hfree) (ready_mono hr (Ne.symm hji)) hp' h3.1 hS' ?_⟩
      rw [Array.setIfInBounds_comm _ _ hji]
      exact h3.2.2
/-- what yields in whatever world may be taken first -/
theorem anyT_firstP {i : Nat} {oi : Oper} {v : Value} (hi : ops[i]? = some oi) (hsel : ∀ (j : Nat) (o : Oper) cs b, ops[j]? = some o → o.op ≠ .select cs b) (hTi : T i = false)
    (hQ : ∀ c a w, Q (.panic c) (a.put oi.dst v) w → Q (.panic c) a w) : ∀ (f : Nat) (ld : Array Bool) (a : Act) (w : World),
      (∀ j oj, ops[j]? = some oj → j ≠ i → ld.getD j true = false → (∀ e ∈ oj.after, Region.binds md e = true → e.on ≠ i) → oi.apart ops oj = true) →
      i ∈ Region.ready md ops ld → YieldsIf P ops (fun _ => True) oi v a → (pastB T ld = true ∨ S w) → anyT P md ops Q S T f (ld.setIfInBounds i true) (a.put oi.dst v) w → anyT P md ops Q S T (f + 1) ld a w := by
  intro f
  induction f with
  | zero =>
    intro ld a w _ hr hy hS H
    refine ⟨fun h => (by rw [h] at hr; cases hr), fun j hj => ?_⟩
    by_cases hji : j = i
    · subst hji
      exact hy.wpOp hi trivial ⟨hS.imp past_set id, H⟩
    · have := ready_mono hj hji
      rw [H.1] at this
      cases this
  | succ f ih =>
    intro ld a w hfree hr hy hS H
    refine ⟨fun h => (by rw [h] at hr; cases hr), fun j hj => ?_⟩
    by_cases hji : j = i
    · subst hji
      exact hy.wpOp hi trivial ⟨hS.imp past_set id, H⟩
    · obtain ⟨hjun, oj, hoj, hall⟩ := mem_ready.1 hj
      have hnot := not_on hr hall
      have h2 := wpOp_putIf hoj (hfree j oj hoj hji hjun hnot) (fun cs b => hsel i oi cs b hi) (fun cs b => hsel j oj cs b hoj) hQ hy (H.2 j (ready_mono hj hji))
      refine wpOp_mono (fun a' w' h3 => ?_) h2
      have hS' : pastB T (ld.setIfInBounds j true) = true ∨ S w' := h3.2.1.imp (fun h => by
        rw [← Array.setIfInBounds_comm _ _ hji] at h
        exact past_back hTi h) id
      refine ⟨hS', ih (ld.setIfInBounds j true) a' w' (free_set hjun hfree) (ready_mono hr (Ne.symm hji)) h3.1 hS' ?_⟩
      rw [Array.setIfInBounds_comm _ _ hji]
      exact h3.2.2
theorem op_at {l : List Oper} {i : Nat} {o : Oper} (h : l[i]? = some o) : l.toArray[i]? = some o := by simpa using h
theorem takeT {l : List Oper} {i : Nat} {oi : Oper} {v : Value} {f : Nat} {ld : Array Bool} {a : Act} {w : World} (hi : l[i]? = some oi) (hs : Region.noSelect l.toArray = true) (hf : Region.free md l.toArray ld i = true) (hr : (Region.ready md l.toArray ld).contains i = true)
    (hT : waits md l.toArray T i = true) (hTi : T i = false) (hp : pastB T ld = false) (hQ : ∀ c a w, Q (.panic c) (a.put oi.dst v) w → Q (.panic c) a w) (hy : YieldsIf P l.toArray S oi v a) (hS : S w) (h : anyT P md l.toArray Q S T f (ld.setIfInBounds i true) (a.put oi.dst v) w) : anyT P md l.toArray Q S T (f + 1) ld a w :=
  anyT_first (op_at hi) (Region.noSelect_spec hs) hT hTi hQ f ld a w (Region.free_spec (op_at hi) hf) (by simpa using hr) hp hy hS h
theorem takeP {l : List Oper} {i : Nat} {oi : Oper} {v : Value} {f : Nat} {ld : Array Bool} {a : Act} {w : World} (hi : l[i]? = some oi) (hs : Region.noSelect l.toArray = true) (hf : Region.free md l.toArray ld i = true) (hr : (Region.ready md l.toArray ld).contains i = true)
    (hTi : T i = false) (hQ : ∀ c a w, Q (.panic c) (a.put oi.dst v) w → Q (.panic c) a w) (hy : YieldsIf P l.toArray (fun _ => True) oi v a) (hS : S w) (h : anyT P md l.toArray Q S T f (ld.setIfInBounds i true) (a.put oi.dst v) w) : anyT P md l.toArray Q S T (f + 1) ld a w :=
  anyT_firstP (op_at hi) (Region.noSelect_spec hs) hTi hQ f ld a w (Region.free_spec (op_at hi) hf) (by simpa using hr) hy (.inr hS) h
/-- each of a few -/
def AllT (P : Program) (md : Region.Mode) (ops : Array Oper) (Q : Exit → Act → World → Prop) (S : World → Prop) (T : Nat → Bool) (f : Nat) (ld : Array Bool) (a : Act) (w : World) (rs : List Nat) : Prop :=
  ∀ i ∈ rs, wpOp P ops Q i (fun a' w' => (pastB T (ld.setIfInBounds i true) = true ∨ S w') ∧ anyT P md ops Q S T f (ld.setIfInBounds i true) a' w') a w
theorem anyT_all {rs : List Nat} {f : Nat} {ld : Array Bool} {a : Act} {w : World} (hr : Region.ready md ops ld = rs) (hne : rs ≠ []) (h : AllT P md ops Q S T f ld a w rs) : anyT P md ops Q S T (f + 1) ld a w :=
  ⟨fun h0 => absurd (hr ▸ h0) hne, hr ▸ h⟩
theorem AllT.nil {f : Nat} {ld : Array Bool} {a : Act} {w : World} : AllT P md ops Q S T f ld a w [] := fun _ h => by cases h
theorem consT {l : List Oper} {f : Nat} {ld : Array Bool} {a : Act} {w : World} {i : Nat} {o : Oper} {rs : List Nat} (ho : l[i]? = some o)
    (h : ∀ K' : Act → World → Prop, Shut (∀ a w, S w → (S w → anyT P md l.toArray Q S T f (ld.setIfInBounds i true) a w) → K' a w) → if Region.wanted o (yielded l.toArray a.tmps) = true then Oper.wp P o a w K' Q else K' (a.put o.dst undef) w)
    (hs : AllT P md l.toArray Q S T f ld a w rs) : AllT P md l.toArray Q S T f ld a w (i :: rs) := fun j hj => by
  rcases List.mem_cons.1 hj with rfl | hj
  · exact wpOp_step (op_at ho) (fun K' hK => h K' (fun a w hS hW => hK a w ⟨.inr hS, hW hS⟩))
  · exact hs j hj
/-- one of T, or what comes behind: it comes up alone -/
theorem lastT {l : List Oper} {f : Nat} {ld : Array Bool} {a : Act} {w : World} {i : Nat} {o : Oper} (ho : l[i]? = some o) (hT : pastB T (ld.setIfInBounds i true) = true)
    (h : ∀ K' : Act → World → Prop, Shut (∀ a w, anyT P md l.toArray Q S T f (ld.setIfInBounds i true) a w → K' a w) → if Region.wanted o (yielded l.toArray a.tmps) = true then Oper.wp P o a w K' Q else K' (a.put o.dst undef) w) : AllT P md l.toArray Q S T f ld a w [i] := fun j hj => by
  rcases List.mem_cons.1 hj with rfl | hj
  · exact wpOp_step (op_at ho) (fun K' hK => h K' (fun a w hW => hK a w ⟨.inl hT, hW⟩))
  · cases hj
theorem anyT_done {ld : Array Bool} {a : Act} {w : World} (hr : Region.ready md ops ld = []) (h : Q .normal a w) : ∀ f, anyT P md ops Q S T f ld a w
  | 0 => ⟨hr, h⟩
  | _ + 1 => ⟨fun _ => h, by rw [hr]; simp⟩
theorem region_T {id : Nat} {a : Act} {w : World} (S : World → Prop) (T : Nat → Bool) (hm : P.follows .mixedOrders = true) (h : anyT P .any ops Q S T ops.size (Array.replicate ops.size false) a w.drew) : (Code.region id ops true).wp P Q a w :=
  wp_region_any hm (any_of_T _ _ _ _ h)
end
end Go.Proofs.YtkifmhfgplhabaaDoor.HU

namespace Go.Proofs.YtkifmhfgplhabaaDoor.HQ
open Go.Proofs.YtkifmhfgplhabaaDoor.HU Go.RowKit Go.Proofs.YtkifmhfgplhabaaDoor.HK Go.Proofs.YtkifmhfgplhabaaDoor.HP Go.Proofs.YtkifmhfgplhabaaDoorW.PrintWords Go.Proofs.YtkifmhfgplhabaaDoorW.PrintLast Go.Proofs.YtkifmhfgplhabaaDoorW.PrintMore
set_option linter.unusedVariables false
set_option linter.unusedSimpArgs false
theorem infoSl : (Tryd.prog.info? 76).map (fun i => (i.zero, i.size, i.bytes)) = some (some (.agg #[.string ⟨#[]⟩, .slice none 0 0, .bool false]), 3, 48) := by kernel_rfl
theorem E62s : ∀ q, q ∈ 76 :: (k76).E → q ≠ 79 := by decide
/-- the blocks that a table writes -/
def WrG (g : Nat) (v : Value) (k : Nat) : Prop := k = g ∨ some k = v.ownBlock
section
variable {w w1 w2 w4 : World} {base g : Nat} {ok : Nat → Prop} {v : Value} {ls : List Sl} {s : ByteArray} {An : Option Addr} {cn : Nat} {l : List Int}
theorem addF_M {o : Obj} (hb2 : Below w1.heap.size w1 w2) (hb : base ≤ w.heap.size) (HB : Below w.heap.size w w1) (hR : Kd.R (Kd.int .i64) 3 w2 w1.drew.heap.size (fun _ => True) (.slice An l.length cn) l) :
    Kd.M k76 (w2.alloc o) base (fun k => w1.heap.size ≤ k ∧ k < w2.heap.size) ⟨⟨s, l⟩, false⟩ [.string s, .slice An l.length cn, .bool false] :=
  k76_mkM _ base _ (⟨⟨s, l⟩, false⟩ : Sl) (Kd.R_alloc (Kd.R_mono (Kd.R_lower (Kd.R_bound hR) (Nat.le_trans hb HB.size)) (fun k hk => ⟨hk.2.1, hk.2.2.1⟩)) _)
theorem addF_ok (hok : ∀ k, w.heap.size ≤ k → ok k) (HB : Below w.heap.size w w1) (h : Gs w base ok g v ls) : ∀ k, (w1.heap.size ≤ k ∧ k < w2.heap.size) → ok k ∧ some k ≠ v.ownBlock := fun k hk =>
  ⟨hok k (Nat.le_trans HB.size hk.1), fun he => by have h1 := Kd.Q_lt h.row k he.symm; have h2 := HB.size; have h3 := hk.1; omega⟩
theorem addF_fresh {o : Obj} (hok : ∀ k, w.heap.size ≤ k → ok k) (HB : Below w.heap.size w w1) (hb2 : Below w1.heap.size w1 w2) : ∀ k, (w2.alloc o).heap.size ≤ k → ok k := fun k hk =>
  hok k (Nat.le_trans (Nat.le_trans HB.size hb2.size) (by simp at hk; omega))
theorem addF_row (HB : Below w.heap.size w w1) (h : Gs w base ok g v ls) (hb2 : Below w1.heap.size w1 w2) (o : Obj) : Kd.Q k76 76 (w2.alloc o) base ok v ls := Kd.Q_alloc (Kd.Q_below (Kd.Q_below h.row HB) hb2) o
theorem addF_below (hb : base ≤ w.heap.size) (HB : Below w.heap.size w w1) (hb2 : Below w1.heap.size w1 w2) (o : Obj) : Below base w (w2.alloc o) := (below_alloc (below_then HB HB.size hb2) o).mono hb
theorem addF_base (hb : base ≤ w.heap.size) (HB : Below w.heap.size w w1) (hb2 : Below w1.heap.size w1 w2) (o : Obj) : base ≤ (w2.alloc o).heap.size := Nat.le_trans hb (Nat.le_trans HB.size (Nat.le_trans hb2.size (by simp)))
theorem addF_end {o : Obj} {v1 : Value} {ys : List Sl} (h : Gs w base ok g v ls) (HB : Below w.heap.size w w1) (hb2 : Below w1.heap.size w1 w2) (hrow : Kd.Q k76 76 w4 base ok v1 ys) (hbl : Below base w w4) (hgr : (w2.alloc o).grownBy w4 v.ownBlock)
    (hp : w1.heap[w.heap.size]? = some (.cells #[.string s, .slice An l.length cn] 24 (0, 0))) :
    (Gs (w4.setCell ⟨g, 0, none⟩ v1) base ok g v1 ys ∧ Kept w (w4.setCell ⟨g, 0, none⟩ v1) (WrG g v) ∧ Below base w (w4.setCell ⟨g, 0, none⟩ v1)) ∧ w4.heap[g]? = some (.cells #[v] 79 (0, 0)) ∧
      w4.cell? ⟨w.heap.size, 0, none⟩ = some (.string s) ∧ w4.cell? ⟨w.heap.size, 1, none⟩ = some (.slice An l.length cn) := by
  have h2 := ((h.below HB).below hb2).below (below_alloc (Below.refl _ _) o)
  have hgk := blk_grown h2.blk hgr (Kd.Q_ne h2.row h2.blk (by decide))
  have hp2 := blk_alloc (blk_below hp hb2) o
  have hpk := blk_grown hp2 hgr (Kd.Q_ne h2.row hp2 (by decide))
  refine ⟨⟨⟨blk_put (cs' := #[v1]) hgk 0 v1 rfl, h.hg, Kd.Q_set hrow hgk E62s 0 _⟩, ?_, hbl.setCell (p := ⟨g, 0, none⟩) h.hg _⟩, hgk, (blk_cell hpk 0).trans rfl, (blk_cell hpk 1).trans rfl⟩
  exact (((Kept.of_below (below_alloc (below_then HB HB.size hb2) o) (WrG g v)).of_grown hgr (fun k hk => .inl (.inr hk.symm))).setCell (p := ⟨g, 0, none⟩) (.inl (.inl rfl)) _)
end
theorem ret_pair {a b : Int} (h : a = b) : Ending.returned (.tuple #[.int .i64 a, .int .i64 0]) = .returned (.tuple #[.int .i64 b, .int .i64 0]) := by rw [h]
set_option maxHeartbeats 4000000 in
theorem add_ok (base : Nat) (ok : Nat → Prop) (g : Nat) (v : Value) (ls : List Sl) (s : ByteArray) (A : Option Addr) (c : Nat) (l : List Int) (w : World) (h : Gs w base ok g v ls) (hb : base ≤ w.heap.size) (hok : ∀ k, w.heap.size ≤ k → ok k)
    (hr : Kd.C (Kd.int .i64) w A l.length l) (hc : l.length ≤ c) (hl : l.length ≤ 1000) (hm : mayB l = true) (hp : 0 < ls.length) (hn : ls.length < 32) :
    Calls Tryd.prog 22 #[.pointer (some ⟨g, 0, none⟩), .agg #[.string s, .slice A l.length c]] w fun e w' => e = .returned (.tuple #[.int .i64 ls.length, .int .i64 0]) ∧ (∃ v', Gs w' base ok g v' (ls ++ [⟨⟨s, l⟩, false⟩])) ∧ Kept w w' (WrG g v) ∧ Below base w w' := by
  have HR := Aside0.mk hr
  have HS := Aside0.mk h
  have HOK0 := Aside0.mk hok
  have hb1 := below_alloc (Below.refl w.heap.size w) (.cells #[.string s, .slice A l.length c] 24)
  have HM := Aside0.mk (many_c base ok g v ls _ (h.below hb1))
  have BP := Aside0.mk (blk_new w (.cells #[.string s, .slice A l.length c] 24))
  obtain ⟨Av, cv, rfl, hlv, _⟩ := Kd.Q_reads h.row
  have hg0 : w.cell? ⟨g, 0, none⟩ = some (.slice Av ls.length cv) := (blk_cell h.blk 0).trans rfl
  have b0 : ((ls.length : Int) == 0) = false := beq_eq_false_iff_ne.2 (by omega)
  have b1 : ((ls.length : Int) == 32) = false := beq_eq_false_iff_ne.2 (by omega)
  clear hr h hok
  go_enter Tryd.func22, Tryd.ntmps22
  go_wp2_with fail
  refine HM.out.mono ?_
  rintro e w1 ⟨rfl, rfl⟩
  go_wp2_with fail
  have hp0 := (blk_cell BP.out 0).trans rfl
  have hp1 := (blk_cell BP.out 1).trans rfl
  go_wp2_with fail
  refine (may_c s A c l _ (Kd.C_below HR.out hb1) hc).mono ?_
  rintro e w1 ⟨rfl, hbx⟩
  have HB := Aside0.mk (below_then hb1 hb1.size hbx)
  have HP0 := Aside0.mk (blk_below BP.out hbx)
  have HR1 := Aside0.mk (Kd.C_below HR.out HB.out)
  have hg0 := pw_cell_below HB.out hg0
  clear hb1 hbx BP hp0 hp1
  have hp0 := (blk_cell HP0.out 0).trans rfl
  have hp1 := (blk_cell HP0.out 1).trans rfl
  rw [hm]
  go_upto_region 2 with (fail)
  refine HU.region_T (S := (fun W => W.cell? ⟨g, 0, none⟩ = some (.slice Av ls.length cv) ∧ W.cell? ⟨w.heap.size, 0, none⟩ = some (.string s) ∧ W.cell? ⟨w.heap.size, 1, none⟩ = some (.slice A l.length c))) (T := (fun k => decide (12 ≤ k))) (by kernel_rfl) ?_
  have hSw : (fun W => W.cell? ⟨g, 0, none⟩ = some (.slice Av ls.length cv) ∧ W.cell? ⟨w.heap.size, 0, none⟩ = some (.string s) ∧ W.cell? ⟨w.heap.size, 1, none⟩ = some (.slice A l.length c)) w1.drew := ⟨hg0, hp0, hp1⟩
  refine takeP (i := 0) (v := ?va1) rfl (by kernel_rfl) (by kernel_rfl) (by kernel_rfl) (by rfl) (fun _ _ _ h => h) (Or.inl ⟨by rfl, ?ha1⟩) (by assumption) ?ra1
  case ha1 => ((intro w hSw'); (try dsimp only at hSw'); go_simp; (try with_reducible rfl))
  try simp only [Act.put, List.setIfInBounds_toArray, List.set_cons_zero, List.set_cons_succ]
  refine takeP (i := 1) (v := ?va2) rfl (by kernel_rfl) (by kernel_rfl) (by kernel_rfl) (by rfl) (fun _ _ _ h => h) (Or.inl ⟨by rfl, ?ha2⟩) (by assumption) ?ra2
  case ha2 => ((intro w hSw'); (try dsimp only at hSw'); go_simp; (try with_reducible rfl))
  try simp only [Act.put, List.setIfInBounds_toArray, List.set_cons_zero, List.set_cons_succ]
  refine takeP (i := 2) (v := ?va3) rfl (by kernel_rfl) (by kernel_rfl) (by kernel_rfl) (by rfl) (fun _ _ _ h => h) (Or.inl ⟨by rfl, ?ha3⟩) (by assumption) ?ra3
  case ha3 => ((intro w hSw'); (try dsimp only at hSw'); go_simp; (try with_reducible rfl))
  try simp only [Act.put, List.setIfInBounds_toArray, List.set_cons_zero, List.set_cons_succ]
  refine takeP (i := 3) (v := ?va4) rfl (by kernel_rfl) (by kernel_rfl) (by kernel_rfl) (by rfl) (fun _ _ _ h => h) (Or.inl ⟨by rfl, ?ha4⟩) (by assumption) ?ra4
  case ha4 => ((intro w hSw'); (try dsimp only at hSw'); go_simp; (try with_reducible rfl))
  try simp only [Act.put, List.setIfInBounds_toArray, List.set_cons_zero, List.set_cons_succ]
  refine takeT (i := 4) (v := ?va5) rfl (by kernel_rfl) (by kernel_rfl) (by kernel_rfl) (by kernel_rfl) (by rfl) (by kernel_rfl) (fun _ _ _ h => h) (Or.inl ⟨by rfl, ?ha5⟩) (by assumption) ?ra5
  case ha5 => ((intro w hSw'); (try dsimp only at hSw'); go_simp; (try with_reducible rfl))
  try simp only [Act.put, List.setIfInBounds_toArray, List.set_cons_zero, List.set_cons_succ]
  refine takeT (i := 5) (v := ?va6) rfl (by kernel_rfl) (by kernel_rfl) (by kernel_rfl) (by kernel_rfl) (by rfl) (by kernel_rfl) (fun _ _ _ h => h) (Or.inl ⟨by rfl, ?ha6⟩) (by assumption) ?ra6
  case ha6 => ((intro w hSw'); (try dsimp only at hSw'); go_simp; (try with_reducible rfl))
  try simp only [Act.put, List.setIfInBounds_toArray, List.set_cons_zero, List.set_cons_succ]
  refine anyT_all (rs := [6]) (by kernel_rfl) (by simp) (consT rfl (fun K hK => ?ba7) AllT.nil)
  case ba7 =>
    go_simp; refine (own_c s A c l _ (C_drew HR1.out) hc (by omega)).mono ?_; rintro e w2 ⟨u, rfl, hR, hb2⟩; obtain ⟨An, cn, rfl, hln, _⟩ := Kd.R_reads hR; have HR2 := Aside0.mk hR; clear hR
    refine hK.out _ _ ?sa7 (fun hSw => ?ta7)
    case sa7 => (first | exact ⟨cell_alloc1 (keep_call hb2 hg0) _, cell_alloc1 (keep_call hb2 hp0) _, cell_alloc1 (keep_call hb2 hp1) _⟩ | exact ⟨keep_call hb2 hg0, keep_call hb2 hp0, keep_call hb2 hp1⟩ | exact ⟨cz, ck0, ck1⟩)
    clear hK K
    try simp only [Act.put, List.setIfInBounds_toArray, List.set_cons_zero, List.set_cons_succ]
    refine takeP (i := 7) (v := ?va8) rfl (by kernel_rfl) (by kernel_rfl) (by kernel_rfl) (by rfl) (fun _ _ _ h => h) (Or.inl ⟨by rfl, ?ha8⟩) (by assumption) ?ra8
    case ha8 => ((intro w hSw'); (try dsimp only at hSw'); go_simp; (try with_reducible rfl))
    try simp only [Act.put, List.setIfInBounds_toArray, List.set_cons_zero, List.set_cons_succ]
    refine anyT_all (rs := [8]) (by kernel_rfl) (by simp) (consT rfl (fun K hK => ?ba9) AllT.nil)
    case ba9 =>
      go_simp
      refine hK.out _ _ ?sa9 (fun hSw => ?ta9)
      case sa9 => (first | exact ⟨cell_alloc1 (keep_call hb2 hg0) _, cell_alloc1 (keep_call hb2 hp0) _, cell_alloc1 (keep_call hb2 hp1) _⟩ | exact ⟨keep_call hb2 hg0, keep_call hb2 hp0, keep_call hb2 hp1⟩ | exact ⟨cz, ck0, ck1⟩)
      clear hK K
      try simp only [Act.put, List.setIfInBounds_toArray, List.set_cons_zero, List.set_cons_succ]
      refine anyT_all (rs := [9]) (by kernel_rfl) (by simp) (consT rfl (fun K hK => ?ba10) AllT.nil)
      case ba10 =>
        refine app_one_step k76 (w0 := w) base w2.heap.size (by rfl) (.tmp 13) (.tmp 17) 77 76 (.agg #[.string ⟨#[]⟩, .slice none 0 0, .bool false]) 48 (by rfl) Tryd.underlying77 infoSl (by rfl) (by decide) (by omega) (.slice Av ls.length cv) ls ⟨⟨s, l⟩, false⟩ [.string s, .slice An l.length cn, .bool false] ok (fun k => w1.heap.size ≤ k ∧ k < w2.heap.size) (by rfl) (by rfl) (blk_new w2 _) (addF_M (below_of_drew hb2) hb HB.out HR2.out) (addF_ok HOK0.out HB.out HS.out) (addF_fresh HOK0.out HB.out (below_of_drew hb2)) (addF_row HB.out HS.out (below_of_drew hb2) _) (addF_below hb HB.out (below_of_drew hb2) _) (addF_base hb HB.out (below_of_drew hb2) _) (by omega) ?_; intro v1 w4 hrow hbl hgr hat; obtain ⟨A1, c1, rfl, hl1, _⟩ := Kd.Q_reads hrow; obtain ⟨hE, xb, ck0, ck1⟩ := addF_end HS.out HB.out (below_of_drew hb2) hrow hbl hgr HP0.out; rw [List.length_append, List.length_singleton] at hE; have HE := Aside0.mk hE; have cz := (blk_cell xb 0).trans rfl; have fz := blk_frozen xb 0; clear hE hrow hbl hgr hat
        refine hK.out _ _ ?sa10 (fun hSw => ?ta10)
        case sa10 => (first | exact ⟨cell_alloc1 (keep_call hb2 hg0) _, cell_alloc1 (keep_call hb2 hp0) _, cell_alloc1 (keep_call hb2 hp1) _⟩ | exact ⟨keep_call hb2 hg0, keep_call hb2 hp0, keep_call hb2 hp1⟩ | exact ⟨cz, ck0, ck1⟩)
        clear hK K
        try simp only [Act.put, List.setIfInBounds_toArray, List.set_cons_zero, List.set_cons_succ]
        refine takeP (i := 10) (v := ?va11) rfl (by kernel_rfl) (by kernel_rfl) (by kernel_rfl) (by rfl) (fun _ _ _ h => h) (Or.inl ⟨by rfl, ?ha11⟩) (by assumption) ?ra11
        case ha11 => ((intro w hSw'); (try dsimp only at hSw'); go_simp; (try with_reducible rfl))
        try simp only [Act.put, List.setIfInBounds_toArray, List.set_cons_zero, List.set_cons_succ]
        refine takeP (i := 11) (v := ?va12) rfl (by kernel_rfl) (by kernel_rfl) (by kernel_rfl) (by rfl) (fun _ _ _ h => h) (Or.inl ⟨by rfl, ?ha12⟩) (by assumption) ?ra12
        case ha12 => ((intro w hSw'); (try dsimp only at hSw'); go_simp; (try with_reducible rfl))
        try simp only [Act.put, List.setIfInBounds_toArray, List.set_cons_zero, List.set_cons_succ]
        refine anyT_all (rs := [12]) (by kernel_rfl) (by simp) (lastT rfl (by kernel_rfl) (fun K hK => ?_))
        go_simp
        refine hK.out _ _ ?_
        clear hK K
        try simp only [Act.put, List.setIfInBounds_toArray, List.set_cons_zero, List.set_cons_succ]
        refine anyT_done (by kernel_rfl) ?_ _
        go_wp2
        go_ret2
        exact ⟨rfl, ⟨_, HE.out.1⟩, HE.out.2⟩
end Go.Proofs.YtkifmhfgplhabaaDoor.HQ

namespace Go.Proofs.YtkifmhfgplhabaaDoor.HQ
open Go.Proofs.YtkifmhfgplhabaaDoor.HU Go.RowKit Go.Proofs.YtkifmhfgplhabaaDoor.HK Go.Proofs.YtkifmhfgplhabaaDoor.HP Go.Proofs.YtkifmhfgplhabaaDoorW.PrintWords Go.Proofs.YtkifmhfgplhabaaDoorW.PrintLast Go.Proofs.YtkifmhfgplhabaaDoorW.PrintMore
set_option linter.unusedVariables false
set_option linter.unusedSimpArgs false
def addE (l : List Int) (ls : List Sl) : Int := if mayB l = true then (if ls.length = 32 then 4 else 0) else 2
def addN (l : List Int) (ls : List Sl) : Int := if mayB l = true then (if ls.length = 32 then 0 else ls.length) else 0
def addL (s : ByteArray) (l : List Int) (ls : List Sl) : List Sl := if mayB l = true then (if ls.length = 32 then ls else ls ++ [⟨⟨s, l⟩, false⟩]) else ls
theorem add_bad (base : Nat) (ok : Nat → Prop) (g : Nat) (v : Value) (ls : List Sl) (s : ByteArray) (A : Option Addr) (c : Nat) (l : List Int) (w : World) (h : Gs w base ok g v ls)
    (hr : Kd.C (Kd.int .i64) w A l.length l) (hc : l.length ≤ c) (hm : mayB l = false) (hp : 0 < ls.length) :
    Calls Tryd.prog 22 #[.pointer (some ⟨g, 0, none⟩), .agg #[.string s, .slice A l.length c]] w fun e w' => e = .returned (.tuple #[.int .i64 0, .int .i64 2]) ∧ Below w.heap.size w w' := by
  have HR := Aside0.mk hr
  have hb1 := below_alloc (Below.refl w.heap.size w) (.cells #[.string s, .slice A l.length c] 24)
  have HM := Aside0.mk (many_c base ok g v ls _ (h.below hb1))
  have b0 : ((ls.length : Int) == 0) = false := beq_eq_false_iff_ne.2 (by omega)
  have hmax := h.max
  clear hr h
  go_enter Tryd.func22, Tryd.ntmps22
  go_wp2_with fail
  refine HM.out.mono ?_
  rintro e w1 ⟨rfl, rfl⟩
  go_wp2_with fail
  refine (may_c s A c l _ (Kd.C_below HR.out hb1) hc).mono ?_
  rintro e w1 ⟨rfl, hbx⟩
  have HB := Aside0.mk (below_then hb1 hb1.size hbx)
  clear hb1 hbx
  rw [hm]
  go_wp2
  go_ret2
  exact ⟨rfl, HB.out⟩
theorem add_full (base : Nat) (ok : Nat → Prop) (g : Nat) (v : Value) (ls : List Sl) (s : ByteArray) (A : Option Addr) (c : Nat) (l : List Int) (w : World) (h : Gs w base ok g v ls)
    (hr : Kd.C (Kd.int .i64) w A l.length l) (hc : l.length ≤ c) (hm : mayB l = true) (hn : ls.length = 32) :
    Calls Tryd.prog 22 #[.pointer (some ⟨g, 0, none⟩), .agg #[.string s, .slice A l.length c]] w fun e w' => e = .returned (.tuple #[.int .i64 0, .int .i64 4]) ∧ Below w.heap.size w w' := by
  have HR := Aside0.mk hr
  have hb1 := below_alloc (Below.refl w.heap.size w) (.cells #[.string s, .slice A l.length c] 24)
  have HM := Aside0.mk (many_c base ok g v ls _ (h.below hb1))
  rw [hn] at HM
  clear hr h
  go_enter Tryd.func22, Tryd.ntmps22
  go_wp2_with fail
  refine HM.out.mono ?_
  rintro e w1 ⟨rfl, rfl⟩
  go_wp2_with fail
  refine (may_c s A c l _ (Kd.C_below HR.out hb1) hc).mono ?_
  rintro e w1 ⟨rfl, hbx⟩
  have HB := Aside0.mk (below_then hb1 hb1.size hbx)
  clear hb1 hbx
  rw [hm]
  go_wp2
  go_ret2
  exact ⟨rfl, HB.out⟩
theorem add_any (base : Nat) (ok : Nat → Prop) (g : Nat) (v : Value) (ls : List Sl) (s : ByteArray) (A : Option Addr) (c : Nat) (l : List Int) (w : World) (h : Gs w base ok g v ls) (hb : base ≤ w.heap.size) (hok : ∀ k, w.heap.size ≤ k → ok k)
    (hr : Kd.C (Kd.int .i64) w A l.length l) (hc : l.length ≤ c) (hl : l.length ≤ 1000) (hp : 0 < ls.length) (hn : ls.length ≤ 32) :
    Calls Tryd.prog 22 #[.pointer (some ⟨g, 0, none⟩), .agg #[.string s, .slice A l.length c]] w fun e w' => e = .returned (.tuple #[.int .i64 (addN l ls), .int .i64 (addE l ls)]) ∧ (∃ v', Gs w' base ok g v' (addL s l ls)) ∧ Kept w w' (WrG g v) ∧ Below base w w' := by
  unfold addN addE addL
  by_cases hm : mayB l = true
  · rw [if_pos hm, if_pos hm, if_pos hm]
    by_cases h32 : ls.length = 32
    · rw [if_pos h32, if_pos h32, if_pos h32]
      refine (add_full base ok g v ls s A c l w h hr hc hm h32).mono ?_
      rintro e w' ⟨rfl, hbl⟩
      exact ⟨rfl, ⟨v, h.below hbl⟩, Kept.of_below hbl _, hbl.mono hb⟩
    · rw [if_neg h32, if_neg h32, if_neg h32]
      exact add_ok base ok g v ls s A c l w h hb hok hr hc hl hm hp (by omega)
  · rw [if_neg hm, if_neg hm, if_neg hm]
    refine (add_bad base ok g v ls s A c l w h hr hc (by simpa using hm) hp).mono ?_
    rintro e w' ⟨rfl, hbl⟩
    exact ⟨rfl, ⟨v, h.below hbl⟩, Kept.of_below hbl _, hbl.mono hb⟩
end Go.Proofs.YtkifmhfgplhabaaDoor.HQ

namespace Go.Proofs.YtkifmhfgplhabaaDoor.HQ
open Go.Proofs.YtkifmhfgplhabaaDoor.HU Go.RowKit Go.Proofs.YtkifmhfgplhabaaDoor.HK Go.Proofs.YtkifmhfgplhabaaDoor.HP Go.Proofs.YtkifmhfgplhabaaDoorW.PrintWords Go.Proofs.YtkifmhfgplhabaaDoorW.PrintLast Go.Proofs.YtkifmhfgplhabaaDoorW.PrintMore
set_option linter.unusedVariables false
set_option linter.unusedSimpArgs false
theorem index_loop (l : List Int) (x : Int) (hl : l.length ≤ 1000) (r : Int) (hr : (r = -1 ∧ ∀ j : Nat, j < l.length → rd l (j : Int) ≠ x) ∨ ∃ m : Nat, r = m ∧ m < l.length ∧ rd l (m : Int) = x ∧ ∀ j : Nat, j < m → rd l (j : Int) ≠ x) :
    ∀ n i, n = l.length - i → i ≤ l.length → (∀ m : Nat, r = m → i ≤ m) → Ev (fun k => Qgnbase.slices_Index_int_int.l0 k l x (l.length : Int) (i : Int)) r := by
  intro n
  induction n with
  | zero =>
    intro i hn hi hm
    refine Ev.round ?_ (fun k => by simp only [Qgnbase.slices_Index_int_int.l0]; rfl)
    refine Ev.neg (by omega) ?_
    rcases hr with ⟨rfl, _⟩ | ⟨m, rfl, h1, _⟩
    · exact Ev.const rfl
    · have := hm m rfl; omega
  | succ n ih =>
    intro i hn hi hm
    refine Ev.round ?_ (fun k => by simp only [Qgnbase.slices_Index_int_int.l0]; rfl)
    refine Ev.pos (by omega) ?_
    refine Ev.pos (by omega) ?_
    refine Ev.pos (by omega) ?_
    by_cases he : x = rd l (i : Int)
    · refine Ev.pos he ?_
      rcases hr with ⟨rfl, h⟩ | ⟨m, rfl, h1, h2, h3⟩
      · exact absurd he.symm (h i (by omega))
      · have h4 := hm m rfl
        have : i = m := by
          rcases Nat.lt_or_ge i m with h5 | h5
          · exact absurd he.symm (h3 i h5)
          · omega
        exact Ev.const (by rw [this])
    · refine Ev.neg he ?_
      rw [wrap64_nat i (by omega)]
      refine ih (i + 1) (by omega) (by omega) (fun m hmm => ?_)
      have h4 := hm m hmm
      rcases hr with ⟨h5, _⟩ | ⟨m', h5, _, h6, _⟩
      · omega
      · have : m = m' := by omega
        subst this
        rcases Nat.lt_or_ge i m with h7 | h7
        · exact h7
        · have : i = m := by omega
          subst this
          exact absurd h6.symm he
/-- where a rank stands -/
def posI (l : List Int) (x : Int) : Option Nat := l.findIdx? (fun y => decide (y = x))
theorem posI_some {l : List Int} {x : Int} {m : Nat} (h : posI l x = some m) : m < l.length ∧ rd l (m : Int) = x ∧ ∀ j : Nat, j < m → rd l (j : Int) ≠ x := by
  obtain ⟨h1, h2, h3⟩ := List.findIdx?_eq_some_iff_getElem.1 h
  refine ⟨h1, ?_, fun j hj => ?_⟩
  · rw [rd_lt h1]; simpa using h2
  · rw [rd_lt (by omega)]; simpa using h3 j hj
theorem posI_none {l : List Int} {x : Int} (h : posI l x = none) : ∀ j : Nat, j < l.length → rd l (j : Int) ≠ x := by
  intro j hj
  rw [rd_lt hj]
  have := List.findIdx?_eq_none_iff.1 h _ (List.getElem_mem hj)
  simpa using this
theorem number_c (s : ByteArray) (A : Option Addr) (c : Nat) (l : List Int) (x : Int) (w : World) (hr : Kd.C (Kd.int .i64) w A l.length l) (hc : l.length ≤ c) (hl : l.length ≤ 1000) :
    Calls Tryd.prog 19 #[.agg #[.string s, .slice A l.length c], .int .i64 x] w fun e w' => e = .returned (.tuple #[.int .i64 (((posI l x).getD 0 : Nat) : Int), .bool (posI l x).isSome]) ∧ Below w.heap.size w w' := by
  cases hp : posI l x with
  | some m =>
    obtain ⟨h1, h2, h3⟩ := posI_some hp
    obtain ⟨K, hK⟩ := (index_loop l x hl (m : Int) (.inr ⟨m, rfl, h1, h2, h3⟩) l.length 0 rfl (Nat.zero_le _) (fun _ _ => Nat.zero_le _)).rounds
    exact Qgnbase.group_Number.calls K s A c l x (m : Int) true w hr hc (by unfold Qgnbase.group_Number.f Qgnbase.slices_Index_int_int.f; rw [show ((0 : Nat) : Int) = 0 from rfl] at hK; rw [hK]; simp [mx]; omega)
  | none =>
    obtain ⟨K, hK⟩ := (index_loop l x hl (-1) (.inl ⟨rfl, posI_none hp⟩) l.length 0 rfl (Nat.zero_le _) (fun m hm => by omega)).rounds
    exact Qgnbase.group_Number.calls K s A c l x 0 false w hr hc (by unfold Qgnbase.group_Number.f Qgnbase.slices_Index_int_int.f; rw [show ((0 : Nat) : Int) = 0 from rfl] at hK; rw [hK]; rfl)
theorem rank_c (s : ByteArray) (A : Option Addr) (c : Nat) (l : List Int) (n : Int) (w : World) (hr : Kd.C (Kd.int .i64) w A l.length l) (hc : l.length ≤ c) :
    Calls Tryd.prog 20 #[.agg #[.string s, .slice A l.length c], .int .i64 n] w fun e w' => e = .returned (.tuple #[.int .i64 (if 0 ≤ n ∧ n < l.length then rd l n else 0), .bool (decide (0 ≤ n ∧ n < l.length))]) ∧ Below w.heap.size w w' := by
  by_cases h : 0 ≤ n ∧ n < l.length
  · rw [if_pos h, decide_eq_true h]
    exact Qgnbase.group_Rank.calls s A c l n _ true w hr hc (by unfold Qgnbase.group_Rank.f; rw [if_neg (by omega), if_neg (by omega), if_pos h.1, if_pos h.2])
  · rw [if_neg h, decide_eq_false h]
    refine Qgnbase.group_Rank.calls s A c l n 0 false w hr hc ?_
    unfold Qgnbase.group_Rank.f
    by_cases h0 : n < 0
    · rw [if_pos h0]
    · rw [if_neg h0, if_pos (by omega)]
theorem great_c (s : ByteArray) (A : Option Addr) (c : Nat) (l : List Int) (w : World) (hr : Kd.C (Kd.int .i64) w A l.length l) (hc : l.length ≤ c) :
    Calls Tryd.prog 9 #[.agg #[.string s, .slice A l.length c]] w fun e w' => e = .returned (.bool (decide (80 < l.length ∨ 200 < s.size))) ∧ Below w.heap.size w w' := by
  refine Qgnbase.dispatcherlaw11_Great.calls s A c l _ w hr hc ?_
  unfold Qgnbase.dispatcherlaw11_Great.f
  by_cases h : (l.length : Int) > 80
  · rw [if_pos h, decide_eq_true (.inl (by omega))]
  · rw [if_neg h]
    congr 1
    refine decide_eq_decide.2 ?_
    omega
theorem rd_inj {l : List Int} (h : l.Nodup) {i j : Nat} (hi : i < l.length) (hj : j < l.length) (he : rd l (i : Int) = rd l (j : Int)) : i = j := by
  rw [rd_lt hi, rd_lt hj] at he
  have hp := List.pairwise_iff_getElem.1 h
  rcases Nat.lt_trichotomy i j with h1 | h1 | h1
  · exact absurd he (hp i j hi hj h1)
  · exact h1
  · exact absurd he.symm (hp j i hj hi h1)
set_option maxRecDepth 100000 in
set_option maxHeartbeats 8000000 in
theorem round_c (s : ByteArray) (A : Option Addr) (c : Nat) (l : List Int) (n : Int) (w : World) (hr : Kd.C (Kd.int .i64) w A l.length l) (hc : l.length ≤ c) (ht : Tab w) :
    Calls Tryd.prog 7 #[.agg #[.string s, .slice A l.length c], .int .i64 n] w fun e w' => e = .returned (.bool true) ∧ Below w.heap.size w w' := by
  have b0 := blk_new w (.cells #[.string s, .slice A l.length c] 24)
  have hba := below_alloc (Below.refl w.heap.size w) (.cells #[.string s, .slice A l.length c] 24)
  have HB0 := Aside0.mk hba
  have HT0 := Aside0.mk (ht.after hba)
  have HR0 := Aside0.mk (Kd.C_below hr hba)
  have p0 : (w.alloc (.cells #[.string s, .slice A l.length c] 24)).cell? ⟨w.heap.size, 0, none⟩ = some (.string s) := (blk_cell b0 0).trans rfl
  have p1 : (w.alloc (.cells #[.string s, .slice A l.length c] 24)).cell? ⟨w.heap.size, 1, none⟩ = some (.slice A l.length c) := (blk_cell b0 1).trans rfl
  clear hr ht hba b0
  go_enter Tryd.func7, Tryd.ntmps7
  go_wp2_with fail
  generalize (w.alloc (.cells #[.string s, .slice A l.length c] 24)) = w1 at p0 p1 HB0 HT0 HR0 ⊢
  refine (awake_c w1 HT0.out).mono ?_
  rintro e w2 ⟨rfl, hb⟩
  have HB2 := Aside0.mk (below_then HB0.out HB0.out.size hb)
  have HR2 := Aside0.mk (Kd.C_below HR0.out hb)
  have q0 := pw_cell_below hb p0
  have q1 := pw_cell_below hb p1
  clear hb HB0 HT0 HR0 p0 p1
  go_wp2_with fail
  refine (great_c s A c l w2 HR2.out hc).mono ?_
  rintro e w3 ⟨rfl, hb⟩
  have HB3 := Aside0.mk (below_then HB2.out HB2.out.size hb)
  have HR3 := Aside0.mk (Kd.C_below HR2.out hb)
  have r0 := pw_cell_below hb q0
  have r1 := pw_cell_below hb q1
  clear hb HB2 HR2 q0 q1
  by_cases hg : 80 < l.length ∨ 200 < s.size
  · have dg : decide (80 < l.length ∨ 200 < s.size) = true := decide_eq_true hg
    rw [dg]
    clear hg dg
    go_wp2
    go_ret
    exact ⟨rfl, HB3.out⟩
  · have dg : decide (80 < l.length ∨ 200 < s.size) = false := decide_eq_false hg
    rw [dg]
    have hl80 : l.length ≤ 80 := by omega
    clear hg dg
    go_wp2_with fail
    refine (may_c s A c l w3 HR3.out hc).mono ?_
    rintro e w4 ⟨rfl, hb⟩
    have HB4 := Aside0.mk (below_then HB3.out HB3.out.size hb)
    have HR4 := Aside0.mk (Kd.C_below HR3.out hb)
    have s0 := pw_cell_below hb r0
    have s1 := pw_cell_below hb r1
    clear hb HB3 HR3 r0 r1
    cases hm : mayB l with
    | false =>
      go_wp2
      go_ret
      exact ⟨rfl, HB4.out⟩
    | true =>
      have hmay : MayG l := of_decide_eq_true hm
      have HND := Aside0.mk hmay.2.2
      clear hm hmay
      have HRK := Aside0.mk (rank_c s A c l n w4 HR4.out hc)
      by_cases hn : 0 ≤ n ∧ n < (l.length : Int)
      · rw [if_pos hn, decide_eq_true hn] at HRK
        obtain ⟨n0, rfl⟩ : ∃ n0 : Nat, n = n0 := ⟨n.toNat, by omega⟩
        have hn0 : n0 < l.length := by omega
        have hp := posI_none (l := l) (x := rd l (n0 : Int))
        have hpos : posI l (rd l (n0 : Int)) = some n0 := by
          cases hq : posI l (rd l (n0 : Int)) with
          | none => exact absurd rfl (posI_none hq n0 hn0)
          | some m =>
            obtain ⟨h1, h2, _⟩ := posI_some hq
            rw [rd_inj HND.out h1 hn0 h2]
        obtain ⟨f1, f2⟩ := hn
        clear hp
        go_wp2_with fail
        refine HRK.out.mono ?_
        rintro e w5 ⟨rfl, hb⟩
        have HB5 := Aside0.mk (below_then HB4.out HB4.out.size hb)
        have HR5 := Aside0.mk (Kd.C_below HR4.out hb)
        have t0 := pw_cell_below hb s0
        have t1 := pw_cell_below hb s1
        have HNM := Aside0.mk (number_c s A c l (rd l (n0 : Int)) w5 HR5.out hc (by omega))
        rw [hpos] at HNM
        clear hb HB4 HR4 s0 s1 HRK hpos
        generalize rd l (n0 : Int) = r at HNM ⊢
        go_wp2_with fail
        refine HNM.out.mono ?_
        rintro e w6 ⟨rfl, hb⟩
        have HB6 := Aside0.mk (below_then HB5.out HB5.out.size hb)
        have HR6 := Aside0.mk (Kd.C_below HR5.out hb)
        have u0 := pw_cell_below hb t0
        have u1 := pw_cell_below hb t1
        clear hb HB5 HR5 t0 t1 HNM
        rw [show ((some n0).getD 0 : Nat) = n0 from rfl, show (some n0).isSome = true from rfl]
        have HNN := Aside0.mk (number_c s A c l (n0 : Int) w6 HR6.out hc (by omega))
        cases hq : posI l (n0 : Int) with
        | some m =>
          obtain ⟨h1, h2, _⟩ := posI_some hq
          rw [hq] at HNN
          have HRM := Aside0.mk (fun (W : World) (hR : Kd.C (Kd.int .i64) W A l.length l) => rank_c s A c l (m : Int) W hR hc)
          rw [if_pos (show 0 ≤ (m : Int) ∧ (m : Int) < l.length by omega), decide_eq_true (show 0 ≤ (m : Int) ∧ (m : Int) < l.length by omega), h2] at HRM
          clear hq h1 h2
          go_wp2_with fail
          refine HNN.out.mono ?_
          rintro e w7 ⟨rfl, hb⟩
          have HB7 := Aside0.mk (below_then HB6.out HB6.out.size hb)
          have HR7 := Aside0.mk (Kd.C_below HR6.out hb)
          have v0 := pw_cell_below hb u0
          have v1 := pw_cell_below hb u1
          clear hb HB6 HR6 u0 u1 HNN
          rw [show ((some m).getD 0 : Nat) = m from rfl, show (some m).isSome = true from rfl]
          go_wp2_with fail
          refine (HRM.out w7 HR7.out).mono ?_
          rintro e w8 ⟨rfl, hb⟩
          have HB8 := Aside0.mk (below_then HB7.out HB7.out.size hb)
          clear hb HB7 HR7 v0 v1 HRM
          go_wp2
          go_ret
          exact ⟨by first | rfl | (simp; done), HB8.out⟩
        | none =>
          have HNO := Aside0.mk (posI_none hq)
          rw [hq] at HNN
          clear hq
          go_wp2_with fail
          refine HNN.out.mono ?_
          rintro e w7 ⟨rfl, hb⟩
          have HB7 := Aside0.mk (below_then HB6.out HB6.out.size hb)
          have HR7 := Aside0.mk (Kd.C_below HR6.out hb)
          have v0 := pw_cell_below hb u0
          have v1 := pw_cell_below hb u1
          clear hb HB6 HR6 u0 u1 HNN
          rw [show (none : Option Nat).isSome = false from rfl]
          go_wp2_with fail
          go_loopw [13] (fun v13 wr => ∃ i : Nat, i ≤ l.length ∧ v13 = .int .i64 i ∧ wr = w7) (fun v13 _ => l.length - (intOf v13).toNat)
          case atStart => exact ⟨0, by omega, rfl, rfl⟩
          case round =>
            obtain ⟨i, hi, rfl, hw⟩ := hrel
            subst hw
            by_cases hin : i < l.length
            · have hi64 : IntKind.i64.wrap ((i : Int) + 1) = (i : Int) + 1 := i64w (by omega) (by omega)
              have hii : (i : Int) < (l.length : Int) := by omega
              obtain ⟨aR, hAR, x0⟩ := Kd.at_int HR7.out (i : Int) (by omega) (by omega)
              rw [Int.toNat_natCast] at x0
              subst hAR
              have hne := HNO.out i hin
              generalize rd l (i : Int) = y at x0 hne
              have hbe : (y == (n0 : Int)) = false := beq_eq_false_iff_ne.2 hne
              go_wp2
              exact ⟨⟨i + 1, by omega, by go_num, by first | rfl | trivial⟩, by simp [intOf]; omega⟩
            · obtain rfl : i = l.length := by omega
              go_wp2
              go_ret
              exact ⟨rfl, HB7.out⟩
      · rw [if_neg hn, decide_eq_false hn] at HRK
        have dn : ∀ a b : Bool, (a = decide (n ≥ 0)) → (b = decide (n < (l.length : Int))) → a = true → b = false := fun a b h1 h2 h3 => by
          rw [h2]
          refine decide_eq_false (fun h4 => hn ⟨?_, h4⟩)
          rw [h1] at h3
          exact of_decide_eq_true h3
        by_cases h0 : 0 ≤ n
        · have h1 : ¬ n < (l.length : Int) := fun h => hn ⟨h0, h⟩
          clear hn dn
          go_wp2_with fail
          refine HRK.out.mono ?_
          rintro e w5 ⟨rfl, hb⟩
          have HB5 := Aside0.mk (below_then HB4.out HB4.out.size hb)
          have HR5 := Aside0.mk (Kd.C_below HR4.out hb)
          have t0 := pw_cell_below hb s0
          have t1 := pw_cell_below hb s1
          clear hb HB4 HR4 s0 s1 HRK
          have HNN := Aside0.mk (number_c s A c l n w5 HR5.out hc (by omega))
          cases hq : posI l n with
          | some m =>
            obtain ⟨h1, h2, _⟩ := posI_some hq
            rw [hq] at HNN
            have HRM := Aside0.mk (fun (W : World) (hR : Kd.C (Kd.int .i64) W A l.length l) => rank_c s A c l (m : Int) W hR hc)
            rw [if_pos (show 0 ≤ (m : Int) ∧ (m : Int) < l.length by omega), decide_eq_true (show 0 ≤ (m : Int) ∧ (m : Int) < l.length by omega), h2] at HRM
            clear hq h1 h2
            go_wp2_with fail
            refine HNN.out.mono ?_
            rintro e w7 ⟨rfl, hb⟩
            have HB7 := Aside0.mk (below_then HB5.out HB5.out.size hb)
            have HR7 := Aside0.mk (Kd.C_below HR5.out hb)
            have v0 := pw_cell_below hb t0
            have v1 := pw_cell_below hb t1
            clear hb HB5 HR5 t0 t1 HNN
            rw [show ((some m).getD 0 : Nat) = m from rfl, show (some m).isSome = true from rfl]
            go_wp2_with fail
            refine (HRM.out w7 HR7.out).mono ?_
            rintro e w8 ⟨rfl, hb⟩
            have HB8 := Aside0.mk (below_then HB7.out HB7.out.size hb)
            clear hb HB7 HR7 v0 v1 HRM
            go_wp2
            go_ret
            exact ⟨by first | rfl | (simp; done), HB8.out⟩
          | none =>
            have HNO := Aside0.mk (posI_none hq)
            rw [hq] at HNN
            clear hq
            go_wp2_with fail
            refine HNN.out.mono ?_
            rintro e w7 ⟨rfl, hb⟩
            have HB7 := Aside0.mk (below_then HB5.out HB5.out.size hb)
            have HR7 := Aside0.mk (Kd.C_below HR5.out hb)
            have v0 := pw_cell_below hb t0
            have v1 := pw_cell_below hb t1
            clear hb HB5 HR5 t0 t1 HNN
            rw [show (none : Option Nat).isSome = false from rfl]
            go_wp2_with fail
            go_loopw [13] (fun v13 wr => ∃ i : Nat, i ≤ l.length ∧ v13 = .int .i64 i ∧ wr = w7) (fun v13 _ => l.length - (intOf v13).toNat)
            case atStart => exact ⟨0, by omega, rfl, rfl⟩
            case round =>
              obtain ⟨i, hi, rfl, hw⟩ := hrel
              subst hw
              by_cases hin : i < l.length
              · have hi64 : IntKind.i64.wrap ((i : Int) + 1) = (i : Int) + 1 := i64w (by omega) (by omega)
                have hii : (i : Int) < (l.length : Int) := by omega
                obtain ⟨aR, hAR, x0⟩ := Kd.at_int HR7.out (i : Int) (by omega) (by omega)
                rw [Int.toNat_natCast] at x0
                subst hAR
                have hne := HNO.out i hin
                generalize rd l (i : Int) = y at x0 hne
                have hbe : (y == n) = false := beq_eq_false_iff_ne.2 hne
                go_wp2
                exact ⟨⟨i + 1, by omega, by go_num, by first | rfl | trivial⟩, by simp [intOf]; omega⟩
              · obtain rfl : i = l.length := by omega
                go_wp2
                go_ret
                exact ⟨rfl, HB7.out⟩
        · clear hn dn
          go_wp2_with fail
          refine HRK.out.mono ?_
          rintro e w5 ⟨rfl, hb⟩
          have HB5 := Aside0.mk (below_then HB4.out HB4.out.size hb)
          have HR5 := Aside0.mk (Kd.C_below HR4.out hb)
          have t0 := pw_cell_below hb s0
          have t1 := pw_cell_below hb s1
          clear hb HB4 HR4 s0 s1 HRK
          have HNN := Aside0.mk (number_c s A c l n w5 HR5.out hc (by omega))
          cases hq : posI l n with
          | some m =>
            obtain ⟨h1, h2, _⟩ := posI_some hq
            rw [hq] at HNN
            have HRM := Aside0.mk (fun (W : World) (hR : Kd.C (Kd.int .i64) W A l.length l) => rank_c s A c l (m : Int) W hR hc)
            rw [if_pos (show 0 ≤ (m : Int) ∧ (m : Int) < l.length by omega), decide_eq_true (show 0 ≤ (m : Int) ∧ (m : Int) < l.length by omega), h2] at HRM
            clear hq h1 h2
            go_wp2_with fail
            refine HNN.out.mono ?_
            rintro e w7 ⟨rfl, hb⟩
            have HB7 := Aside0.mk (below_then HB5.out HB5.out.size hb)
            have HR7 := Aside0.mk (Kd.C_below HR5.out hb)
            have v0 := pw_cell_below hb t0
            have v1 := pw_cell_below hb t1
            clear hb HB5 HR5 t0 t1 HNN
            rw [show ((some m).getD 0 : Nat) = m from rfl, show (some m).isSome = true from rfl]
            go_wp2_with fail
            refine (HRM.out w7 HR7.out).mono ?_
            rintro e w8 ⟨rfl, hb⟩
            have HB8 := Aside0.mk (below_then HB7.out HB7.out.size hb)
            clear hb HB7 HR7 v0 v1 HRM
            go_wp2
            go_ret
            exact ⟨by first | rfl | (simp; done), HB8.out⟩
          | none =>
            have HNO := Aside0.mk (posI_none hq)
            rw [hq] at HNN
            clear hq
            go_wp2_with fail
            refine HNN.out.mono ?_
            rintro e w7 ⟨rfl, hb⟩
            have HB7 := Aside0.mk (below_then HB5.out HB5.out.size hb)
            have HR7 := Aside0.mk (Kd.C_below HR5.out hb)
            have v0 := pw_cell_below hb t0
            have v1 := pw_cell_below hb t1
            clear hb HB5 HR5 t0 t1 HNN
            rw [show (none : Option Nat).isSome = false from rfl]
            go_wp2_with fail
            go_loopw [13] (fun v13 wr => ∃ i : Nat, i ≤ l.length ∧ v13 = .int .i64 i ∧ wr = w7) (fun v13 _ => l.length - (intOf v13).toNat)
            case atStart => exact ⟨0, by omega, rfl, rfl⟩
            case round =>
              obtain ⟨i, hi, rfl, hw⟩ := hrel
              subst hw
              by_cases hin : i < l.length
              · have hi64 : IntKind.i64.wrap ((i : Int) + 1) = (i : Int) + 1 := i64w (by omega) (by omega)
                have hii : (i : Int) < (l.length : Int) := by omega
                obtain ⟨aR, hAR, x0⟩ := Kd.at_int HR7.out (i : Int) (by omega) (by omega)
                rw [Int.toNat_natCast] at x0
                subst hAR
                have hne := HNO.out i hin
                generalize rd l (i : Int) = y at x0 hne
                have hbe : (y == n) = false := beq_eq_false_iff_ne.2 hne
                go_wp2
                exact ⟨⟨i + 1, by omega, by go_num, by first | rfl | trivial⟩, by simp [intOf]; omega⟩
              · obtain rfl : i = l.length := by omega
                go_wp2
                go_ret
                exact ⟨rfl, HB7.out⟩
end Go.Proofs.YtkifmhfgplhabaaDoor.HQ

namespace Go.Proofs.YtkifmhfgplhabaaDoor.HQ
open Go.Proofs.YtkifmhfgplhabaaDoor.HU Go.RowKit Go.Proofs.YtkifmhfgplhabaaDoor.HK Go.Proofs.YtkifmhfgplhabaaDoor.HP Go.Proofs.YtkifmhfgplhabaaDoorW.PrintWords Go.Proofs.YtkifmhfgplhabaaDoorW.PrintLast Go.Proofs.YtkifmhfgplhabaaDoorW.PrintMore
set_option linter.unusedVariables false
set_option linter.unusedSimpArgs false
set_option maxRecDepth 100000 in
set_option maxHeartbeats 4000000 in
theorem split_bad (s : ByteArray) (A : Option Addr) (c : Nat) (ranks : List Int) (k : Int) (A2 : Option Addr) (n2 c2 : Nat) (w : World) (hr : Kd.C (Kd.int .i64) w A ranks.length ranks) (hc : ranks.length ≤ c) (hbad : mayB ranks = false ∨ k < 0 ∨ n2 ≠ ranks.length) :
    Calls Tryd.prog 13 #[.agg #[.string s, .slice A ranks.length c], .int .i64 k, .slice A2 n2 c2] w fun e w' => e = .returned (.tuple #[.slice none 0 0, .int .i64 2]) ∧ Below w.heap.size w w' := by
  have b0 := blk_new w (.cells #[.string s, .slice A ranks.length c] 24)
  have hba := below_alloc (Below.refl w.heap.size w) (.cells #[.string s, .slice A ranks.length c] 24)
  have HB0 := Aside0.mk hba
  have HR0 := Aside0.mk (Kd.C_below hr hba)
  have HMY := Aside0.mk (may_c s A c ranks (w.alloc (.cells #[.string s, .slice A ranks.length c] 24)) HR0.out hc)
  have p0 : (w.alloc (.cells #[.string s, .slice A ranks.length c] 24)).cell? ⟨w.heap.size, 0, none⟩ = some (.string s) := (blk_cell b0 0).trans rfl
  have p1 : (w.alloc (.cells #[.string s, .slice A ranks.length c] 24)).cell? ⟨w.heap.size, 1, none⟩ = some (.slice A ranks.length c) := (blk_cell b0 1).trans rfl
  clear hr hba b0
  go_enter Tryd.func13, Tryd.ntmps13
  go_wp2_with fail
  generalize (w.alloc (.cells #[.string s, .slice A ranks.length c] 24)) = w1 at p0 p1 HB0 HR0 HMY ⊢
  refine HMY.out.mono ?_
  rintro e w2 ⟨rfl, hb⟩
  have HB2 := Aside0.mk (below_then HB0.out HB0.out.size hb)
  have q0 := pw_cell_below hb p0
  have q1 := pw_cell_below hb p1
  clear hb HMY HB0 HR0 p0 p1
  cases hm : mayB ranks with
  | false =>
    clear hbad
    go_wp2
    go_ret2
    exact ⟨rfl, HB2.out⟩
  | true =>
    by_cases hk : k < 0
    · clear hbad
      go_wp2
      go_ret2
      exact ⟨rfl, HB2.out⟩
    · have hne : ((n2 : Int) != (ranks.length : Int)) = true := by
        have : n2 ≠ ranks.length := by
          rcases hbad with h | h | h
          · rw [hm] at h; cases h
          · exact absurd h hk
          · exact h
        rw [bne, beq_eq_false_iff_ne.2 (fun h => this (by omega))]
        rfl
      clear hbad
      go_wp2
      go_ret2
      exact ⟨rfl, HB2.out⟩
end Go.Proofs.YtkifmhfgplhabaaDoor.HQ

namespace Go.Proofs.YtkifmhfgplhabaaDoor.HQ
open Go.Proofs.YtkifmhfgplhabaaDoor.HU Go.RowKit Go.Proofs.YtkifmhfgplhabaaDoor.HK Go.Proofs.YtkifmhfgplhabaaDoor.HP Go.Proofs.YtkifmhfgplhabaaDoorW.PrintWords Go.Proofs.YtkifmhfgplhabaaDoorW.PrintLast Go.Proofs.YtkifmhfgplhabaaDoorW.PrintMore
set_option linter.unusedVariables false
set_option linter.unusedSimpArgs false
/-! ## digits -/
def valD (l : List UInt8) : Nat := l.foldl (fun a d => 10 * a + (d.toNat - 48)) 0
theorem valD_snoc (l : List UInt8) (d : UInt8) : valD (l ++ [d]) = 10 * valD l + (d.toNat - 48) := by simp [valD]
theorem dig_nat {n : Nat} (h : n < 10) : (UInt8.ofNat (48 + n)).toNat = 48 + n := by
  rw [UInt8.toNat_ofNat']
  omega
theorem dec_val (n : Nat) : valD (Lib.decDigits n) = n := by
  induction n using Nat.strongRecOn with
  | ind n ih =>
    by_cases h : n < 10
    · rw [dec_small h]
      show 10 * 0 + ((UInt8.ofNat (48 + n)).toNat - 48) = n
      rw [dig_nat h]
      omega
    · have h2 : n % 10 < 10 := Nat.mod_lt _ (by omega)
      rw [dec_big h, dec_small h2, valD_snoc, ih (n / 10) (by omega), dig_nat h2]
      omega
theorem dec_no (n : Nat) : (58 : UInt8) ∉ Lib.decDigits n := by
  induction n using Nat.strongRecOn with
  | ind n ih =>
    have key : ∀ m, m < 10 → (58 : UInt8) ≠ UInt8.ofNat (48 + m) := fun m hm he => by
      have := congrArg UInt8.toNat he
      rw [dig_nat hm] at this
      have h58 : (58 : UInt8).toNat = 58 := rfl
      omega
    by_cases h : n < 10
    · rw [dec_small h]
      intro hm
      exact key n h (List.mem_singleton.1 hm)
    · have h2 : n % 10 < 10 := Nat.mod_lt _ (by omega)
      rw [dec_big h, dec_small h2]
      intro hm
      rcases List.mem_append.1 hm with hm | hm
      · exact ih (n / 10) (by omega) hm
      · exact key _ h2 (List.mem_singleton.1 hm)
def digL (k : Int) : List UInt8 := Lib.decDigits k.toNat
theorem itoa_dig {k : Int} (h : 0 ≤ k) : Lib.itoa k = digL k := by
  unfold Lib.itoa digL
  rw [if_neg (by omega)]
theorem digL_inj {k m : Int} (hk : 0 ≤ k) (hm : 0 ≤ m) (h : digL k = digL m) : k = m := by
  have := congrArg valD h
  unfold digL at this
  rw [dec_val, dec_val] at this
  omega
/-! ## texts as lists -/
def bl (b : ByteArray) : List UInt8 := b.data.toList
theorem bl_app (a b : ByteArray) : bl (a ++ b) = bl a ++ bl b := by simp [bl, ByteArray.data_append]
theorem bl_child {s : ByteArray} {k : Int} (h : 0 ≤ k) : bl (childB s k) = bl s ++ 46 :: digL k := by
  unfold childB itoB
  rw [bl_app, bl_app, itoa_dig h]
  simp [bl]
theorem bl_key {s : ByteArray} {k c : Int} (h : 0 ≤ k) (hc : 0 ≤ c) : bl (keyG s k c) = bl s ++ 46 :: (digL k ++ 58 :: digL c) := by
  unfold keyG itoB
  rw [bl_app, bl_app, bl_child h, itoa_dig hc]
  simp [bl]
theorem cut58 {a b c d : List UInt8} (ha : (58 : UInt8) ∉ a) (hb : (58 : UInt8) ∉ b) (h : a ++ 58 :: c = b ++ 58 :: d) : a = b ∧ c = d := by
  induction a generalizing b with
  | nil =>
    cases b with
    | nil => exact ⟨rfl, by simpa using h⟩
    | cons y t =>
      simp only [List.nil_append, List.cons_append, List.cons.injEq] at h
      exact absurd (by rw [h.1]; simp) hb
  | cons x a ih =>
    cases b with
    | nil =>
      simp only [List.nil_append, List.cons_append, List.cons.injEq] at h
      exact absurd (by rw [← h.1]; simp) ha
    | cons y t =>
      simp only [List.cons_append, List.cons.injEq] at h
      obtain ⟨rfl, h⟩ := h
      obtain ⟨rfl, rfl⟩ := ih (fun hm => ha (by simp [hm])) (fun hm => hb (by simp [hm])) h
      exact ⟨rfl, rfl⟩
theorem child_ne {s : ByteArray} {k m : Int} (hk : 0 ≤ k) (hm : 0 ≤ m) (hne : k ≠ m) : childB s k ≠ childB s m := fun h => by
  have := congrArg bl h
  rw [bl_child hk, bl_child hm] at this
  have h2 := List.append_cancel_left this
  simp only [List.cons.injEq, true_and] at h2
  exact hne (digL_inj hk hm h2)
theorem child_key {s : ByteArray} {k m c : Int} (hk : 0 ≤ k) (hm : 0 ≤ m) (hc : 0 ≤ c) : childB s k ≠ keyG s m c := fun h => by
  have := congrArg bl h
  rw [bl_child hk, bl_key hm hc] at this
  have h2 := List.append_cancel_left this
  simp only [List.cons.injEq, true_and] at h2
  exact dec_no k.toNat (by show (58 : UInt8) ∈ digL k; rw [h2]; simp)
theorem key_inj {s : ByteArray} {k m c d : Int} (hk : 0 ≤ k) (hm : 0 ≤ m) (hc : 0 ≤ c) (hd : 0 ≤ d) (h : keyG s k c = keyG s m d) : k = m ∧ c = d := by
  have := congrArg bl h
  rw [bl_key hk hc, bl_key hm hd] at this
  have h2 := List.append_cancel_left this
  simp only [List.cons.injEq, true_and] at h2
  obtain ⟨h3, h4⟩ := cut58 (dec_no _) (dec_no _) h2
  exact ⟨digL_inj hk hm h3, digL_inj hc hd h4⟩
/-! ## the colors of a split's groups -/
def cols (L : List Asd) : Nat → List Int
  | 0 => []
  | i + 1 => if newG L i then cols L i ++ [(L.getD i z67).f0.f0] else cols L i
theorem addR_keys (r : Int) (gs : List Grp) : (addR r gs).map (·.f0) = gs.map (·.f0) := by
  unfold addR
  rw [List.map_set]
  by_cases h : gs.length - 1 < gs.length
  · have : (gs.getD (gs.length - 1) z24) = gs[gs.length - 1] := by simp [List.getD, h]
    rw [this]
    refine List.ext_getElem (by simp) (fun i h1 h2 => ?_)
    rw [List.getElem_set]
    split
    · rename_i he
      subst he
      simp
    · rfl
  · have : gs = [] := List.eq_nil_of_length_eq_zero (by omega)
    subst this
    rfl
theorem grps_keys (s : ByteArray) (k : Int) (L : List Asd) : ∀ i, (grps s k L i).map (·.f0) = (cols L i).map (keyG s k)
  | 0 => rfl
  | i + 1 => by
    show (addR _ _).map _ = List.map _ (if _ then _ else _)
    rw [addR_keys]
    split
    · rw [List.map_append, List.map_append, grps_keys s k L i]
      rfl
    · exact grps_keys s k L i
/-- sorted by color -/
def ByCol (L : List Asd) : Prop := ∀ i j : Nat, i ≤ j → j < L.length → (L.getD i z67).f0.f0 ≤ (L.getD j z67).f0.f0
theorem cols_up {L : List Asd} (h : ByCol L) : ∀ i, i ≤ L.length → (cols L i).Pairwise (· < ·) ∧ (∀ c ∈ cols L i, ∃ j, j < i ∧ c = (L.getD j z67).f0.f0)
  | 0, _ => ⟨List.Pairwise.nil, fun c hc => by cases hc⟩
  | i + 1, hi => by
    obtain ⟨h1, h2⟩ := cols_up h i (by omega)
    rw [show cols L (i + 1) = if newG L i then cols L i ++ [(L.getD i z67).f0.f0] else cols L i from rfl]
    by_cases hn : newG L i
    · rw [if_pos hn]
      refine ⟨List.pairwise_append.2 ⟨h1, by simp, fun a ha b hb => ?_⟩, fun c hc => ?_⟩
      · rw [List.mem_singleton.1 hb]
        obtain ⟨j, hj, rfl⟩ := h2 a ha
        have h3 := h j (i - 1) (by omega) (by omega)
        have h4 := h (i - 1) i (by omega) (by omega)
        rcases hn with hn | hn
        · omega
        · omega
      · rcases List.mem_append.1 hc with hc | hc
        · obtain ⟨j, hj, e⟩ := h2 c hc
          exact ⟨j, by omega, e⟩
        · exact ⟨i, by omega, List.mem_singleton.1 hc⟩
    · rw [if_neg hn]
      exact ⟨h1, fun c hc => by obtain ⟨j, hj, e⟩ := h2 c hc; exact ⟨j, by omega, e⟩⟩
/-- who asked, sorted: by color; and each color is not below 0 -/
theorem sortA_col (xs : List Asd) : ByCol (HS.sortA xs) := by
  intro i j hij hj
  rw [HS.sortA_len] at hj
  have hl : (HS.isort (HS.els xs)).length = xs.length := by rw [(HS.isort_perm _).length_eq, HS.els_len]
  have hi' : i < (HS.isort (HS.els xs)).length := by omega
  have hj' : j < (HS.isort (HS.els xs)).length := by omega
  have hg : ∀ t (ht : t < (HS.isort (HS.els xs)).length), ((HS.sortA xs).getD t z67).f0.f0 = ((HS.isort (HS.els xs))[t]).c := fun t ht => by
    unfold HS.sortA
    simp [List.getD, ht, HS.ofEl]
  rw [hg i hi', hg j hj']
  rcases Nat.lt_or_ge i j with h | h
  · have := List.pairwise_iff_getElem.1 (HS.isort_sorted (HS.els xs)) i j hi' hj' h
    rw [HS.ltI_false] at this
    unfold HS.LtE at this
    omega
  · have : i = j := by omega
    subst this
    exact Int.le_refl _
theorem sortA_pos {asks : List Ask_} {ranks : List Int} {i : Nat} {x : Asd} (h : x ∈ HS.sortA (pick asks ranks i)) : 0 ≤ x.f0.f0 := (pick_mem (sortA_mem h)).2.1
/-- a split's keys -/
theorem split_keys (s : ByteArray) (k : Int) (ranks : List Int) (asks : List Ask_) : ∃ cs : List Int, (splitG s k ranks asks).map (·.f0) = cs.map (keyG s k) ∧ cs.Pairwise (· < ·) ∧ ∀ c ∈ cs, 0 ≤ c := by
  have hl := HS.sortA_len (pick asks ranks asks.length)
  refine ⟨cols (HS.sortA (pick asks ranks asks.length)) (pick asks ranks asks.length).length, grps_keys s k _ _, (cols_up (sortA_col _) _ (by omega)).1, fun c hc => ?_⟩
  obtain ⟨j, hj, rfl⟩ := (cols_up (sortA_col _) _ (by omega)).2 c hc
  refine sortA_pos (asks := asks) (ranks := ranks) (i := asks.length) ?_
  have hj' : j < (HS.sortA (pick asks ranks asks.length)).length := by omega
  simp [List.getD, hj']
/-- the keys of two dups and two splits -/
theorem keys_nodup {s : ByteArray} {k m : Int} (hk : 0 ≤ k) (hm : 0 ≤ m) (hne : k ≠ m) {a b : List Int} (ha : a.Pairwise (· < ·)) (hb : b.Pairwise (· < ·)) (ha0 : ∀ c ∈ a, 0 ≤ c) (hb0 : ∀ c ∈ b, 0 ≤ c) :
    ([childB s k, childB s m] ++ a.map (keyG s k) ++ b.map (keyG s m)).Nodup := by
  have hmap : ∀ {q : Int} (hq : 0 ≤ q) {l : List Int}, l.Pairwise (· < ·) → (∀ c ∈ l, 0 ≤ c) → (l.map (keyG s q)).Nodup := fun {q} hq {l} hl hl0 => by
    refine List.pairwise_map.2 (hl.imp_of_mem (fun {x y} hx hy hxy he => ?_))
    have := (key_inj hq hq (hl0 x hx) (hl0 y hy) he).2
    omega
  refine List.nodup_append.2 ⟨List.nodup_append.2 ⟨?_, hmap hk ha ha0, ?_⟩, hmap hm hb hb0, ?_⟩
  · simp [child_ne hk hm hne]
  · intro x hx y hy he
    subst he
    obtain ⟨c, hc, rfl⟩ := List.mem_map.1 hy
    simp only [List.mem_cons, List.not_mem_nil, or_false] at hx
    rcases hx with hx | hx
    · exact child_key hk hk (ha0 c hc) hx.symm
    · exact child_key hm hk (ha0 c hc) hx.symm
  · intro x hx y hy he
    subst he
    obtain ⟨c, hc, rfl⟩ := List.mem_map.1 hy
    rcases List.mem_append.1 hx with hx | hx
    · simp only [List.mem_cons, List.not_mem_nil, or_false] at hx
      rcases hx with hx | hx
      · exact child_key hk hm (hb0 c hc) hx.symm
      · exact child_key hm hm (hb0 c hc) hx.symm
    · obtain ⟨d, hd, he⟩ := List.mem_map.1 hx
      exact hne (key_inj hk hm (ha0 d hd) (hb0 c hc) he).1
/-- each key is longer than the group's own, and begins with it -/
def Longer (s t : ByteArray) : Prop := s.size < t.size ∧ t.extract 0 s.size = s
theorem longer_of {s t : ByteArray} {l : List UInt8} (h : bl t = bl s ++ l) (hl : l ≠ []) : Longer s t := by
  have hz : ∀ b : ByteArray, (bl b).length = b.size := fun b => by show b.data.toList.length = b.data.size; rw [Array.length_toList]
  have hs := hz s
  have ht := hz t
  have hp := List.length_pos_iff.2 hl
  have h2 := congrArg List.length h
  rw [List.length_append] at h2
  refine ⟨by omega, ?_⟩
  apply ByteArray.ext
  apply Array.ext'
  show bl _ = bl s
  have e : bl (t.extract 0 s.size) = (bl t).take s.size := by
    simp [bl, ByteArray.data_extract]
  rw [e, h, ← hs, List.take_left']
  rfl
theorem child_longer {s : ByteArray} {k : Int} (hk : 0 ≤ k) : Longer s (childB s k) := longer_of (bl_child hk) (by simp)
theorem key_longer {s : ByteArray} {k c : Int} (hk : 0 ≤ k) (hc : 0 ≤ c) : Longer s (keyG s k c) := longer_of (bl_key hk hc) (by simp)
end Go.Proofs.YtkifmhfgplhabaaDoor.HQ

namespace Go.Proofs.YtkifmhfgplhabaaDoor.HQ
open Go.Proofs.YtkifmhfgplhabaaDoor.HU Go.RowKit Go.Proofs.YtkifmhfgplhabaaDoor.HK Go.Proofs.YtkifmhfgplhabaaDoor.HP Go.Proofs.YtkifmhfgplhabaaDoorW.PrintWords Go.Proofs.YtkifmhfgplhabaaDoorW.PrintLast Go.Proofs.YtkifmhfgplhabaaDoorW.PrintMore Go.Deep
set_option linter.unusedVariables false
set_option linter.unusedSimpArgs false
theorem choose_b {α : Type} {p : Nat → α → Prop} : ∀ (n : Nat), (∀ i, i < n → ∃ x, p i x) → ∃ xs : List α, xs.length = n ∧ ∀ i x, xs[i]? = some x → p i x
  | 0, _ => ⟨[], rfl, fun i x h => by simp at h⟩
  | n + 1, h => by
    obtain ⟨xs, hl, hx⟩ := choose_b n (fun i hi => h i (by omega))
    obtain ⟨y, hy⟩ := h n (by omega)
    refine ⟨xs ++ [y], by simp [hl], fun i x hi => ?_⟩
    by_cases hin : i < xs.length
    · rw [List.getElem?_append_left hin] at hi
      exact hx i x hi
    · rw [List.getElem?_append_right (by omega)] at hi
      cases he : i - xs.length with
      | zero =>
        rw [he] at hi
        simp at hi
        have : i = n := by omega
        rw [this, ← hi]
        exact hy
      | succ t => rw [he] at hi; simp at hi
theorem heads {W : World} {A : Option Addr} {n : Nat} {gs : List Grp} (h : Kd.C k24 W A n gs) : ∃ hs : List Hd, Kd.C kH W A n hs ∧ hs.map (·.1) = gs.map (·.f0) := by
  have hn : gs.length = n := h.1
  by_cases hp : 0 < n
  · obtain ⟨ad, he, hr⟩ := h.2.2 hp
    obtain ⟨hs, hl, hx⟩ := choose_b (p := fun i (x : Hd) => (∃ g, gs[i]? = some g ∧ x.1 = g.f0) ∧ ∃ cs : List Value, cs.length = 2 ∧ kH.K W x cs ∧ ∀ j u, cs[j]? = some u → W.cell? (ad.add (i * 2 + j)) = some u) n (fun i hi => by
      have hg := List.getElem?_eq_getElem (l := gs) (show i < gs.length by omega)
      obtain ⟨cs, h1, h2, h3⟩ := hr i _ hg
      obtain ⟨A1, c1, rfl, _, _⟩ := k24_open h2
      exact ⟨(gs[i].f0, (A1, gs[i].f1.length, c1)), ⟨_, hg, rfl⟩, _, rfl, ⟨[.string gs[i].f0], [.slice A1 gs[i].f1.length c1], rfl, rfl, rfl⟩, h3⟩)
    refine ⟨hs, ⟨hl, h.2.1, fun _ => ⟨ad, he, fun j p hj => (hx j p hj).2⟩⟩, List.ext_getElem (by simp [hl, hn]) (fun i h1 h2 => ?_)⟩
    rw [List.getElem_map, List.getElem_map]
    rw [List.length_map] at h1 h2
    obtain ⟨g, hg, e⟩ := (hx i _ (List.getElem?_eq_getElem h1)).1
    rw [List.getElem?_eq_getElem h2] at hg
    rw [e, ← Option.some.inj hg]
  · have : gs = [] := List.eq_nil_of_length_eq_zero (by omega)
    subst this
    exact ⟨[], ⟨hn, h.2.1, fun h => absurd h hp⟩, rfl⟩
theorem kH_key {W : World} {A : Option Addr} {n : Nat} {hs : List Hd} (h : Kd.C kH W A n hs) {i : Nat} {x : Hd} (hi : i < n) (hx : hs[i]? = some x) : ∃ ad, A = some ad ∧ W.cell? (ad.add (i * 2)) = some (.string x.1) := by
  obtain ⟨ad, he, hr⟩ := h.2.2 (by omega)
  obtain ⟨cs, h1, h2, h3⟩ := hr i x hx
  obtain rfl := kH_open h2
  exact ⟨ad, he, h3 0 _ rfl⟩
theorem split_ex (s : ByteArray) (A : Option Addr) (c : Nat) (ranks : List Int) (k : Int) (A2 : Option Addr) (c2 : Nat) (asks : List Ask_) (w : World) (hr : Kd.C (Kd.int .i64) w A ranks.length ranks) (hc : ranks.length ≤ c) (hr2 : Kd.C k40 w A2 asks.length asks) (hc2 : asks.length ≤ c2)
    (ht : Tab w) (hs : s.size ≤ 10000) (hk : Rng k) (hcr : ∀ x ∈ asks, Rng x.f0) (hl80 : ranks.length ≤ 80) :
    Calls Tryd.prog 13 #[.agg #[.string s, .slice A ranks.length c], .int .i64 k, .slice A2 asks.length c2] w fun e w' => (∃ (v : Value) (n : Int), e = .returned (.tuple #[v, .int .i64 n])) ∧ Below w.heap.size w w' := by
  by_cases hbad : mayB ranks = false ∨ k < 0 ∨ asks.length ≠ ranks.length
  · exact (split_bad s A c ranks k A2 asks.length c2 w hr hc hbad).mono (fun e w' h => ⟨⟨_, _, h.1⟩, h.2⟩)
  · have h1 : mayB ranks = true := by cases h : mayB ranks; exact absurd (.inl h) hbad; rfl
    exact (split_c s A c ranks k A2 c2 asks w hr hc hr2 hc2 ht hs h1 (by omega) hk hcr (by omega) hl80).mono (fun e w' ⟨Av, cv, h1, _, _, h2⟩ => ⟨⟨_, _, h1⟩, h2⟩)
theorem R_two {w : World} (x y : Hd) : kH.R 24 (w.alloc (.cells #[.string x.1, encSl x.2, .string y.1, encSl y.2] 24)) w.heap.size (fun _ => True) (.slice (some ⟨w.heap.size, 0, none⟩) 2 2) [x, y] := by
  refine ⟨fun _ _ => trivial, [.string x.1, encSl x.2, .string y.1, encSl y.2], ⟨rfl, .inr ⟨w.heap.size, 2, #[.string x.1, encSl x.2, .string y.1, encSl y.2], rfl, Nat.le_refl _, blk_new _ _, Nat.le_refl _, by decide, by rfl, by rfl⟩⟩, ?_⟩
  refine ⟨rfl, fun j p hj => ?_⟩
  have hj2 : j < 2 := by
    rcases Nat.lt_or_ge j 2 with h | h
    · exact h
    · rw [List.getElem?_eq_none (by simpa using h)] at hj; cases hj
  rcases (by omega : j = 0 ∨ j = 1) with rfl | rfl
  · obtain rfl := Option.some.inj hj
    exact kH_mkM _ _ _ x
  · obtain rfl := Option.some.inj hj
    exact kH_mkM _ _ _ y
end Go.Proofs.YtkifmhfgplhabaaDoor.HQ

namespace Go.Proofs.YtkifmhfgplhabaaDoor.HQ
open Go.Proofs.YtkifmhfgplhabaaDoor.HU Go.RowKit Go.Proofs.YtkifmhfgplhabaaDoor.HK Go.Proofs.YtkifmhfgplhabaaDoor.HP Go.Proofs.YtkifmhfgplhabaaDoorW.PrintWords Go.Proofs.YtkifmhfgplhabaaDoorW.PrintLast Go.Proofs.YtkifmhfgplhabaaDoorW.PrintMore
set_option linter.unusedVariables false
set_option linter.unusedSimpArgs false
section
variable {w W W' : World} {base : Nat} {ok ok' : Nat → Prop} {g : Nat} {v : Value} {ls : List Sl} {S S' : Nat → Prop}
theorem kept_mono (h : Kept W W' S) (hs : ∀ k, S k → S' k) : Kept W W' S' := ⟨h.1, fun i hi hn => h.2 i hi (fun h' => hn (hs i h'))⟩
theorem Gs.mono (h : Gs W base ok g v ls) (hok : ∀ k, ok k → ok' k) : Gs W base ok' g v ls := ⟨h.blk, h.hg, Kd.Q_mono h.row hok⟩
/-- the program's table is written: a row of other types stays -/
theorem q_keep_s {α : Type} {d : Kd α} {e base2 : Nat} {u : Value} {xs : List α} (h : d.Q e W base2 ok u xs) (hs : Gs W base ok' g v ls) (h1 : ∀ q, q ∈ e :: d.E → q ≠ 79) (h2 : ∀ q, q ∈ e :: d.E → q ≠ 76) (hk : Kept W W' (WrG g v)) : d.Q e W' base2 ok u xs :=
  Kd.Q_mono (Kd.Q_kept (Kd.Q_types (Kd.Q_apart' h (Kd.Q_typed hs.row) h2) hs.blk h1) hk (fun k hk hw => hw.elim hk.2 hk.1.2)) (fun _ hk => hk.1.1)
theorem blk_keep_s {t : Nat} {cells : Array Value} {b : Nat} (hb : W.heap[b]? = some (.cells cells t (0, 0))) (hs : Gs W base ok' g v ls) (h1 : t ≠ 79) (h2 : t ≠ 76) (hk : Kept W W' (WrG g v)) : W'.heap[b]? = some (.cells cells t (0, 0)) := by
  refine blk_kept hb hk (fun hw => ?_)
  rcases hw with rfl | hw
  · have := hs.blk
    rw [hb] at this
    injection this with this
    injection this with _ h
    exact h1 h
  · obtain ⟨c2, hc⟩ := Kd.Q_typed hs.row b hw.symm
    rw [hb] at hc
    injection hc with hc
    injection hc with _ h
    exact h2 h
end
/-- groups that are gone through -/
def Fits (ls : List Sl) : Prop := 0 < ls.length ∧ ls.length ≤ 32 ∧ ∀ x ∈ ls, x.f0.f1.length ≤ 80
theorem Fits.one {s : ByteArray} {l : List Int} (h : l.length ≤ 80) : Fits [⟨⟨s, l⟩, false⟩] := by
  refine ⟨by simp, by simp, fun x hx => ?_⟩
  rw [List.mem_singleton.1 hx]
  exact h
theorem Fits.add {s : ByteArray} {l : List Int} {ls : List Sl} (h : Fits ls) (hl : l.length ≤ 80) : Fits (addL s l ls) := by
  unfold addL
  split
  · split
    · exact h
    · rename_i h32
      refine ⟨by simp, ?_, fun x hx => ?_⟩
      · have := h.2.1
        simp
        omega
      · rcases List.mem_append.1 hx with hx | hx
        · exact h.2.2 x hx
        · rw [List.mem_singleton.1 hx]
          exact hl
  · exact h
theorem Fits.free {k : Int} {ls : List Sl} (h : Fits ls) : Fits (freeL k ls) := by
  unfold freeL
  split
  · rename_i x hx
    have hm := List.mem_of_getElem? (getH_some hx).2.2.1
    refine ⟨by simpa using h.1, by simpa using h.2.1, fun y hy => ?_⟩
    rcases List.mem_or_eq_of_mem_set hy with hy | rfl
    · exact h.2.2 y hy
    · exact h.2.2 x hm
  · exact h
theorem infoBl : (Tryd.prog.info? 4).map (fun i => (i.zero, i.size, i.bytes)) = some (some (.bool false), 1, 1) := by kernel_rfl
theorem EHT : ∀ q, q ∈ 24 :: kH.E → q ≠ 79 := by decide
theorem EHS : ∀ q, q ∈ 24 :: kH.E → q ≠ 76 := by decide
theorem EHB : ∀ q, q ∈ 24 :: kH.E → q ≠ 4 := by decide
theorem EBT : ∀ q, q ∈ 4 :: (Kd.bool).E → q ≠ 79 := by decide
theorem EBS : ∀ q, q ∈ 4 :: (Kd.bool).E → q ≠ 76 := by decide
theorem EBG : ∀ q, q ∈ 4 :: (Kd.bool).E → q ≠ 24 := by decide
theorem ESG : ∀ q, q ∈ 76 :: (k76).E → q ≠ 24 := by decide
theorem ESB : ∀ q, q ∈ 76 :: (k76).E → q ≠ 4 := by decide
/-- a header tells a group of the first world -/
def HdOf (w0 : World) (h : Hd) (x : Sl) : Prop := h.1 = x.f0.f0 ∧ h.2.2.1 = x.f0.f1.length ∧ h.2.2.1 ≤ h.2.2.2 ∧ Kd.C (Kd.int .i64) w0 h.2.1 h.2.2.1 x.f0.f1
/-- the table, the groups and the marks told beside it -/
structure Hs (w0 W : World) (base g : Nat) (v vg vo : Value) (ls : List Sl) (hs : List Hd) : Prop where
  tab : Gs W base (fun _ => True) g v ls
  rg : kH.Q 24 W base (fun _ => True) vg hs
  ro : Kd.Q Kd.bool 4 W base (fun _ => True) vo (ls.map (·.f1))
  len : hs.length = ls.length
  hd : ∀ (j : Nat) (h : Hd) (x : Sl), hs[j]? = some h → ls[j]? = some x → HdOf w0 h x
  fit : Fits ls
section
variable {w0 W W' W1 W2 : World} {base g : Nat} {v v' vg vo vg' vo' : Value} {ls ls' : List Sl} {hs : List Hd}
theorem Hs.below (h : Hs w0 W base g v vg vo ls hs) (hb : Below W.heap.size W W') : Hs w0 W' base g v vg vo ls hs := ⟨h.tab.below hb, Kd.Q_below h.rg hb, Kd.Q_below h.ro hb, h.len, h.hd, h.fit⟩
theorem Hs.forms (h : Hs w0 W base g v vg vo ls hs) : ∃ A c A2 c2, vg = .slice A ls.length c ∧ vo = .slice A2 ls.length c2 ∧ ls.length ≤ c ∧ ls.length ≤ c2 := by
  obtain ⟨A, c, h1, h2, _⟩ := Kd.Q_reads h.rg
  obtain ⟨A2, c2, h3, h4, _⟩ := Kd.Q_reads h.ro
  rw [h.len] at h1 h2
  rw [List.length_map] at h3 h4
  exact ⟨A, c, A2, c2, h1, h3, h2, h4⟩
/-- the table is written, and is as long as before -/
theorem Hs.tabs (h : Hs w0 W base g v vg vo ls hs) (ht : Gs W' base (fun _ => True) g v' ls) (hk : Kept W W' (WrG g v)) : Hs w0 W' base g v' vg vo ls hs :=
  ⟨ht, q_keep_s h.rg h.tab EHT EHS hk, q_keep_s h.ro h.tab EBT EBS hk, h.len, h.hd, h.fit⟩
/-- the groups' row has grown -/
theorem grown_g (tab : Gs W base (fun _ => True) g v ls) (rg : kH.Q 24 W base (fun _ => True) vg hs) (hg : W.grownBy W1 vg.ownBlock) : Gs W1 base (fun _ => True) g v ls :=
  ⟨blk_grown tab.blk hg (Kd.Q_ne rg tab.blk (by decide)), tab.hg, Kd.Q_over' tab.row (Kd.Q_typed rg) ESG hg⟩
theorem grown_go {bs : List Bool} (ro : Kd.Q Kd.bool 4 W base (fun _ => True) vo bs) (rg : kH.Q 24 W base (fun _ => True) vg hs) (hg : W.grownBy W1 vg.ownBlock) : Kd.Q Kd.bool 4 W1 base (fun _ => True) vo bs := Kd.Q_over' ro (Kd.Q_typed rg) EBG hg
/-- the marks' row has grown -/
theorem grown_b {bs : List Bool} (tab : Gs W base (fun _ => True) g v ls) (ro : Kd.Q Kd.bool 4 W base (fun _ => True) vo bs) (hg : W.grownBy W1 vo.ownBlock) : Gs W1 base (fun _ => True) g v ls :=
  ⟨blk_grown tab.blk hg (Kd.Q_ne ro tab.blk (by decide)), tab.hg, Kd.Q_over' tab.row (Kd.Q_typed ro) ESB hg⟩
theorem grown_bg {bs : List Bool} (rg : kH.Q 24 W base (fun _ => True) vg hs) (ro : Kd.Q Kd.bool 4 W base (fun _ => True) vo bs) (hg : W.grownBy W1 vo.ownBlock) : kH.Q 24 W1 base (fun _ => True) vg hs := Kd.Q_over' rg (Kd.Q_typed ro) EHB hg
theorem Hs.snoc {x : Sl} {hx : Hd} (h : Hs w0 W base g v vg vo ls hs) (tab : Gs W2 base (fun _ => True) g v' (ls ++ [x])) (rg : kH.Q 24 W2 base (fun _ => True) vg' (hs ++ [hx])) (ro : Kd.Q Kd.bool 4 W2 base (fun _ => True) vo' (ls.map (·.f1) ++ [x.f1])) (hd : HdOf w0 hx x) (hf : Fits (ls ++ [x])) : Hs w0 W2 base g v' vg' vo' (ls ++ [x]) (hs ++ [hx]) := by
  refine ⟨tab, rg, by rw [List.map_append]; exact ro, by simp [h.len], fun j a b ha hb => ?_, hf⟩
  by_cases hj : j < hs.length
  · rw [List.getElem?_append_left hj] at ha
    rw [List.getElem?_append_left (by rw [← h.len]; exact hj)] at hb
    exact h.hd j a b ha hb
  · rw [List.getElem?_append_right (by omega)] at ha
    rw [List.getElem?_append_right (by rw [← h.len]; omega), ← h.len] at hb
    cases hjj : j - hs.length with
    | zero =>
      rw [hjj] at ha hb
      simp at ha hb
      rw [← ha, ← hb]
      exact hd
    | succ t => rw [hjj] at ha; simp at ha
theorem freeL_f0 (k : Int) (ls : List Sl) : (freeL k ls).map (·.f0) = ls.map (·.f0) := by
  unfold freeL
  split
  · rename_i x hx
    obtain ⟨_, _, hi, _⟩ := getH_some hx
    obtain ⟨hl, he⟩ := List.getElem?_eq_some_iff.1 hi
    apply List.ext_getElem (by simp)
    intro i h1 h2
    rw [List.getElem_map, List.getElem_map, List.getElem_set]
    split
    · rename_i h; subst h; rw [he]
    · rfl
  · rfl
theorem freeL_len (k : Int) (ls : List Sl) : (freeL k ls).length = ls.length := by
  have := congrArg List.length (freeL_f0 k ls)
  simpa using this
theorem freeL_f1 {k : Nat} {ls : List Sl} (hk : k < ls.length) : (freeL (k : Int) ls).map (·.f1) = (ls.map (·.f1)).set k true := by
  unfold freeL
  split
  · rename_i x hx
    rw [List.map_set, Int.toNat_natCast]
  · rename_i hx
    have hg : (ls[k]).f1 = true := by
      rcases getH_none hx with h | h | ⟨x, _, _, h3, h4⟩
      · omega
      · omega
      · rw [Int.toNat_natCast, List.getElem?_eq_getElem hk] at h3
        rw [Option.some.inj h3]; exact h4
    apply List.ext_getElem (by simp)
    intro i h1 h2
    rw [List.getElem_map, List.getElem_set]
    split
    · rename_i h; subst h; exact hg
    · rw [List.getElem_map]
/-- a handle is freed and marked -/
theorem Hs.free {k o c b : Nat} (h : Hs w0 W base g v (vg) (.slice (some ⟨b, o, none⟩) ls.length c) ls hs) (hk : k < ls.length) (ht : Gs W' base (fun _ => True) g v (freeL (k : Int) ls)) (hkp : Kept W W' (WrG g v)) :
    Hs w0 (W'.setCell ⟨b, o + k, none⟩ (.bool true)) base g v vg (.slice (some ⟨b, o, none⟩) ls.length c) (freeL (k : Int) ls) hs := by
  have rg := q_keep_s h.rg h.tab EHT EHS hkp
  have ro := q_keep_s h.ro h.tab EBT EBS hkp
  obtain ⟨cells, hcl⟩ := Kd.Q_typed ro b rfl
  have hq := (Kd.Q_putg ro (k : Int) (by omega) (by omega) true).1
  rw [Int.toNat_natCast] at hq
  have hty := ht.blk
  have hne : g ≠ b := fun he => by
    subst he
    rw [hcl] at hty
    injection hty with hty
    injection hty with _ h2
    exact absurd (show (4 : Nat) = 79 from h2) (by decide)
  refine ⟨⟨blk_far hty hne _, ht.hg, Kd.Q_set ht.row hcl ESB _ _⟩, Kd.Q_set rg hcl EHB _ _, ?_, by rw [h.len, freeL_len], fun j a x ha hx => ?_, h.fit.free⟩
  · rw [freeL_f1 hk]
    exact hq
  · have e := congrArg (fun l => l[j]?) (freeL_f0 (k : Int) ls)
    simp only [List.getElem?_map, hx, Option.map_some] at e
    cases hy : ls[j]? with
    | none => rw [hy] at e; simp at e
    | some y =>
      rw [hy] at e
      have e2 : x.f0 = y.f0 := by simpa using e
      have := h.hd j a y ha hy
      unfold HdOf at this ⊢
      rw [e2]
      exact this
/-- a group told: what its header reads as -/
theorem Hs.at_ {j : Nat} {x : Sl} (h : Hs w0 W base g v vg vo ls hs) (hx : ls[j]? = some x) : ∃ b o c A cc, vg = .slice (some ⟨b, o, none⟩) ls.length c ∧ W.cell? ⟨b, o + j * 2, none⟩ = some (.string x.f0.f0) ∧ W.cell? ⟨b, o + j * 2 + 1, none⟩ = some (.slice A x.f0.f1.length cc) ∧ x.f0.f1.length ≤ cc ∧ Kd.C (Kd.int .i64) w0 A x.f0.f1.length x.f0.f1 := by
  have hjl : j < ls.length := (List.getElem?_eq_some_iff.1 hx).1
  have hjh : j < hs.length := by rw [h.len]; exact hjl
  obtain ⟨b, o, c, hv, _, _, cells, hcp⟩ := Kd.Q_form h.rg (by omega)
  have hh := List.getElem?_eq_getElem hjh
  obtain ⟨e1, e2, e3, e4⟩ := h.hd j _ x hh hx
  have rg := h.rg
  rw [hv] at rg
  have hc1 := Qh_cell rg (by omega) hh
  obtain ⟨cs, hcl, hM, hcc, hfr⟩ := Kd.Q_elem rg (hs[j]) (j : Int) (by omega) (by omega)
  rw [Int.toNat_natCast] at hM hcc
  have hgd : hs.getD j hs[j] = hs[j] := by simp [List.getD, hjh]
  rw [hgd] at hM
  have hce := kH_openM hM
  have hc0 := hcc 0 _ (by rw [hce]; rfl)
  rw [e1] at hc0
  rw [e2] at hc1 e3 e4
  rw [h.len] at hv
  exact ⟨b, o, c, (hs[j]).2.1, (hs[j]).2.2.2, hv, hc0, hc1.1, e3, e4⟩
/-- a mark told -/
theorem Hs.mark {j : Nat} {x : Sl} (h : Hs w0 W base g v vg vo ls hs) (hx : ls[j]? = some x) : ∃ b o c, vo = .slice (some ⟨b, o, none⟩) ls.length c ∧ W.cell? ⟨b, o + j, none⟩ = some (.bool x.f1) ∧ W.frozen? ⟨b, o + j, none⟩ = false ∧ base ≤ b := by
  have hjl : j < ls.length := (List.getElem?_eq_some_iff.1 hx).1
  obtain ⟨b, o, c, hv, hb, _, cells, hcp⟩ := Kd.Q_form h.ro (by simp; omega)
  have ro := h.ro
  rw [hv] at ro
  have hbo := Kd.Q_cell false ro (j : Int) (by omega) (by simp; omega)
  have hbx : rdOf false (ls.map (·.f1)) (j : Int) = x.f1 := by simp [rdOf, List.getD, hx]
  rw [hbx, Int.toNat_natCast] at hbo
  rw [List.length_map] at hv
  exact ⟨b, o, c, hv, hbo.1, hbo.2, hb⟩
end
/-- at the start: one group, one mark -/
theorem Hs.one {w0 W : World} {base g : Nat} {v : Value} {s : ByteArray} {A : Option Addr} {c : Nat} {l : List Int} (tab : Gs W base (fun _ => True) g v [⟨⟨s, l⟩, false⟩]) (hb : base ≤ W.heap.size) (hC : Kd.C (Kd.int .i64) w0 A l.length l) (hc : l.length ≤ c) (hl : l.length ≤ 80) :
    Hs w0 ((W.alloc (.cells #[.string s, .slice A l.length c] 24)).alloc (.cells #[.bool false] 4)) base g v (.slice (some ⟨W.heap.size, 0, none⟩) 1 1) (.slice (some ⟨W.heap.size + 1, 0, none⟩) 1 1) [⟨⟨s, l⟩, false⟩] [(s, (A, l.length, c))] := by
  have m2 := below_alloc2 W (.cells #[.string s, .slice A l.length c] 24) (.cells #[.bool false] 4)
  have hq := R_one_at kH (base := base) (ok := fun _ => True) (okp := fun _ => False) (p := ((s, (A, l.length, c)) : Hd)) (blk_alloc (blk_new W (.cells #[.string s, .slice A l.length c] 24)) (.cells #[.bool false] 4)) hb trivial (kH_mkM _ base _ (s, (A, l.length, c))) (fun _ h => h.elim)
  have hq2 := R_one_at Kd.bool (base := base) (ok := fun _ => True) (okp := fun _ => False) (p := false) (blk_second W (.cells #[.string s, .slice A l.length c] 24) (.cells #[.bool false] 4)) (Nat.le_trans hb (by omega)) trivial rfl (fun _ h => h.elim)
  refine ⟨tab.below m2, Kd.Q_of_R hq, Kd.Q_of_R hq2, rfl, fun j a x ha hx => ?_, Fits.one hl⟩
  cases j with
  | zero =>
    simp at ha hx
    subst ha hx
    exact ⟨rfl, rfl, hc, hC⟩
  | succ n => simp at ha
end Go.Proofs.YtkifmhfgplhabaaDoor.HQ

namespace Go.Proofs.YtkifmhfgplhabaaDoor.HQ
open Go.Proofs.YtkifmhfgplhabaaDoor.HU Go.RowKit Go.Proofs.YtkifmhfgplhabaaDoor.HK Go.Proofs.YtkifmhfgplhabaaDoor.HP Go.Proofs.YtkifmhfgplhabaaDoorW.PrintWords Go.Proofs.YtkifmhfgplhabaaDoorW.PrintLast Go.Proofs.YtkifmhfgplhabaaDoorW.PrintMore
set_option linter.unusedVariables false
set_option linter.unusedSimpArgs false
abbrev Act_ := S55
theorem ints_loop_ (a : List Int) (hl : a.length ≤ maxLen) : ∀ n i, n = a.length - i → i ≤ a.length → Ev (fun k => Qgnbase.dispatcherref11_Ints.l0 k a a (i : Int)) true := by
  have hM : maxLen = 9223372036854775807 := rfl
  intro n
  induction n with
  | zero =>
    intro i hn hi
    refine Ev.round ?_ (fun k => by simp only [Qgnbase.dispatcherref11_Ints.l0]; rfl)
    exact Ev.neg (by omega) (Ev.const rfl)
  | succ n ih =>
    intro i hn hi
    refine Ev.round ?_ (fun k => by simp only [Qgnbase.dispatcherref11_Ints.l0]; rfl)
    refine Ev.pos (by omega) ?_
    refine Ev.pos (by omega) ?_
    refine Ev.pos (by omega) ?_
    refine Ev.pos trivial ?_
    rw [wrap64_nat i (by omega)]
    exact ih (i + 1) (by omega) (by omega)
theorem same_cc (s : ByteArray) (A : Option Addr) (c : Nat) (A2 : Option Addr) (c2 : Nat) (a : List Int) (w : World) (hr : Kd.C (Kd.int .i64) w A a.length a) (hc : a.length ≤ c) (hr2 : Kd.C (Kd.int .i64) w A2 a.length a) (hc2 : a.length ≤ c2) :
    Calls Tryd.prog 15 #[.agg #[.string s, .slice A a.length c], .agg #[.string s, .slice A2 a.length c2]] w fun e w' => e = .returned (.bool true) ∧ Below w.heap.size w w' := by
  have hi : Ev (fun k => Qgnbase.dispatcherref11_Ints.f k a a) true := by
    unfold Qgnbase.dispatcherref11_Ints.f
    refine Ev.pos rfl ?_
    simpa using ints_loop_ a (Kd.C_max hr) a.length 0 (by omega) (by omega)
  have hs : Ev (fun k => Qgnbase.dispatcherref11_Same.f k s a s a) true := by
    unfold Qgnbase.dispatcherref11_Same.f
    exact Ev.pos rfl (Ev.bind hi (Ev.const rfl))
  obtain ⟨K, h⟩ := hs
  exact Qgnbase.dispatcherref11_Same.calls K s A c a s A2 c2 a true w hr hc hr2 hc2 (h K (Nat.le_refl _))
theorem kept_wr {W W' : World} {g : Nat} {v : Value} (h : Kept W W' (fun j => some j = v.ownBlock)) : Kept W W' (WrG g v) := kept_mono h (fun _ h => .inr h)
theorem getH_at {k : Nat} {ls : List Sl} {x : Sl} (hx : ls[k]? = some x) : getH (k : Int) ls = if x.f1 = true then none else some x := by
  unfold getH
  rw [if_pos (Int.natCast_nonneg k), Int.toNat_natCast, hx]
  rcases x with ⟨a, b⟩
  cases b <;> rfl
theorem cell_eqb {W W' : World} {b i : Nat} (h : W'.heap[b]? = W.heap[b]?) : W'.cell? ⟨b, i, none⟩ = W.cell? ⟨b, i, none⟩ := by simp [World.cell?, h]
theorem frozen_eqb {W W' : World} {b i : Nat} (h : W'.heap[b]? = W.heap[b]?) : W'.frozen? ⟨b, i, none⟩ = W.frozen? ⟨b, i, none⟩ := by simp [World.frozen?, h]
set_option maxRecDepth 100000 in
set_option maxHeartbeats 16000000 in
theorem handles_c (s : ByteArray) (A : Option Addr) (c : Nat) (l0 : List Int) (A2 : Option Addr) (c2 : Nat) (l : List Act_) (w : World) (hr : Kd.C (Kd.int .i64) w A l0.length l0) (hc : l0.length ≤ c) (hr2 : Kd.C k55 w A2 l.length l) (hc2 : l.length ≤ c2) (ht : Tab w) :
    Calls Tryd.prog 8 #[.agg #[.string s, .slice A l0.length c], .slice A2 l.length c2] w fun e w' => e = .returned (.bool true) ∧ Below w.heap.size w w' := by
  have b0 := blk_new w (.cells #[.string s, .slice A l0.length c] 24)
  have hba := below_alloc (Below.refl w.heap.size w) (.cells #[.string s, .slice A l0.length c] 24)
  have HB0 := Aside0.mk hba
  have HT0 := Aside0.mk (ht.after hba)
  have HRW := Aside0.mk hr
  have HAW := Aside0.mk hr2
  have p0 : (w.alloc (.cells #[.string s, .slice A l0.length c] 24)).cell? ⟨w.heap.size, 0, none⟩ = some (.string s) := (blk_cell b0 0).trans rfl
  have p1 : (w.alloc (.cells #[.string s, .slice A l0.length c] 24)).cell? ⟨w.heap.size, 1, none⟩ = some (.slice A l0.length c) := (blk_cell b0 1).trans rfl
  clear hr hr2 ht hba b0
  go_enter Tryd.func8, Tryd.ntmps8
  go_wp2_with fail
  generalize (w.alloc (.cells #[.string s, .slice A l0.length c] 24)) = w1 at p0 p1 HB0 HT0 ⊢
  refine (awake_c w1 HT0.out).mono ?_
  rintro e w2 ⟨rfl, hb⟩
  have HB2 := Aside0.mk (below_then HB0.out HB0.out.size hb)
  have q0 := pw_cell_below hb p0
  have q1 := pw_cell_below hb p1
  clear hb HB0 HT0 p0 p1
  go_wp2_with fail
  refine (great_c s A c l0 w2 (Kd.C_below HRW.out HB2.out) hc).mono ?_
  rintro e w3 ⟨rfl, hb⟩
  have HB3 := Aside0.mk (below_then HB2.out HB2.out.size hb)
  have r0 := pw_cell_below hb q0
  have r1 := pw_cell_below hb q1
  clear hb HB2 q0 q1
  by_cases hg : 80 < l0.length ∨ 200 < s.size
  · have dg : decide (80 < l0.length ∨ 200 < s.size) = true := decide_eq_true hg
    rw [dg]
    clear hg dg
    go_wp2
    go_ret
    exact ⟨rfl, HB3.out⟩
  have dg : decide (80 < l0.length ∨ 200 < s.size) = false := decide_eq_false hg
  rw [dg]
  have hl80 : l0.length ≤ 80 := by omega
  clear hg dg
  by_cases ha : 100 < l.length
  · have da : (l.length : Int) > 100 := by omega
    go_wp2
    go_ret
    exact ⟨rfl, HB3.out⟩
  have da : ¬ (l.length : Int) > 100 := by omega
  go_wp2_with fail
  refine (may_c s A c l0 w3 (Kd.C_below HRW.out HB3.out) hc).mono ?_
  rintro e w4 ⟨rfl, hb⟩
  have HB4 := Aside0.mk (below_then HB3.out HB3.out.size hb)
  have s0 := pw_cell_below hb r0
  have s1 := pw_cell_below hb r1
  clear hb HB3 r0 r1
  cases hm : mayB l0 with
  | false =>
    go_wp2
    go_ret
    exact ⟨rfl, HB4.out⟩
  | true =>
    have HM := Aside0.mk hm
    clear hm
    go_wp2_with fail
    refine (new_ok s A c l0 w4 (Kd.C_below HRW.out HB4.out) hc (by omega) HM.out).mono ?_
    rintro e w5 ⟨⟨g, v, rfl, hs⟩, hb⟩
    have HB5 := Aside0.mk (below_then HB4.out HB4.out.size hb)
    have t0 := pw_cell_below hb s0
    have t1 := pw_cell_below hb s1
    have hH := Hs.one (w0 := w) hs hb.size HRW.out hc hl80
    have hB6 := hb.trans ((below_alloc2 w5 (.cells #[.string s, .slice A l0.length c] 24) (.cells #[.bool false] 4)).mono hb.size)
    have HH6 := Aside0.mk hH
    have HB6 := Aside0.mk hB6
    clear hs hb hH hB6 s0 s1
    go_wp2_with fail
    clear t0 t1
    generalize (w5.alloc (.cells #[.string s, .slice A l0.length c] 24)).alloc (.cells #[.bool false] 4) = w6 at HH6 HB6 ⊢
    generalize w5.heap.size = b5 at HH6 ⊢
    go_loopw [7, 8, 9] (fun v7 v8 v9 wr => ∃ (i : Nat) (v : Value) (ls : List Sl) (hs : List Hd), i ≤ l.length ∧ v9 = .int .i64 i ∧ Aside0 (Hs w wr w4.heap.size g v v7 v8 ls hs) ∧ Aside0 (Below w4.heap.size w4 wr)) (fun _ _ v9 _ => l.length - (intOf v9).toNat)
    case atStart => exact ⟨0, _, _, _, by omega, rfl, HH6, HB6⟩
    case round =>
      obtain ⟨i, v, ls, hs, hi, rfl, HH, HB⟩ := hrel
      obtain ⟨w7, rfl⟩ : ∃ w7 : World, w7 = wr := ⟨_, rfl⟩
      clear HH6 HB6
      by_cases hlt : i < l.length
      · obtain ⟨ad, A3, c3, rfl, a0, a1, a2, a3, hlc3, hC3⟩ := at_T55 HAW.out i (by omega) (by omega)
        rw [Int.toNat_natCast] at a0 a1 a2 a3
        generalize rd_T55 l (i : Int) = act at a0 a1 a2 a3 hlc3 hC3
        obtain ⟨kd, hd2, s2, l2⟩ := act
        dsimp only at a0 a1 a2 a3 hlc3 hC3
        have HCw := Aside0.mk hC3
        have HBw := Aside0.mk (below_then HB4.out HB4.out.size HB.out)
        have a0 := pw_cell_below HBw.out a0
        have a1 := pw_cell_below HBw.out a1
        have a2 := pw_cell_below HBw.out a2
        have a3 := pw_cell_below HBw.out a3
        clear hC3
        have hi64 : IntKind.i64.wrap ((i : Int) + 1) = (i : Int) + 1 := i64w (by omega) (by omega)
        go_wp2_with fail
        have AB := Aside0.mk (blk_new w7 (.cells #[.int .u8 kd, .int .i64 hd2, .string s2, .slice A3 l2.length c3] 55))
        have hb0 := below_alloc (Below.refl w7.heap.size w7) (.cells #[.int .u8 kd, .int .i64 hd2, .string s2, .slice A3 l2.length c3] 55)
        refine (great_c s2 A3 c3 l2 _ (Kd.C_below HCw.out (below_then HBw.out HBw.out.size hb0)) hlc3).mono ?_
        rintro e wa ⟨rfl, hbx⟩
        have HBa := Aside0.mk (below_then HB.out HB.out.size (below_then hb0 hb0.size hbx))
        have ABa := Aside0.mk (blk_below AB.out hbx)
        have HHa := Aside0.mk (HH.out.below (below_then hb0 hb0.size hbx))
        clear hb0 hbx AB HH a0 a1 a2 a3
        have HW : ∀ {W : World}, Below w4.heap.size w4 W → Below w.heap.size w W := fun h => below_then HB4.out HB4.out.size h
        have HW := Aside0.mk (@HW)
        by_cases hgr : 80 < l2.length ∨ 200 < s2.size
        · have dgr : decide (80 < l2.length ∨ 200 < s2.size) = true := decide_eq_true hgr
          rw [dgr]
          clear hgr
          go_wp2
          go_ret
          exact ⟨rfl, HW.out HBa.out⟩
        · have dgr : decide (80 < l2.length ∨ 200 < s2.size) = false := decide_eq_false hgr
          rw [dgr]
          have hl2 : l2.length ≤ 80 := by omega
          clear hgr dgr
          have a0 := (blk_cell ABa.out 0).trans rfl
          have a1 := (blk_cell ABa.out 1).trans rfl
          have a2 := (blk_cell ABa.out 2).trans rfl
          have a3 := (blk_cell ABa.out 3).trans rfl
          generalize w7.heap.size = ba at ABa a0 a1 a2 a3 ⊢
          go_upto_if 57 with (fail)
          go_cut [7, 8] from 47 to 109 (fun v7 v8 wx => ∃ v' ls' hs', Aside0 (Hs w wx w4.heap.size g v' v7 v8 ls' hs') ∧ Aside0 (Below w4.heap.size w4 wx))
          case first =>
            have hp := HHa.out.fit.1
            have hn32 := HHa.out.fit.2.1
            obtain ⟨Ag, cg, Ao, co, hvg, hvo, hlg, hlo⟩ := HHa.out.forms
            subst hvg hvo
            have hbs := Aside0.mk HBa.out.size
            by_cases hm0 : kd.tmod 2 = 0
            · have hd0 : (kd.tmod 2 == 0) = true := by simpa using hm0
              clear hm0
              have HADD := Aside0.mk (add_any w4.heap.size (fun _ => True) g v ls s2 A3 c3 l2 wa HHa.out.tab hbs.out (fun _ _ => trivial) (Kd.C_below HCw.out (HW.out HBa.out)) hlc3 (by omega) hp hn32)
              have HMY := Aside0.mk (fun (W : World) (h : Below w4.heap.size w4 W) => may_c s2 A3 c3 l2 W (Kd.C_below HCw.out (HW.out h)) hlc3)
              by_cases hmy : mayB l2 = true
              · rw [hmy] at HMY
                by_cases h32 : ls.length = 32
                · rw [show addE l2 ls = 4 by unfold addE; rw [if_pos hmy, if_pos h32], show addN l2 ls = 0 by unfold addN; rw [if_pos hmy, if_pos h32], show addL s2 l2 ls = ls by unfold addL; rw [if_pos hmy, if_pos h32]] at HADD
                  have hn : ¬ ((ls.length : Int) < 32) := by omega
                  have HH := HHa
                  clear h32
                  go_wp2_with fail
                  refine HADD.out.mono ?_
                  rintro e w8 ⟨rfl, ⟨v8, hs8⟩, hk8, hb8⟩
                  have HB8 := Aside0.mk (HBa.out.trans hb8)
                  have AB8 := Aside0.mk (blk_keep_s ABa.out HHa.out.tab (by decide) (by decide) hk8)
                  have HH8 := Aside0.mk (HHa.out.tabs hs8 hk8)
                  clear hs8 hk8 hb8 HADD HH a0 a1 a2 a3
                  have a2 := (blk_cell AB8.out 2).trans rfl
                  have a3 := (blk_cell AB8.out 3).trans rfl
                  go_wp2_with fail
                  refine (HMY.out w8 HB8.out).mono ?_
                  rintro e w9 ⟨rfl, hb⟩
                  have HB9 := Aside0.mk (below_then HB8.out HB8.out.size hb)
                  have HH9 := Aside0.mk (HH8.out.below hb)
                  clear hb a2 a3
                  go_wp2_with fail
                  go_meet
                  exact ⟨_, _, _, HH9, HB9⟩
                · rw [show addE l2 ls = 0 by unfold addE; rw [if_pos hmy, if_neg h32], show addN l2 ls = ls.length by unfold addN; rw [if_pos hmy, if_neg h32], show addL s2 l2 ls = ls ++ [⟨⟨s2, l2⟩, false⟩] by unfold addL; rw [if_pos hmy, if_neg h32]] at HADD
                  have hn : (ls.length : Int) < 32 := by omega
                  have hne : ((ls.length : Int) != (ls.length : Int)) = false := by simp
                  clear h32
                  go_wp2_with fail
                  refine HADD.out.mono ?_
                  rintro e w8 ⟨rfl, ⟨v8, hs8⟩, hk8, hb8⟩
                  have HB8 := Aside0.mk (HBa.out.trans hb8)
                  have AB8 := Aside0.mk (blk_keep_s ABa.out HHa.out.tab (by decide) (by decide) hk8)
                  have TAB8 := Aside0.mk hs8
                  have RG8 := Aside0.mk (q_keep_s HHa.out.rg HHa.out.tab EHT EHS hk8)
                  have RO8 := Aside0.mk (q_keep_s HHa.out.ro HHa.out.tab EBT EBS hk8)
                  clear hs8 hk8 hb8 HADD a0 a1 a2 a3
                  have a2 := (blk_cell AB8.out 2).trans rfl
                  have a3 := (blk_cell AB8.out 3).trans rfl
                  go_wp2_with fail
                  refine (HMY.out w8 HB8.out).mono ?_
                  rintro e w9 ⟨rfl, hb⟩
                  have HB9 := Aside0.mk (below_then HB8.out HB8.out.size hb)
                  have AB9 := Aside0.mk (blk_below AB8.out hb)
                  have TAB9 := Aside0.mk (TAB8.out.below hb)
                  have RG9 := Aside0.mk (Kd.Q_below RG8.out hb)
                  have RO9 := Aside0.mk (Kd.Q_below RO8.out hb)
                  have HZ9 := Aside0.mk HB9.out.size
                  clear hb a2 a3 TAB8 RG8 RO8
                  have a2 := (blk_cell AB9.out 2).trans rfl
                  have a3 := (blk_cell AB9.out 3).trans rfl
                  have hhl := Aside0.mk HHa.out.len
                  have hsz40 : Aside0 ((hs.length + 1) * 40 ≤ 140737488355328) := ⟨by rw [hhl.out]; omega⟩
                  have hsz1 : Aside0 (((ls.map (·.f1)).length + 1) * 1 ≤ 140737488355328) := ⟨by rw [List.length_map]; omega⟩
                  go_wp2_with (at_builtin; first
                    | (refine Kd.Q_append kH (w0 := w9) w4.heap.size rfl (.tmp 82) (.tmp 85) 33 24 (.agg #[.string ⟨#[]⟩, .slice none 0 0]) 40 rfl Tryd.underlying33 infoG rfl (by decide) (by decide) (.slice Ag ls.length cg) hs (s2, (A3, l2.length, c3)) [.string s2, .slice A3 l2.length c3] (fun _ => True) (fun _ => False) rfl rfl (kH_mkM _ _ _ _) (fun _ h => h.elim) (fun _ _ => trivial) RG9.out (Below.refl _ _) HZ9.out hsz40.out ?_; intro v1 w10 hrow hbl hgr hat; have RG10 := Aside0.mk hrow; have TAB10 := Aside0.mk (grown_g TAB9.out RG9.out hgr); have RO10 := Aside0.mk (grown_go RO9.out RG9.out hgr); have HB10 := Aside0.mk (HB9.out.trans hbl); have HZ10 := Aside0.mk (Nat.le_trans HZ9.out hgr.size); clear hrow hbl hgr hat)
                    | (refine Kd.Q_append Kd.bool (w0 := w10) w4.heap.size rfl (.tmp 87) (.tmp 88) 53 4 (.bool false) 1 rfl Tryd.underlying53 infoBl rfl (by decide) (by decide) (.slice Ao ls.length co) (ls.map (·.f1)) false [.bool false] (fun _ => True) (fun _ => False) rfl rfl rfl (fun _ h => h.elim) (fun _ _ => trivial) RO10.out (Below.refl _ _) HZ10.out hsz1.out ?_; intro v2 w11 hrow hbl hgr hat; have RO11 := Aside0.mk hrow; have TAB11 := Aside0.mk (grown_b TAB10.out RO10.out hgr); have RG11 := Aside0.mk (grown_bg RG10.out RO10.out hgr); have HB11 := Aside0.mk (HB10.out.trans hbl); clear hrow hbl hgr hat))
                  go_meet
                  have hf := HHa.out.fit.add (s := s2) hl2
                  rw [show addL s2 l2 ls = ls ++ [⟨⟨s2, l2⟩, false⟩] by unfold addL; rw [if_pos hmy, if_neg (by omega)]] at hf
                  exact ⟨_, _, _, ⟨HHa.out.snoc TAB11.out RG11.out RO11.out ⟨rfl, rfl, hlc3, HCw.out⟩ hf⟩, HB11⟩
              · have hmy : mayB l2 = false := by simpa using hmy
                rw [hmy] at HMY
                rw [show addE l2 ls = 2 by unfold addE; rw [if_neg (by simp [hmy])], show addN l2 ls = 0 by unfold addN; rw [if_neg (by simp [hmy])], show addL s2 l2 ls = ls by unfold addL; rw [if_neg (by simp [hmy])]] at HADD
                go_wp2_with fail
                refine HADD.out.mono ?_
                rintro e w8 ⟨rfl, ⟨v8, hs8⟩, hk8, hb8⟩
                have HB8 := Aside0.mk (HBa.out.trans hb8)
                have AB8 := Aside0.mk (blk_keep_s ABa.out HHa.out.tab (by decide) (by decide) hk8)
                have HH8 := Aside0.mk (HHa.out.tabs hs8 hk8)
                clear hs8 hk8 hb8 HADD a0 a1 a2 a3
                have a2 := (blk_cell AB8.out 2).trans rfl
                have a3 := (blk_cell AB8.out 3).trans rfl
                go_wp2_with fail
                refine (HMY.out w8 HB8.out).mono ?_
                rintro e w9 ⟨rfl, hb⟩
                have HB9 := Aside0.mk (below_then HB8.out HB8.out.size hb)
                have HH9 := Aside0.mk (HH8.out.below hb)
                clear hb a2 a3
                go_wp2_with fail
                go_meet
                exact ⟨_, _, _, HH9, HB9⟩
            · have hd0 : (kd.tmod 2 == 0) = false := by simpa using hm0
              clear hm0
              go_wp2_with fail
              obtain ⟨kN, hkN, hklt⟩ : ∃ kN : Nat, wrap64 ((IntKind.u64.wrap hd2).tmod (ls.length : Int)) = (kN : Int) ∧ kN < ls.length := by
                have h0 := wrap_u64_nonneg hd2
                obtain ⟨U, hU⟩ : ∃ U : Nat, IntKind.u64.wrap hd2 = (U : Int) := ⟨(IntKind.u64.wrap hd2).toNat, by omega⟩
                have hlt := Nat.mod_lt U hp
                refine ⟨U % ls.length, ?_, hlt⟩
                rw [hU, show ((U : Int).tmod (ls.length : Int)) = ((U % ls.length : Nat) : Int) from rfl]
                generalize U % ls.length = q at hlt ⊢
                unfold wrap64
                omega
              rw [hkN]
              obtain ⟨x, hx⟩ : ∃ x, ls[kN]? = some x := ⟨_, List.getElem?_eq_getElem hklt⟩
              obtain ⟨b2, o2, cz, hvo, m0, mf, hb2⟩ := HHa.out.mark hx
              injection hvo with e1 e2 e3
              subst e1 e3
              obtain ⟨cells, hcl⟩ := Kd.Q_typed HHa.out.ro b2 rfl
              have HCL := Aside0.mk hcl
              have HMF := Aside0.mk mf
              have HHd := Aside0.mk (HHa.out.below (below_drew (Below.refl wa.heap.size wa)))
              have HBd := Aside0.mk (below_drew HBa.out)
              have HK := Aside0.mk hklt
              have HB2 := Aside0.mk hb2
              have hki : (kN : Int) < (ls.length : Int) := by omega
              have FA := Aside0.mk (free_any w4.heap.size (fun _ => True) g v ls (kN : Int) wa.drew HHd.out.tab hp)
              have hgk := getH_at hx
              clear hcl mf hb2 a0 a1 a2 a3 hkN e2
              cases hf1 : x.f1 with
              | true =>
                rw [hf1] at m0
                rw [show atE (kN : Int) ls = 110 by unfold atE; rw [hgk, hf1]; rfl] at FA
                clear hgk hx hf1
                go_region_held3 (fun W => W.cell? ⟨b2, o2 + kN, none⟩ = some (.bool true))
                  (first | exact y0 | exact m0)
                  (first | (go_at_call 23; with_reducible refine FA.out.mono ?_; rintro e w8 ⟨rfl, hs8, hk8, hb8⟩; have hk8 := kept_wr (g := g) hk8; have HH8 := Aside0.mk (HHd.out.free HK.out hs8 hk8); have HE8 := Aside0.mk (blk_keep_s (W := wa.drew) HCL.out HHd.out.tab (by decide) (by decide) hk8); have y0 := (cell_eqb (HE8.out.trans HCL.out.symm)).trans m0; have yf := (frozen_eqb (HE8.out.trans HCL.out.symm)).trans HMF.out; have HB8 := Aside0.mk (HBd.out.trans hb8); clear hs8 hk8 hb8))
                all_goals (
                  go_wp2_with fail
                  go_meet
                  exact ⟨_, _, _, HH8, ⟨HB8.out.setCell (p := ⟨b2, o2 + kN, none⟩) HB2.out _⟩⟩)
              | false =>
                rw [hf1] at m0
                rw [show atE (kN : Int) ls = 0 by unfold atE; rw [hgk, hf1]; rfl] at FA
                clear hgk hx hf1
                go_region_held3 (fun W => W.cell? ⟨b2, o2 + kN, none⟩ = some (.bool false))
                  (first | exact y0 | exact m0)
                  (first | (go_at_call 23; with_reducible refine FA.out.mono ?_; rintro e w8 ⟨rfl, hs8, hk8, hb8⟩; have hk8 := kept_wr (g := g) hk8; have HH8 := Aside0.mk (HHd.out.free HK.out hs8 hk8); have HE8 := Aside0.mk (blk_keep_s (W := wa.drew) HCL.out HHd.out.tab (by decide) (by decide) hk8); have y0 := (cell_eqb (HE8.out.trans HCL.out.symm)).trans m0; have yf := (frozen_eqb (HE8.out.trans HCL.out.symm)).trans HMF.out; have HB8 := Aside0.mk (HBd.out.trans hb8); clear hs8 hk8 hb8))
                all_goals (
                  go_wp2_with fail
                  go_meet
                  exact ⟨_, _, _, HH8, ⟨HB8.out.setCell (p := ⟨b2, o2 + kN, none⟩) HB2.out _⟩⟩)
          case rest =>
            obtain ⟨v', ls', hs', HH8, HB8⟩ := hcut
            obtain ⟨w8, rfl⟩ : ∃ w8 : World, w8 = wc := ⟨_, rfl⟩
            obtain ⟨Ag, cg, Ao, co, hvg, hvo, hlg, hlo⟩ := HH8.out.forms
            have hn32 := HH8.out.fit.2.1
            subst hvg hvo
            clear a0 a1 a2 a3 HHa ABa HBa hl2
            go_wp2_with fail
            go_loopw [14] (fun v14 wr => ∃ j : Nat, j ≤ ls'.length ∧ v14 = .int .i64 j ∧ Aside0 (Below w8.heap.size w8 wr)) (fun v14 _ => ls'.length - (intOf v14).toNat)
            case atStart => exact ⟨0, by omega, rfl, ⟨Below.refl _ _⟩⟩
            case round =>
              obtain ⟨j, hj, rfl, HL⟩ := hrel
              obtain ⟨w9, rfl⟩ : ∃ w9 : World, w9 = wr := ⟨_, rfl⟩
              have HH9 := Aside0.mk (HH8.out.below HL.out)
              by_cases hjn : j < ls'.length
              · have hj64 : IntKind.i64.wrap ((j : Int) + 1) = (j : Int) + 1 := i64w (by omega) (by omega)
                have hji : (j : Int) < (ls'.length : Int) := by omega
                obtain ⟨x, hx⟩ : ∃ x, ls'[j]? = some x := ⟨_, List.getElem?_eq_getElem hjn⟩
                obtain ⟨b2, o2, cz, hvo, m0, mf, hb2⟩ := HH9.out.mark hx
                injection hvo with e1 e2 e3
                subst e1 e3
                have hgk := getH_at hx
                clear mf hb2 e2
                have HJ := Aside0.mk (show j + 1 ≤ ls'.length by omega)
                have HMM : Aside0 (ls'.length - (j + 1) < ls'.length - j) := ⟨by omega⟩
                cases hf1 : x.f1 with
                | true =>
                  rw [hf1] at m0
                  have AT := Aside0.mk (at_none w4.heap.size (fun _ => True) g v' ls' (j : Int) w9 HH9.out.tab HH8.out.fit.1 (by rw [hgk, hf1]; rfl))
                  clear hgk hx hf1 hj hjn
                  go_wp2_with fail
                  refine AT.out.mono ?_
                  rintro e w10 ⟨rfl, hb⟩
                  have HL10 := Aside0.mk (below_then HL.out HL.out.size (below_then hb hb.size (below_alloc (Below.refl w10.heap.size w10) (.cells #[.string ⟨#[]⟩, .slice none 0 0] 24))))
                  have m1 := cell_alloc1 (pw_cell_below hb m0) (.cells #[.string ⟨#[]⟩, .slice none 0 0] 24)
                  clear hb m0 AT
                  go_upto_region 31 with fail
                  go_quiet (fail)
                  go_wp2
                  exact ⟨⟨j + 1, HJ.out, by go_num, ⟨pw_below_drewN HL10.out _⟩⟩, by simp [intOf]; have := HMM.out; omega⟩
                | false =>
                  rw [hf1] at m0
                  obtain ⟨b, o, cy, A5, c5, hvg, g0, g1, hc5, hC5⟩ := HH9.out.at_ hx
                  injection hvg with e1 e2 e3
                  subst e1 e3
                  have hx80 := HH8.out.fit.2.2 x (List.mem_of_getElem? hx)
                  have AT := Aside0.mk (at_some w4.heap.size (fun _ => True) g v' ls' (j : Int) x w9 HH9.out.tab (by rw [hgk, hf1]; rfl) (by omega))
                  obtain ⟨⟨xk, xr⟩, xg⟩ := x
                  dsimp only at g0 g1 hc5 hC5 hx80 AT
                  have HC5 := Aside0.mk hC5
                  clear hgk hx hf1 hj hjn e2 hC5 hx80
                  go_wp2_with fail
                  refine AT.out.mono ?_
                  rintro e w10 ⟨⟨u, rfl, hR⟩, hb⟩
                  obtain ⟨A6, c6, rfl, hl6, hC6⟩ := Kd.R_reads hR
                  have hba := below_alloc (Below.refl w10.heap.size w10) (.cells #[.string xk, .slice A6 xr.length c6] 24)
                  have hbb := below_then hb hb.size hba
                  have HL10 := Aside0.mk (below_then HL.out HL.out.size hbb)
                  have m1 := pw_cell_below hbb m0
                  have g2 := pw_cell_below hbb g0
                  have g3 := pw_cell_below hbb g1
                  have hn := blk_new w10 (.cells #[.string xk, .slice A6 xr.length c6] 24)
                  have x0 : (w10.alloc (.cells #[.string xk, .slice A6 xr.length c6] 24)).cell? ⟨w10.heap.size, 0, none⟩ = some (.string xk) := (blk_cell hn 0).trans rfl
                  have x1 : (w10.alloc (.cells #[.string xk, .slice A6 xr.length c6] 24)).cell? ⟨w10.heap.size, 1, none⟩ = some (.slice A6 xr.length c6) := (blk_cell hn 1).trans rfl
                  have HC6 := Aside0.mk (Kd.C_below hC6 hba)
                  clear hb hba hbb hn hR hC6 m0 g0 g1 AT
                  go_upto_region 31 with fail
                  generalize w10.alloc (.cells #[.string xk, .slice A6 xr.length c6] 24) = w11 at HL10 m1 g2 g3 x0 x1 HC6 ⊢
                  generalize w10.heap.size = bx at x0 x1 ⊢
                  have HB11 := below_then HB4.out HB4.out.size (below_then HB8.out HB8.out.size HL10.out)
                  have SA := Aside0.mk (same_cc xk A6 c6 A5 c5 xr w11.drew (C_drew HC6.out) hl6 (C_drew (Kd.C_below HC5.out HB11)) hc5)
                  clear HB11
                  go_region_held3 (fun W => W.cell? ⟨b2, o2 + j, none⟩ = some (.bool false) ∧ W.cell? ⟨b, o + j * 2, none⟩ = some (.string xk) ∧ W.cell? ⟨b, o + j * 2 + 1, none⟩ = some (.slice A5 xr.length c5) ∧ W.cell? ⟨bx, 0, none⟩ = some (.string xk) ∧ W.cell? ⟨bx, 1, none⟩ = some (.slice A6 xr.length c6))
                    (first | exact ⟨k1, k2, k3, k4, k5⟩ | exact ⟨m1, g2, g3, x0, x1⟩)
                    (first | (go_at_call 15; with_reducible refine SA.out.mono ?_; rintro e w12 ⟨rfl, hb⟩; have hb := below_of_drew hb; have HL12 := Aside0.mk (below_then HL10.out HL10.out.size hb); have k1 := pw_cell_below hb m1; have k2 := pw_cell_below hb g2; have k3 := pw_cell_below hb g3; have k4 := pw_cell_below hb x0; have k5 := pw_cell_below hb x1; clear hb))
                  all_goals (
                    clear m1 g2 g3 x0 x1
                    go_wp2
                    exact ⟨⟨j + 1, HJ.out, by go_num, HL12⟩, by simp [intOf]; have := HMM.out; omega⟩)
              · obtain rfl : j = ls'.length := by omega
                have HB9 := Aside0.mk (below_then HB8.out HB8.out.size HL.out)
                go_wp2
                exact ⟨⟨i + 1, v', ls', hs', by omega, by go_num, HH9, HB9⟩, by simp [intOf]; omega⟩
      · obtain rfl : i = l.length := by omega
        go_wp2
        go_ret
        exact ⟨rfl, below_then HB4.out HB4.out.size HB.out⟩
end Go.Proofs.YtkifmhfgplhabaaDoor.HQ

namespace Go.Proofs.YtkifmhfgplhabaaDoor.groupHandles
open Go.ChangeShapes Go.WideShapes Go.ChangeAt Go.RowKit Go.Joins
open Go.ChangeMaps (open_string shut_string)
set_option linter.unusedVariables false
theorem own : ownKnob Tryd.prog.godebug = none := by kernel_rfl
theorem laidOut : laidOutB Tryd.prog = true := by kernel_rfl
theorem cellsG : Tryd.prog.cellsOf 24 = 2 := by kernel_rfl
set_option maxRecDepth 100000 in
theorem lifted (os : Os) (started : os.Started) (H : Type) (enc : TypeId × Value → H) :
    ReturnsInHanded {} Tryd.checked os 8 .any (fun w args => (Rows.groupHandlesSpec.pre enc Tryd.prog Tryd.f8 [] false w args ∧ laidMetH Tryd.prog HR.laid3 w) ∧ sizedMet enc Tryd.prog Tryd.f8 (OpenSpec.ofChange Rows.groupHandlesSpec) false w args)
      (Rows.groupHandlesSpec.post enc Tryd.prog Tryd.f8 false true false false) := by
  refine returnsInHanded_of_change_and (C := Tryd.checked) (X := fun w _ => laidMetH Tryd.prog HR.laid3 w) (fun _ _ _ hh h => h.of_heap hh) own started (by kernel_rfl) Tryd.func8
    (ChangeSpec.witness_shaped (enc := enc) (C := Tryd.checked) (os := os) (X := fun w _ => laidMetH Tryd.prog HR.laid3 w) false (World.doorLaid Tryd.prog 24 os) #[.agg #[.string ⟨#[]⟩, .slice none 0 0], .slice none 0 0] 8 rfl (World.shaped_of_RefB (by kernel_rfl) (by kernel_rfl)) (by kernel_rfl) (by kernel_rfl) (by kernel_rfl) (HR.door_met os _)) ?_
  intro W base args ds gs before hval0 hW _ _ hL _
  have hval : ∀ (j : Nat) t v, Tryd.f8.params[j]? = some t → args[j]? = some v → Value.okWide Tryd.prog W .any base t v := hval0
  have hW' := hW
  obtain ⟨p, q, hA0, hV, rfl, hfz, hnd⟩ := hW
  have hA : DataW.TrodAll enc Tryd.prog W 0 (fun _ => true) true Tryd.f8.params.toList args.toList ds p := hA0
  rw [Tryd.params8] at hA hval
  obtain ⟨v0, vs0, d0, ds0, p0, q0, hargs, rfl, rfl, h0, r0⟩ := trodAll_cons hA
  obtain ⟨v1, vs1, d1, ds1, p1, q1, rfl, rfl, rfl, h1, r1⟩ := trodAll_cons r0
  obtain ⟨rfl, rfl, rfl⟩ := trodAll_nil r1
  obtain rfl : args = #[v0, v1] := by cases args; simp_all
  obtain ⟨rfl, rfl⟩ := trodVars_none hV
  have k0 := h0
  have lt0 : ∀ x ∈ p0, x.block < W.heap.size := by obtain ⟨m, hm⟩ := k0; exact DataW.trod_lt m _ _ _ hm
  obtain ⟨c00, c10, y00, y10, m0, rfl, rfl, rfl, hy00, hy10⟩ := open_agg2 Tryd.underlying24 (by kernel_rfl) cellsG (hval 0 24 v0 rfl rfl) h0
  obtain ⟨s0, hs10, hs20, hs30⟩ := DataW.trod_string Tryd.underlying9 hy00
  obtain rfl : c00 = .string s0 := by simpa using hs10
  obtain ⟨a0, cc0, ys0, hs40, hyc0, hyr0⟩ := HR.open_ints_kd hy10
  obtain rfl : c10 = .slice a0 ys0.length cc0 := by simpa using hs40
  have k1 := h1
  have lt1 : ∀ x ∈ p1, x.block < W.heap.size := by obtain ⟨m, hm⟩ := k1; exact DataW.trod_lt m _ _ _ hm
  obtain ⟨a1, l1, c1, rfl⟩ := okWide_slice Tryd.underlying49 (hval 1 49 v1 rfl rfl)
  obtain ⟨xs1, rfl, hc1, hr1⟩ := HR.open_acts h1
  have hT := HR.tab_of_laid hL
  clear hA0 hval0 hL
  refine (HQ.handles_c s0 a0 cc0 ys0 a1 c1 xs1 W hyr0 hyc0 hr1 hc1 hT).mono fun e W' ⟨he, bel⟩ => ?_
  subst he
  exact ⟨_, rfl, _, _, _, [], _, [], hW', trodAll_mk1 (shut_bool Tryd.underlying4 _), (trodAll_cons_mk (Below.trod laidOut (by kernel_rfl) (of_decide_eq_true (by kernel_rfl)) k0 bel lt0) (trodAll_cons_mk (Below.trod laidOut (by kernel_rfl) (of_decide_eq_true (by kernel_rfl)) k1 bel lt1) trodAll_mk0)), rfl, bel.frame _, fun h => by cases h⟩
theorem proved : Rows.GroupHandlesSaid :=
  OpenClaim.holds_of_wide 8 Tryd.f8 rfl rfl rfl rfl rfl rfl rfl ⟨rfl, rfl, rfl, rfl, rfl⟩ rfl rfl rfl rfl rfl (by kernel_rfl) Tryd.func8 (by kernel_rfl)
    (of_decide_eq_true (by kernel_rfl)) (by unfold Func.isWrapper; first | (rw [if_pos (by decide +kernel)]; kernel_rfl) | (rw [if_neg (by decide +kernel)]; exact ⟨rfl, rfl⟩))
    (fun os started H enc _ => lifted os started H enc)
theorem whole : Rows.GroupHandlesCardSaid :=
  Claim7.holds_tied_plain_at .later [] [.data, .data, .data] true Rows.groupHandlesCard.stood.harness Rows.groupHandlesCard.stood.looks
    proved (fun _ h => by cases h) (by kernel_rfl) (fun _ h => by cases h) groupHandles_row_tie rfl ⟨rfl, rfl⟩ (by kernel_rfl) rfl
    (fun f fn hf hfn => by
      obtain rfl : f = 8 := Option.some.inj ((show Tryd.prog.funcNamed "dispatcher/dispatcherlaw11.GroupHandles" = some 8 by kernel_rfl).symm.trans hf) |>.symm
      obtain rfl : fn = Tryd.f8 := (Option.some.inj (Tryd.func8.symm.trans hfn)).symm
      exact ⟨by kernel_rfl, fun j t ht => by
        rw [Tryd.params8] at ht
        have hm : t ∈ [24, 49] := by simpa using Array.mem_of_getElem? ht
        have hall : ([24, 49].all fun u => !Tryd.prog.wantsStandIn u) = true := by kernel_rfl
        exact (show Tryd.prog.wantsStandIn t = false by simpa using List.all_eq_true.1 hall t hm)⟩)
    (by kernel_rfl)
end Go.Proofs.YtkifmhfgplhabaaDoor.groupHandles
namespace Go.Proofs.YtkifmhfgplhabaaDoor
/-- The card, under a short name, for the claim. -/
theorem groupHandles_holds : Rows.GroupHandlesCardSaid := groupHandles.whole
end Go.Proofs.YtkifmhfgplhabaaDoor
