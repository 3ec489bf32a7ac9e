/- GroupParts: whatever comes in, the law answers true, and what came in reads as it did; the tables that it lists are tied to the program's text. No condition. -/
import Derived.Test.YtkifmhfgplhabaaDoorHRg
import Derived.Test.YtkifmhfgplhabaaDoorGdA
import Derived.Test.YtkifmhfgplhabaaDoorRows
import Derived.Test.YtkifmhfgplhabaaDoorTie
import Derived.Test.YtkifmhfgplhabaaDoorCards
import Derived.LaidMore
import Derived.Stop.Joined
import Derived.WalkKit
import Derived.Below
import Derived.SevenTiedAt
import Derived.Test.YtkifmhfgplhabaaDoorGdE
import Derived.Test.YtkifmhfgplhabaaDoorGdB
import Derived.Deep.QuietTactic
import Derived.ProofKit
import Derived.OpenShut
import Derived.ShutString
import Derived.ChangeOld
import Derived.SizedLaws
import Derived.Lib.SmallJoins
namespace Go.Proofs.YtkifmhfgplhabaaDoor.HR
open Go.RowKit Go.Joins Go.ChangeShapes Go.WideShapes Go.Deep Go.Proofs.YtkifmhfgplhabaaDoor.HK Go.Proofs.YtkifmhfgplhabaaDoor.HQ Go.Proofs.YtkifmhfgplhabaaDoorW.PrintWords Go.Proofs.YtkifmhfgplhabaaDoorW.PrintLast Go.Proofs.YtkifmhfgplhabaaDoorW.PrintMore
set_option linter.unusedVariables false
theorem rng_of {n : Int} (h : (Lit.int .i64 n).wf = true) : Rng n := by
  simp only [Lit.wf, Bool.and_eq_true, decide_eq_true_eq] at h
  exact ⟨h.1, h.2⟩
section
variable {H : Type} {enc : TypeId × Value → H} {w : World} {sp : Nat → Bool} {held : Bool}
theorem open_kdP {α : Type} {P : Program} (d : Kd α) (p : α → Prop) {t e : TypeId} (ht : P.underlying t = some (.slice e)) (hsz : P.cellsOf e = d.sz)
    (hel : ∀ n cs y, cs.length = d.sz → DataW.trod enc P w 0 sp held n e cs = some y → ∃ x, d.K w x cs ∧ p x)
    {fuel : Nat} {v : Value} {x : DataW H × List MemPlace} (h : DataW.trod enc P w 0 sp held fuel t [v] = some x) :
    ∃ A c xs, v = .slice A xs.length c ∧ xs.length ≤ c ∧ d.C w A xs.length xs ∧ ∀ x ∈ xs, p x := by
  rcases open_slice ht h with ⟨hcs, _⟩ | ⟨a, len, cap, m, n, D, Pl, hcs, _, hl, hm, hmm, _, hx⟩
  · obtain rfl : v = .slice none 0 0 := by simpa using hcs
    exact ⟨none, 0, [], rfl, Nat.le_refl _, ⟨rfl, by simp, fun h => absurd h (by simp)⟩, by simp⟩
  · obtain rfl : v = .slice (some a) len cap := by simpa using hcs
    have hlm : len ≤ m := by rw [hmm]; split <;> omega
    obtain ⟨xs, hxl, hxs⟩ := choose_below (p := fun i x => (∃ c, c.length = d.sz ∧ d.K w x c ∧ ∀ j u, c[j]? = some u → w.cell? (a.add (i * d.sz + j)) = some u) ∧ p x) len (fun i hi => by
      obtain ⟨cs', h1, h2⟩ := hx i (by omega)
      obtain ⟨_, hlen, hc⟩ := World.cells?_some h1
      obtain ⟨x, hK, hp⟩ := hel n cs' _ (by omega) h2
      refine ⟨x, ⟨cs', by omega, hK, fun j u hu => ?_⟩, hp⟩
      have hj : j < cs'.length := by
        rcases Nat.lt_or_ge j cs'.length with h | h
        · exact h
        · rw [List.getElem?_eq_none h] at hu; exact absurd hu (by simp)
      have := hc j (by omega)
      rw [hsz] at this
      rw [← hu, ← this]
      rw [Addr.add_add])
    have hmx : maxLen = 9223372036854775807 := rfl
    subst hxl
    refine ⟨some a, cap, xs, rfl, hl, ⟨rfl, by omega, fun _ => ⟨a, rfl, fun j p hj => (hxs j p hj).1⟩⟩, fun x hx => ?_⟩
    obtain ⟨i, hi, rfl⟩ := List.getElem_of_mem hx
    exact (hxs i _ (List.getElem?_eq_getElem hi)).2
theorem cells_ask : Tryd.prog.cellsOf 40 = 2 := by kernel_rfl
set_option maxRecDepth 100000 in
theorem trod_ask {n : Nat} {cs : List Value} {y : DataW H × List MemPlace} (hl : cs.length = 2) (h : DataW.trod enc Tryd.prog w 0 sp held n 40 cs = some y) : ∃ x : S40, k40.K w x cs ∧ (Rng x.f0 ∧ Rng x.f1) := by
  obtain ⟨ys, n, _, _, _, hlen, hg⟩ := DataW.trod_struct Tryd.underlying40 h
  match cs, hl with
  | [v0, v1], _ =>
    match ys, hlen with
    | [y0, y1], _ =>
      have g0 : DataW.trod enc Tryd.prog w 0 sp held n 3 [v0] = some y0 := by simpa [cells_int] using hg 0 _ rfl
      have g1 : DataW.trod enc Tryd.prog w 0 sp held n 3 [v1] = some y1 := by simpa [cells_int] using hg 1 _ rfl
      obtain ⟨a, e0, _, r0⟩ := DataW.trod_int Tryd.underlying3 g0
      obtain ⟨b, e1, _, r1⟩ := DataW.trod_int Tryd.underlying3 g1
      simp only [List.cons.injEq, and_true] at e0 e1
      exact ⟨⟨a, b⟩, by rw [e0, e1]; exact k40_mk w ⟨a, b⟩, rng_of r0, rng_of r1⟩
theorem open_asks {a : Option Addr} {len cap : Nat} {d : DataW H} {p : List MemPlace} (h : DataW.Trod enc Tryd.prog w 0 sp held 25 (.slice a len cap) d p) :
    ∃ xs : List S40, len = xs.length ∧ xs.length ≤ cap ∧ Kd.C k40 w a xs.length xs ∧ ∀ x ∈ xs, (Rng x.f0 ∧ Rng x.f1) := by
  obtain ⟨fuel, hf⟩ := h
  have hf' : DataW.trod enc Tryd.prog w 0 sp held fuel 25 [.slice a len cap] = some (d, p) := hf
  obtain ⟨A, c, xs, e, h1, h2, h3⟩ := open_kdP k40 (fun x => Rng x.f0 ∧ Rng x.f1) Tryd.underlying25 cells_ask (fun n cs y hl hy => trod_ask (by exact hl) hy) hf'
  injection e with e1 e2 e3
  subst e1 e2 e3
  exact ⟨xs, rfl, h1, h2, h3⟩
end
/-- the three tables that a row lists -/
abbrev laid3 {H : Type} : List (String × DataW H) := [("math/bits.deBruijn32tab", Rows.laid_math_bits_deBruijn32tab), ("math/bits.deBruijn64tab", Rows.laid_math_bits_deBruijn64tab), ("internal/strconv.uint64pow10", Rows.laid_internal_strconv_uint64pow10)]
theorem door_met (os : Os) (args : Array Value) : laidMetH Tryd.prog laid3 ((World.doorLaid Tryd.prog 24 os).forCall (fun _ _ => 0) ⟨#[], args, []⟩).memory :=
  laidMetH_of_parts3 (fuel := 8) (laidMet_of_run' 8 (by kernel_rfl) (by kernel_rfl)) (by kernel_rfl) (by kernel_rfl)
theorem tTab : (Tryd.prog.globals[0]?).map (·.type) = some 98 := by kernel_rfl
theorem tab_of_laid {W : World} (h : laidMetH Tryd.prog laid3 W) : Tab W := by
  rw [MakeChecks.laidMetH_plain _ _ _ (by kernel_rfl)] at h
  obtain ⟨ps, ⟨g0, t0, cs0, f0, p0, q0, hg0, ht0, hv0, hd0, ⟨g1, t1, cs1, f1, p1, q1, hg1, ht1, hv1, hd1, ⟨g2, t2, cs2, f2, p2, q2, hg2, ht2, hv2, hd2, _, _⟩, _⟩, _⟩, _, _⟩ := h
  obtain rfl := Option.some.inj (gTab.symm.trans hg2)
  obtain rfl := Option.some.inj (tTab.symm.trans ht2)
  have hc := Lib.cells_of_tab (k := .u64) (zs := Lib.pow10Tab) Tryd.underlying98 Tryd.underlying58 (by kernel_rfl) (by kernel_rfl) hd2
  have ht : Lib.TabIs Tryd.prog W "internal/strconv.uint64pow10" .u64 Lib.pow10Tab := by
    unfold Lib.TabIs
    rw [hv2, ← hc]
  exact ⟨ht, World.block_lt_of_cell? W _ (ht.cell gTab 0 (by decide))⟩
end Go.Proofs.YtkifmhfgplhabaaDoor.HR

namespace Go.Proofs.YtkifmhfgplhabaaDoor.HQ
open Go.Proofs.YtkifmhfgplhabaaDoor.HU Go.RowKit Go.Proofs.YtkifmhfgplhabaaDoor.HK Go.Proofs.YtkifmhfgplhabaaDoor.HP Go.Proofs.YtkifmhfgplhabaaDoorW.PrintWords Go.Proofs.YtkifmhfgplhabaaDoorW.PrintLast Go.Proofs.YtkifmhfgplhabaaDoorW.PrintMore
set_option linter.unusedVariables false
set_option linter.unusedSimpArgs false
theorem index_loop (l : List Int) (x : Int) (hl : l.length ≤ 1000) (r : Int) (hr : (r = -1 ∧ ∀ j : Nat, j < l.length → rd l (j : Int) ≠ x) ∨ ∃ m : Nat, r = m ∧ m < l.length ∧ rd l (m : Int) = x ∧ ∀ j : Nat, j < m → rd l (j : Int) ≠ x) :
    ∀ n i, n = l.length - i → i ≤ l.length → (∀ m : Nat, r = m → i ≤ m) → Ev (fun k => Qgnbase.slices_Index_int_int.l0 k l x (l.length : Int) (i : Int)) r := by
  intro n
  induction n with
  | zero =>
    intro i hn hi hm
    refine Ev.round ?_ (fun k => by simp only [Qgnbase.slices_Index_int_int.l0]; rfl)
    refine Ev.neg (by omega) ?_
    rcases hr with ⟨rfl, _⟩ | ⟨m, rfl, h1, _⟩
    · exact Ev.const rfl
    · have := hm m rfl; omega
  | succ n ih =>
    intro i hn hi hm
    refine Ev.round ?_ (fun k => by simp only [Qgnbase.slices_Index_int_int.l0]; rfl)
    refine Ev.pos (by omega) ?_
    refine Ev.pos (by omega) ?_
    refine Ev.pos (by omega) ?_
    by_cases he : x = rd l (i : Int)
    · refine Ev.pos he ?_
      rcases hr with ⟨rfl, h⟩ | ⟨m, rfl, h1, h2, h3⟩
      · exact absurd he.symm (h i (by omega))
      · have h4 := hm m rfl
        have : i = m := by
          rcases Nat.lt_or_ge i m with h5 | h5
          · exact absurd he.symm (h3 i h5)
          · omega
        exact Ev.const (by rw [this])
    · refine Ev.neg he ?_
      rw [wrap64_nat i (by omega)]
      refine ih (i + 1) (by omega) (by omega) (fun m hmm => ?_)
      have h4 := hm m hmm
      rcases hr with ⟨h5, _⟩ | ⟨m', h5, _, h6, _⟩
      · omega
      · have : m = m' := by omega
        subst this
        rcases Nat.lt_or_ge i m with h7 | h7
        · exact h7
        · have : i = m := by omega
          subst this
          exact absurd h6.symm he
/-- where a rank stands -/
def posI (l : List Int) (x : Int) : Option Nat := l.findIdx? (fun y => decide (y = x))
theorem posI_some {l : List Int} {x : Int} {m : Nat} (h : posI l x = some m) : m < l.length ∧ rd l (m : Int) = x ∧ ∀ j : Nat, j < m → rd l (j : Int) ≠ x := by
  obtain ⟨h1, h2, h3⟩ := List.findIdx?_eq_some_iff_getElem.1 h
  refine ⟨h1, ?_, fun j hj => ?_⟩
  · rw [rd_lt h1]; simpa using h2
  · rw [rd_lt (by omega)]; simpa using h3 j hj
theorem posI_none {l : List Int} {x : Int} (h : posI l x = none) : ∀ j : Nat, j < l.length → rd l (j : Int) ≠ x := by
  intro j hj
  rw [rd_lt hj]
  have := List.findIdx?_eq_none_iff.1 h _ (List.getElem_mem hj)
  simpa using this
theorem number_c (s : ByteArray) (A : Option Addr) (c : Nat) (l : List Int) (x : Int) (w : World) (hr : Kd.C (Kd.int .i64) w A l.length l) (hc : l.length ≤ c) (hl : l.length ≤ 1000) :
    Calls Tryd.prog 19 #[.agg #[.string s, .slice A l.length c], .int .i64 x] w fun e w' => e = .returned (.tuple #[.int .i64 (((posI l x).getD 0 : Nat) : Int), .bool (posI l x).isSome]) ∧ Below w.heap.size w w' := by
  cases hp : posI l x with
  | some m =>
    obtain ⟨h1, h2, h3⟩ := posI_some hp
    obtain ⟨K, hK⟩ := (index_loop l x hl (m : Int) (.inr ⟨m, rfl, h1, h2, h3⟩) l.length 0 rfl (Nat.zero_le _) (fun _ _ => Nat.zero_le _)).rounds
    exact Qgnbase.group_Number.calls K s A c l x (m : Int) true w hr hc (by unfold Qgnbase.group_Number.f Qgnbase.slices_Index_int_int.f; rw [show ((0 : Nat) : Int) = 0 from rfl] at hK; rw [hK]; simp [mx]; omega)
  | none =>
    obtain ⟨K, hK⟩ := (index_loop l x hl (-1) (.inl ⟨rfl, posI_none hp⟩) l.length 0 rfl (Nat.zero_le _) (fun m hm => by omega)).rounds
    exact Qgnbase.group_Number.calls K s A c l x 0 false w hr hc (by unfold Qgnbase.group_Number.f Qgnbase.slices_Index_int_int.f; rw [show ((0 : Nat) : Int) = 0 from rfl] at hK; rw [hK]; rfl)
theorem rank_c (s : ByteArray) (A : Option Addr) (c : Nat) (l : List Int) (n : Int) (w : World) (hr : Kd.C (Kd.int .i64) w A l.length l) (hc : l.length ≤ c) :
    Calls Tryd.prog 20 #[.agg #[.string s, .slice A l.length c], .int .i64 n] w fun e w' => e = .returned (.tuple #[.int .i64 (if 0 ≤ n ∧ n < l.length then rd l n else 0), .bool (decide (0 ≤ n ∧ n < l.length))]) ∧ Below w.heap.size w w' := by
  by_cases h : 0 ≤ n ∧ n < l.length
  · rw [if_pos h, decide_eq_true h]
    exact Qgnbase.group_Rank.calls s A c l n _ true w hr hc (by unfold Qgnbase.group_Rank.f; rw [if_neg (by omega), if_neg (by omega), if_pos h.1, if_pos h.2])
  · rw [if_neg h, decide_eq_false h]
    refine Qgnbase.group_Rank.calls s A c l n 0 false w hr hc ?_
    unfold Qgnbase.group_Rank.f
    by_cases h0 : n < 0
    · rw [if_pos h0]
    · rw [if_neg h0, if_pos (by omega)]
theorem great_c (s : ByteArray) (A : Option Addr) (c : Nat) (l : List Int) (w : World) (hr : Kd.C (Kd.int .i64) w A l.length l) (hc : l.length ≤ c) :
    Calls Tryd.prog 9 #[.agg #[.string s, .slice A l.length c]] w fun e w' => e = .returned (.bool (decide (80 < l.length ∨ 200 < s.size))) ∧ Below w.heap.size w w' := by
  refine Qgnbase.dispatcherlaw11_Great.calls s A c l _ w hr hc ?_
  unfold Qgnbase.dispatcherlaw11_Great.f
  by_cases h : (l.length : Int) > 80
  · rw [if_pos h, decide_eq_true (.inl (by omega))]
  · rw [if_neg h]
    congr 1
    refine decide_eq_decide.2 ?_
    omega
theorem rd_inj {l : List Int} (h : l.Nodup) {i j : Nat} (hi : i < l.length) (hj : j < l.length) (he : rd l (i : Int) = rd l (j : Int)) : i = j := by
  rw [rd_lt hi, rd_lt hj] at he
  have hp := List.pairwise_iff_getElem.1 h
  rcases Nat.lt_trichotomy i j with h1 | h1 | h1
  · exact absurd he (hp i j hi hj h1)
  · exact h1
  · exact absurd he.symm (hp j i hj hi h1)
set_option maxRecDepth 100000 in
set_option maxHeartbeats 8000000 in
theorem round_c (s : ByteArray) (A : Option Addr) (c : Nat) (l : List Int) (n : Int) (w : World) (hr : Kd.C (Kd.int .i64) w A l.length l) (hc : l.length ≤ c) (ht : Tab w) :
    Calls Tryd.prog 7 #[.agg #[.string s, .slice A l.length c], .int .i64 n] w fun e w' => e = .returned (.bool true) ∧ Below w.heap.size w w' := by
  have b0 := blk_new w (.cells #[.string s, .slice A l.length c] 24)
  have hba := below_alloc (Below.refl w.heap.size w) (.cells #[.string s, .slice A l.length c] 24)
  have HB0 := Aside0.mk hba
  have HT0 := Aside0.mk (ht.after hba)
  have HR0 := Aside0.mk (Kd.C_below hr hba)
  have p0 : (w.alloc (.cells #[.string s, .slice A l.length c] 24)).cell? ⟨w.heap.size, 0, none⟩ = some (.string s) := (blk_cell b0 0).trans rfl
  have p1 : (w.alloc (.cells #[.string s, .slice A l.length c] 24)).cell? ⟨w.heap.size, 1, none⟩ = some (.slice A l.length c) := (blk_cell b0 1).trans rfl
  clear hr ht hba b0
  go_enter Tryd.func7, Tryd.ntmps7
  go_wp2_with fail
  generalize (w.alloc (.cells #[.string s, .slice A l.length c] 24)) = w1 at p0 p1 HB0 HT0 HR0 ⊢
  refine (awake_c w1 HT0.out).mono ?_
  rintro e w2 ⟨rfl, hb⟩
  have HB2 := Aside0.mk (below_then HB0.out HB0.out.size hb)
  have HR2 := Aside0.mk (Kd.C_below HR0.out hb)
  have q0 := pw_cell_below hb p0
  have q1 := pw_cell_below hb p1
  clear hb HB0 HT0 HR0 p0 p1
  go_wp2_with fail
  refine (great_c s A c l w2 HR2.out hc).mono ?_
  rintro e w3 ⟨rfl, hb⟩
  have HB3 := Aside0.mk (below_then HB2.out HB2.out.size hb)
  have HR3 := Aside0.mk (Kd.C_below HR2.out hb)
  have r0 := pw_cell_below hb q0
  have r1 := pw_cell_below hb q1
  clear hb HB2 HR2 q0 q1
  by_cases hg : 80 < l.length ∨ 200 < s.size
  · have dg : decide (80 < l.length ∨ 200 < s.size) = true := decide_eq_true hg
    rw [dg]
    clear hg dg
    go_wp2
    go_ret
    exact ⟨rfl, HB3.out⟩
  · have dg : decide (80 < l.length ∨ 200 < s.size) = false := decide_eq_false hg
    rw [dg]
    have hl80 : l.length ≤ 80 := by omega
    clear hg dg
    go_wp2_with fail
    refine (may_c s A c l w3 HR3.out hc).mono ?_
    rintro e w4 ⟨rfl, hb⟩
    have HB4 := Aside0.mk (below_then HB3.out HB3.out.size hb)
    have HR4 := Aside0.mk (Kd.C_below HR3.out hb)
    have s0 := pw_cell_below hb r0
    have s1 := pw_cell_below hb r1
    clear hb HB3 HR3 r0 r1
    cases hm : mayB l with
    | false =>
      go_wp2
      go_ret
      exact ⟨rfl, HB4.out⟩
    | true =>
      have hmay : MayG l := of_decide_eq_true hm
      have HND := Aside0.mk hmay.2.2
      clear hm hmay
      have HRK := Aside0.mk (rank_c s A c l n w4 HR4.out hc)
      by_cases hn : 0 ≤ n ∧ n < (l.length : Int)
      · rw [if_pos hn, decide_eq_true hn] at HRK
        obtain ⟨n0, rfl⟩ : ∃ n0 : Nat, n = n0 := ⟨n.toNat, by omega⟩
        have hn0 : n0 < l.length := by omega
        have hp := posI_none (l := l) (x := rd l (n0 : Int))
        have hpos : posI l (rd l (n0 : Int)) = some n0 := by
          cases hq : posI l (rd l (n0 : Int)) with
          | none => exact absurd rfl (posI_none hq n0 hn0)
          | some m =>
            obtain ⟨h1, h2, _⟩ := posI_some hq
            rw [rd_inj HND.out h1 hn0 h2]
        obtain ⟨f1, f2⟩ := hn
        clear hp
        go_wp2_with fail
        refine HRK.out.mono ?_
        rintro e w5 ⟨rfl, hb⟩
        have HB5 := Aside0.mk (below_then HB4.out HB4.out.size hb)
        have HR5 := Aside0.mk (Kd.C_below HR4.out hb)
        have t0 := pw_cell_below hb s0
        have t1 := pw_cell_below hb s1
        have HNM := Aside0.mk (number_c s A c l (rd l (n0 : Int)) w5 HR5.out hc (by omega))
        rw [hpos] at HNM
        clear hb HB4 HR4 s0 s1 HRK hpos
        generalize rd l (n0 : Int) = r at HNM ⊢
        go_wp2_with fail
        refine HNM.out.mono ?_
        rintro e w6 ⟨rfl, hb⟩
        have HB6 := Aside0.mk (below_then HB5.out HB5.out.size hb)
        have HR6 := Aside0.mk (Kd.C_below HR5.out hb)
        have u0 := pw_cell_below hb t0
        have u1 := pw_cell_below hb t1
        clear hb HB5 HR5 t0 t1 HNM
        rw [show ((some n0).getD 0 : Nat) = n0 from rfl, show (some n0).isSome = true from rfl]
        have HNN := Aside0.mk (number_c s A c l (n0 : Int) w6 HR6.out hc (by omega))
        cases hq : posI l (n0 : Int) with
        | some m =>
          obtain ⟨h1, h2, _⟩ := posI_some hq
          rw [hq] at HNN
          have HRM := Aside0.mk (fun (W : World) (hR : Kd.C (Kd.int .i64) W A l.length l) => rank_c s A c l (m : Int) W hR hc)
          rw [if_pos (show 0 ≤ (m : Int) ∧ (m : Int) < l.length by omega), decide_eq_true (show 0 ≤ (m : Int) ∧ (m : Int) < l.length by omega), h2] at HRM
          clear hq h1 h2
          go_wp2_with fail
          refine HNN.out.mono ?_
          rintro e w7 ⟨rfl, hb⟩
          have HB7 := Aside0.mk (below_then HB6.out HB6.out.size hb)
          have HR7 := Aside0.mk (Kd.C_below HR6.out hb)
          have v0 := pw_cell_below hb u0
          have v1 := pw_cell_below hb u1
          clear hb HB6 HR6 u0 u1 HNN
          rw [show ((some m).getD 0 : Nat) = m from rfl, show (some m).isSome = true from rfl]
          go_wp2_with fail
          refine (HRM.out w7 HR7.out).mono ?_
          rintro e w8 ⟨rfl, hb⟩
          have HB8 := Aside0.mk (below_then HB7.out HB7.out.size hb)
          clear hb HB7 HR7 v0 v1 HRM
          go_wp2
          go_ret
          exact ⟨by first | rfl | (simp; done), HB8.out⟩
        | none =>
          have HNO := Aside0.mk (posI_none hq)
          rw [hq] at HNN
          clear hq
          go_wp2_with fail
          refine HNN.out.mono ?_
          rintro e w7 ⟨rfl, hb⟩
          have HB7 := Aside0.mk (below_then HB6.out HB6.out.size hb)
          have HR7 := Aside0.mk (Kd.C_below HR6.out hb)
          have v0 := pw_cell_below hb u0
          have v1 := pw_cell_below hb u1
          clear hb HB6 HR6 u0 u1 HNN
          rw [show (none : Option Nat).isSome = false from rfl]
          go_wp2_with fail
          go_loopw [13] (fun v13 wr => ∃ i : Nat, i ≤ l.length ∧ v13 = .int .i64 i ∧ wr = w7) (fun v13 _ => l.length - (intOf v13).toNat)
          case atStart => exact ⟨0, by omega, rfl, rfl⟩
          case round =>
            obtain ⟨i, hi, rfl, hw⟩ := hrel
            subst hw
            by_cases hin : i < l.length
            · have hi64 : IntKind.i64.wrap ((i : Int) + 1) = (i : Int) + 1 := i64w (by omega) (by omega)
              have hii : (i : Int) < (l.length : Int) := by omega
              obtain ⟨aR, hAR, x0⟩ := Kd.at_int HR7.out (i : Int) (by omega) (by omega)
              rw [Int.toNat_natCast] at x0
              subst hAR
              have hne := HNO.out i hin
              generalize rd l (i : Int) = y at x0 hne
              have hbe : (y == (n0 : Int)) = false := beq_eq_false_iff_ne.2 hne
              go_wp2
              exact ⟨⟨i + 1, by omega, by go_num, by first | rfl | trivial⟩, by simp [intOf]; omega⟩
            · obtain rfl : i = l.length := by omega
              go_wp2
              go_ret
              exact ⟨rfl, HB7.out⟩
      · rw [if_neg hn, decide_eq_false hn] at HRK
        have dn : ∀ a b : Bool, (a = decide (n ≥ 0)) → (b = decide (n < (l.length : Int))) → a = true → b = false := fun a b h1 h2 h3 => by
          rw [h2]
          refine decide_eq_false (fun h4 => hn ⟨?_, h4⟩)
          rw [h1] at h3
          exact of_decide_eq_true h3
        by_cases h0 : 0 ≤ n
        · have h1 : ¬ n < (l.length : Int) := fun h => hn ⟨h0, h⟩
          clear hn dn
          go_wp2_with fail
          refine HRK.out.mono ?_
          rintro e w5 ⟨rfl, hb⟩
          have HB5 := Aside0.mk (below_then HB4.out HB4.out.size hb)
          have HR5 := Aside0.mk (Kd.C_below HR4.out hb)
          have t0 := pw_cell_below hb s0
          have t1 := pw_cell_below hb s1
          clear hb HB4 HR4 s0 s1 HRK
          have HNN := Aside0.mk (number_c s A c l n w5 HR5.out hc (by omega))
          cases hq : posI l n with
          | some m =>
            obtain ⟨h1, h2, _⟩ := posI_some hq
            rw [hq] at HNN
            have HRM := Aside0.mk (fun (W : World) (hR : Kd.C (Kd.int .i64) W A l.length l) => rank_c s A c l (m : Int) W hR hc)
            rw [if_pos (show 0 ≤ (m : Int) ∧ (m : Int) < l.length by omega), decide_eq_true (show 0 ≤ (m : Int) ∧ (m : Int) < l.length by omega), h2] at HRM
            clear hq h1 h2
            go_wp2_with fail
            refine HNN.out.mono ?_
            rintro e w7 ⟨rfl, hb⟩
            have HB7 := Aside0.mk (below_then HB5.out HB5.out.size hb)
            have HR7 := Aside0.mk (Kd.C_below HR5.out hb)
            have v0 := pw_cell_below hb t0
            have v1 := pw_cell_below hb t1
            clear hb HB5 HR5 t0 t1 HNN
            rw [show ((some m).getD 0 : Nat) = m from rfl, show (some m).isSome = true from rfl]
            go_wp2_with fail
            refine (HRM.out w7 HR7.out).mono ?_
            rintro e w8 ⟨rfl, hb⟩
            have HB8 := Aside0.mk (below_then HB7.out HB7.out.size hb)
            clear hb HB7 HR7 v0 v1 HRM
            go_wp2
            go_ret
            exact ⟨by first | rfl | (simp; done), HB8.out⟩
          | none =>
            have HNO := Aside0.mk (posI_none hq)
            rw [hq] at HNN
            clear hq
            go_wp2_with fail
            refine HNN.out.mono ?_
            rintro e w7 ⟨rfl, hb⟩
            have HB7 := Aside0.mk (below_then HB5.out HB5.out.size hb)
            have HR7 := Aside0.mk (Kd.C_below HR5.out hb)
            have v0 := pw_cell_below hb t0
            have v1 := pw_cell_below hb t1
            clear hb HB5 HR5 t0 t1 HNN
            rw [show (none : Option Nat).isSome = false from rfl]
            go_wp2_with fail
            go_loopw [13] (fun v13 wr => ∃ i : Nat, i ≤ l.length ∧ v13 = .int .i64 i ∧ wr = w7) (fun v13 _ => l.length - (intOf v13).toNat)
            case atStart => exact ⟨0, by omega, rfl, rfl⟩
            case round =>
              obtain ⟨i, hi, rfl, hw⟩ := hrel
              subst hw
              by_cases hin : i < l.length
              · have hi64 : IntKind.i64.wrap ((i : Int) + 1) = (i : Int) + 1 := i64w (by omega) (by omega)
                have hii : (i : Int) < (l.length : Int) := by omega
                obtain ⟨aR, hAR, x0⟩ := Kd.at_int HR7.out (i : Int) (by omega) (by omega)
                rw [Int.toNat_natCast] at x0
                subst hAR
                have hne := HNO.out i hin
                generalize rd l (i : Int) = y at x0 hne
                have hbe : (y == n) = false := beq_eq_false_iff_ne.2 hne
                go_wp2
                exact ⟨⟨i + 1, by omega, by go_num, by first | rfl | trivial⟩, by simp [intOf]; omega⟩
              · obtain rfl : i = l.length := by omega
                go_wp2
                go_ret
                exact ⟨rfl, HB7.out⟩
        · clear hn dn
          go_wp2_with fail
          refine HRK.out.mono ?_
          rintro e w5 ⟨rfl, hb⟩
          have HB5 := Aside0.mk (below_then HB4.out HB4.out.size hb)
          have HR5 := Aside0.mk (Kd.C_below HR4.out hb)
          have t0 := pw_cell_below hb s0
          have t1 := pw_cell_below hb s1
          clear hb HB4 HR4 s0 s1 HRK
          have HNN := Aside0.mk (number_c s A c l n w5 HR5.out hc (by omega))
          cases hq : posI l n with
          | some m =>
            obtain ⟨h1, h2, _⟩ := posI_some hq
            rw [hq] at HNN
            have HRM := Aside0.mk (fun (W : World) (hR : Kd.C (Kd.int .i64) W A l.length l) => rank_c s A c l (m : Int) W hR hc)
            rw [if_pos (show 0 ≤ (m : Int) ∧ (m : Int) < l.length by omega), decide_eq_true (show 0 ≤ (m : Int) ∧ (m : Int) < l.length by omega), h2] at HRM
            clear hq h1 h2
            go_wp2_with fail
            refine HNN.out.mono ?_
            rintro e w7 ⟨rfl, hb⟩
            have HB7 := Aside0.mk (below_then HB5.out HB5.out.size hb)
            have HR7 := Aside0.mk (Kd.C_below HR5.out hb)
            have v0 := pw_cell_below hb t0
            have v1 := pw_cell_below hb t1
            clear hb HB5 HR5 t0 t1 HNN
            rw [show ((some m).getD 0 : Nat) = m from rfl, show (some m).isSome = true from rfl]
            go_wp2_with fail
            refine (HRM.out w7 HR7.out).mono ?_
            rintro e w8 ⟨rfl, hb⟩
            have HB8 := Aside0.mk (below_then HB7.out HB7.out.size hb)
            clear hb HB7 HR7 v0 v1 HRM
            go_wp2
            go_ret
            exact ⟨by first | rfl | (simp; done), HB8.out⟩
          | none =>
            have HNO := Aside0.mk (posI_none hq)
            rw [hq] at HNN
            clear hq
            go_wp2_with fail
            refine HNN.out.mono ?_
            rintro e w7 ⟨rfl, hb⟩
            have HB7 := Aside0.mk (below_then HB5.out HB5.out.size hb)
            have HR7 := Aside0.mk (Kd.C_below HR5.out hb)
            have v0 := pw_cell_below hb t0
            have v1 := pw_cell_below hb t1
            clear hb HB5 HR5 t0 t1 HNN
            rw [show (none : Option Nat).isSome = false from rfl]
            go_wp2_with fail
            go_loopw [13] (fun v13 wr => ∃ i : Nat, i ≤ l.length ∧ v13 = .int .i64 i ∧ wr = w7) (fun v13 _ => l.length - (intOf v13).toNat)
            case atStart => exact ⟨0, by omega, rfl, rfl⟩
            case round =>
              obtain ⟨i, hi, rfl, hw⟩ := hrel
              subst hw
              by_cases hin : i < l.length
              · have hi64 : IntKind.i64.wrap ((i : Int) + 1) = (i : Int) + 1 := i64w (by omega) (by omega)
                have hii : (i : Int) < (l.length : Int) := by omega
                obtain ⟨aR, hAR, x0⟩ := Kd.at_int HR7.out (i : Int) (by omega) (by omega)
                rw [Int.toNat_natCast] at x0
                subst hAR
                have hne := HNO.out i hin
                generalize rd l (i : Int) = y at x0 hne
                have hbe : (y == n) = false := beq_eq_false_iff_ne.2 hne
                go_wp2
                exact ⟨⟨i + 1, by omega, by go_num, by first | rfl | trivial⟩, by simp [intOf]; omega⟩
              · obtain rfl : i = l.length := by omega
                go_wp2
                go_ret
                exact ⟨rfl, HB7.out⟩
end Go.Proofs.YtkifmhfgplhabaaDoor.HQ

namespace Go.Proofs.YtkifmhfgplhabaaDoor.HQ
open Go.Proofs.YtkifmhfgplhabaaDoor.HU Go.RowKit Go.Proofs.YtkifmhfgplhabaaDoor.HK Go.Proofs.YtkifmhfgplhabaaDoor.HP Go.Proofs.YtkifmhfgplhabaaDoorW.PrintWords Go.Proofs.YtkifmhfgplhabaaDoorW.PrintLast Go.Proofs.YtkifmhfgplhabaaDoorW.PrintMore
set_option linter.unusedVariables false
set_option linter.unusedSimpArgs false
set_option maxRecDepth 100000 in
set_option maxHeartbeats 4000000 in
theorem split_bad (s : ByteArray) (A : Option Addr) (c : Nat) (ranks : List Int) (k : Int) (A2 : Option Addr) (n2 c2 : Nat) (w : World) (hr : Kd.C (Kd.int .i64) w A ranks.length ranks) (hc : ranks.length ≤ c) (hbad : mayB ranks = false ∨ k < 0 ∨ n2 ≠ ranks.length) :
    Calls Tryd.prog 13 #[.agg #[.string s, .slice A ranks.length c], .int .i64 k, .slice A2 n2 c2] w fun e w' => e = .returned (.tuple #[.slice none 0 0, .int .i64 2]) ∧ Below w.heap.size w w' := by
  have b0 := blk_new w (.cells #[.string s, .slice A ranks.length c] 24)
  have hba := below_alloc (Below.refl w.heap.size w) (.cells #[.string s, .slice A ranks.length c] 24)
  have HB0 := Aside0.mk hba
  have HR0 := Aside0.mk (Kd.C_below hr hba)
  have HMY := Aside0.mk (may_c s A c ranks (w.alloc (.cells #[.string s, .slice A ranks.length c] 24)) HR0.out hc)
  have p0 : (w.alloc (.cells #[.string s, .slice A ranks.length c] 24)).cell? ⟨w.heap.size, 0, none⟩ = some (.string s) := (blk_cell b0 0).trans rfl
  have p1 : (w.alloc (.cells #[.string s, .slice A ranks.length c] 24)).cell? ⟨w.heap.size, 1, none⟩ = some (.slice A ranks.length c) := (blk_cell b0 1).trans rfl
  clear hr hba b0
  go_enter Tryd.func13, Tryd.ntmps13
  go_wp2_with fail
  generalize (w.alloc (.cells #[.string s, .slice A ranks.length c] 24)) = w1 at p0 p1 HB0 HR0 HMY ⊢
  refine HMY.out.mono ?_
  rintro e w2 ⟨rfl, hb⟩
  have HB2 := Aside0.mk (below_then HB0.out HB0.out.size hb)
  have q0 := pw_cell_below hb p0
  have q1 := pw_cell_below hb p1
  clear hb HMY HB0 HR0 p0 p1
  cases hm : mayB ranks with
  | false =>
    clear hbad
    go_wp2
    go_ret2
    exact ⟨rfl, HB2.out⟩
  | true =>
    by_cases hk : k < 0
    · clear hbad
      go_wp2
      go_ret2
      exact ⟨rfl, HB2.out⟩
    · have hne : ((n2 : Int) != (ranks.length : Int)) = true := by
        have : n2 ≠ ranks.length := by
          rcases hbad with h | h | h
          · rw [hm] at h; cases h
          · exact absurd h hk
          · exact h
        rw [bne, beq_eq_false_iff_ne.2 (fun h => this (by omega))]
        rfl
      clear hbad
      go_wp2
      go_ret2
      exact ⟨rfl, HB2.out⟩
end Go.Proofs.YtkifmhfgplhabaaDoor.HQ

namespace Go.Proofs.YtkifmhfgplhabaaDoor.HQ
open Go.Proofs.YtkifmhfgplhabaaDoor.HU Go.RowKit Go.Proofs.YtkifmhfgplhabaaDoor.HK Go.Proofs.YtkifmhfgplhabaaDoor.HP Go.Proofs.YtkifmhfgplhabaaDoorW.PrintWords Go.Proofs.YtkifmhfgplhabaaDoorW.PrintLast Go.Proofs.YtkifmhfgplhabaaDoorW.PrintMore
set_option linter.unusedVariables false
set_option linter.unusedSimpArgs false
/-! ## digits -/
def valD (l : List UInt8) : Nat := l.foldl (fun a d => 10 * a + (d.toNat - 48)) 0
theorem valD_snoc (l : List UInt8) (d : UInt8) : valD (l ++ [d]) = 10 * valD l + (d.toNat - 48) := by simp [valD]
theorem dig_nat {n : Nat} (h : n < 10) : (UInt8.ofNat (48 + n)).toNat = 48 + n := by
  rw [UInt8.toNat_ofNat']
  omega
theorem dec_val (n : Nat) : valD (Lib.decDigits n) = n := by
  induction n using Nat.strongRecOn with
  | ind n ih =>
    by_cases h : n < 10
    · rw [dec_small h]
      show 10 * 0 + ((UInt8.ofNat (48 + n)).toNat - 48) = n
      rw [dig_nat h]
      omega
    · have h2 : n % 10 < 10 := Nat.mod_lt _ (by omega)
      rw [dec_big h, dec_small h2, valD_snoc, ih (n / 10) (by omega), dig_nat h2]
      omega
theorem dec_no (n : Nat) : (58 : UInt8) ∉ Lib.decDigits n := by
  induction n using Nat.strongRecOn with
  | ind n ih =>
    have key : ∀ m, m < 10 → (58 : UInt8) ≠ UInt8.ofNat (48 + m) := fun m hm he => by
      have := congrArg UInt8.toNat he
      rw [dig_nat hm] at this
      have h58 : (58 : UInt8).toNat = 58 := rfl
      omega
    by_cases h : n < 10
    · rw [dec_small h]
      intro hm
      exact key n h (List.mem_singleton.1 hm)
    · have h2 : n % 10 < 10 := Nat.mod_lt _ (by omega)
      rw [dec_big h, dec_small h2]
      intro hm
      rcases List.mem_append.1 hm with hm | hm
      · exact ih (n / 10) (by omega) hm
      · exact key _ h2 (List.mem_singleton.1 hm)
def digL (k : Int) : List UInt8 := Lib.decDigits k.toNat
theorem itoa_dig {k : Int} (h : 0 ≤ k) : Lib.itoa k = digL k := by
  unfold Lib.itoa digL
  rw [if_neg (by omega)]
theorem digL_inj {k m : Int} (hk : 0 ≤ k) (hm : 0 ≤ m) (h : digL k = digL m) : k = m := by
  have := congrArg valD h
  unfold digL at this
  rw [dec_val, dec_val] at this
  omega
/-! ## texts as lists -/
def bl (b : ByteArray) : List UInt8 := b.data.toList
theorem bl_app (a b : ByteArray) : bl (a ++ b) = bl a ++ bl b := by simp [bl, ByteArray.data_append]
theorem bl_child {s : ByteArray} {k : Int} (h : 0 ≤ k) : bl (childB s k) = bl s ++ 46 :: digL k := by
  unfold childB itoB
  rw [bl_app, bl_app, itoa_dig h]
  simp [bl]
theorem bl_key {s : ByteArray} {k c : Int} (h : 0 ≤ k) (hc : 0 ≤ c) : bl (keyG s k c) = bl s ++ 46 :: (digL k ++ 58 :: digL c) := by
  unfold keyG itoB
  rw [bl_app, bl_app, bl_child h, itoa_dig hc]
  simp [bl]
theorem cut58 {a b c d : List UInt8} (ha : (58 : UInt8) ∉ a) (hb : (58 : UInt8) ∉ b) (h : a ++ 58 :: c = b ++ 58 :: d) : a = b ∧ c = d := by
  induction a generalizing b with
  | nil =>
    cases b with
    | nil => exact ⟨rfl, by simpa using h⟩
    | cons y t =>
      simp only [List.nil_append, List.cons_append, List.cons.injEq] at h
      exact absurd (by rw [h.1]; simp) hb
  | cons x a ih =>
    cases b with
    | nil =>
      simp only [List.nil_append, List.cons_append, List.cons.injEq] at h
      exact absurd (by rw [← h.1]; simp) ha
    | cons y t =>
      simp only [List.cons_append, List.cons.injEq] at h
      obtain ⟨rfl, h⟩ := h
      obtain ⟨rfl, rfl⟩ := ih (fun hm => ha (by simp [hm])) (fun hm => hb (by simp [hm])) h
      exact ⟨rfl, rfl⟩
theorem child_ne {s : ByteArray} {k m : Int} (hk : 0 ≤ k) (hm : 0 ≤ m) (hne : k ≠ m) : childB s k ≠ childB s m := fun h => by
  have := congrArg bl h
  rw [bl_child hk, bl_child hm] at this
  have h2 := List.append_cancel_left this
  simp only [List.cons.injEq, true_and] at h2
  exact hne (digL_inj hk hm h2)
theorem child_key {s : ByteArray} {k m c : Int} (hk : 0 ≤ k) (hm : 0 ≤ m) (hc : 0 ≤ c) : childB s k ≠ keyG s m c := fun h => by
  have := congrArg bl h
  rw [bl_child hk, bl_key hm hc] at this
  have h2 := List.append_cancel_left this
  simp only [List.cons.injEq, true_and] at h2
  exact dec_no k.toNat (by show (58 : UInt8) ∈ digL k; rw [h2]; simp)
theorem key_inj {s : ByteArray} {k m c d : Int} (hk : 0 ≤ k) (hm : 0 ≤ m) (hc : 0 ≤ c) (hd : 0 ≤ d) (h : keyG s k c = keyG s m d) : k = m ∧ c = d := by
  have := congrArg bl h
  rw [bl_key hk hc, bl_key hm hd] at this
  have h2 := List.append_cancel_left this
  simp only [List.cons.injEq, true_and] at h2
  obtain ⟨h3, h4⟩ := cut58 (dec_no _) (dec_no _) h2
  exact ⟨digL_inj hk hm h3, digL_inj hc hd h4⟩
/-! ## the colors of a split's groups -/
def cols (L : List Asd) : Nat → List Int
  | 0 => []
  | i + 1 => if newG L i then cols L i ++ [(L.getD i z67).f0.f0] else cols L i
theorem addR_keys (r : Int) (gs : List Grp) : (addR r gs).map (·.f0) = gs.map (·.f0) := by
  unfold addR
  rw [List.map_set]
  by_cases h : gs.length - 1 < gs.length
  · have : (gs.getD (gs.length - 1) z24) = gs[gs.length - 1] := by simp [List.getD, h]
    rw [this]
    refine List.ext_getElem (by simp) (fun i h1 h2 => ?_)
    rw [List.getElem_set]
    split
    · rename_i he
      subst he
      simp
    · rfl
  · have : gs = [] := List.eq_nil_of_length_eq_zero (by omega)
    subst this
    rfl
theorem grps_keys (s : ByteArray) (k : Int) (L : List Asd) : ∀ i, (grps s k L i).map (·.f0) = (cols L i).map (keyG s k)
  | 0 => rfl
  | i + 1 => by
    show (addR _ _).map _ = List.map _ (if _ then _ else _)
    rw [addR_keys]
    split
    · rw [List.map_append, List.map_append, grps_keys s k L i]
      rfl
    · exact grps_keys s k L i
/-- sorted by color -/
def ByCol (L : List Asd) : Prop := ∀ i j : Nat, i ≤ j → j < L.length → (L.getD i z67).f0.f0 ≤ (L.getD j z67).f0.f0
theorem cols_up {L : List Asd} (h : ByCol L) : ∀ i, i ≤ L.length → (cols L i).Pairwise (· < ·) ∧ (∀ c ∈ cols L i, ∃ j, j < i ∧ c = (L.getD j z67).f0.f0)
  | 0, _ => ⟨List.Pairwise.nil, fun c hc => by cases hc⟩
  | i + 1, hi => by
    obtain ⟨h1, h2⟩ := cols_up h i (by omega)
    rw [show cols L (i + 1) = if newG L i then cols L i ++ [(L.getD i z67).f0.f0] else cols L i from rfl]
    by_cases hn : newG L i
    · rw [if_pos hn]
      refine ⟨List.pairwise_append.2 ⟨h1, by simp, fun a ha b hb => ?_⟩, fun c hc => ?_⟩
      · rw [List.mem_singleton.1 hb]
        obtain ⟨j, hj, rfl⟩ := h2 a ha
        have h3 := h j (i - 1) (by omega) (by omega)
        have h4 := h (i - 1) i (by omega) (by omega)
        rcases hn with hn | hn
        · omega
        · omega
      · rcases List.mem_append.1 hc with hc | hc
        · obtain ⟨j, hj, e⟩ := h2 c hc
          exact ⟨j, by omega, e⟩
        · exact ⟨i, by omega, List.mem_singleton.1 hc⟩
    · rw [if_neg hn]
      exact ⟨h1, fun c hc => by obtain ⟨j, hj, e⟩ := h2 c hc; exact ⟨j, by omega, e⟩⟩
/-- who asked, sorted: by color; and each color is not below 0 -/
theorem sortA_col (xs : List Asd) : ByCol (HS.sortA xs) := by
  intro i j hij hj
  rw [HS.sortA_len] at hj
  have hl : (HS.isort (HS.els xs)).length = xs.length := by rw [(HS.isort_perm _).length_eq, HS.els_len]
  have hi' : i < (HS.isort (HS.els xs)).length := by omega
  have hj' : j < (HS.isort (HS.els xs)).length := by omega
  have hg : ∀ t (ht : t < (HS.isort (HS.els xs)).length), ((HS.sortA xs).getD t z67).f0.f0 = ((HS.isort (HS.els xs))[t]).c := fun t ht => by
    unfold HS.sortA
    simp [List.getD, ht, HS.ofEl]
  rw [hg i hi', hg j hj']
  rcases Nat.lt_or_ge i j with h | h
  · have := List.pairwise_iff_getElem.1 (HS.isort_sorted (HS.els xs)) i j hi' hj' h
    rw [HS.ltI_false] at this
    unfold HS.LtE at this
    omega
  · have : i = j := by omega
    subst this
    exact Int.le_refl _
theorem sortA_pos {asks : List Ask_} {ranks : List Int} {i : Nat} {x : Asd} (h : x ∈ HS.sortA (pick asks ranks i)) : 0 ≤ x.f0.f0 := (pick_mem (sortA_mem h)).2.1
/-- a split's keys -/
theorem split_keys (s : ByteArray) (k : Int) (ranks : List Int) (asks : List Ask_) : ∃ cs : List Int, (splitG s k ranks asks).map (·.f0) = cs.map (keyG s k) ∧ cs.Pairwise (· < ·) ∧ ∀ c ∈ cs, 0 ≤ c := by
  have hl := HS.sortA_len (pick asks ranks asks.length)
  refine ⟨cols (HS.sortA (pick asks ranks asks.length)) (pick asks ranks asks.length).length, grps_keys s k _ _, (cols_up (sortA_col _) _ (by omega)).1, fun c hc => ?_⟩
  obtain ⟨j, hj, rfl⟩ := (cols_up (sortA_col _) _ (by omega)).2 c hc
  refine sortA_pos (asks := asks) (ranks := ranks) (i := asks.length) ?_
  have hj' : j < (HS.sortA (pick asks ranks asks.length)).length := by omega
  simp [List.getD, hj']
/-- the keys of two dups and two splits -/
theorem keys_nodup {s : ByteArray} {k m : Int} (hk : 0 ≤ k) (hm : 0 ≤ m) (hne : k ≠ m) {a b : List Int} (ha : a.Pairwise (· < ·)) (hb : b.Pairwise (· < ·)) (ha0 : ∀ c ∈ a, 0 ≤ c) (hb0 : ∀ c ∈ b, 0 ≤ c) :
    ([childB s k, childB s m] ++ a.map (keyG s k) ++ b.map (keyG s m)).Nodup := by
  have hmap : ∀ {q : Int} (hq : 0 ≤ q) {l : List Int}, l.Pairwise (· < ·) → (∀ c ∈ l, 0 ≤ c) → (l.map (keyG s q)).Nodup := fun {q} hq {l} hl hl0 => by
    refine List.pairwise_map.2 (hl.imp_of_mem (fun {x y} hx hy hxy he => ?_))
    have := (key_inj hq hq (hl0 x hx) (hl0 y hy) he).2
    omega
  refine List.nodup_append.2 ⟨List.nodup_append.2 ⟨?_, hmap hk ha ha0, ?_⟩, hmap hm hb hb0, ?_⟩
  · simp [child_ne hk hm hne]
  · intro x hx y hy he
    subst he
    obtain ⟨c, hc, rfl⟩ := List.mem_map.1 hy
    simp only [List.mem_cons, List.not_mem_nil, or_false] at hx
    rcases hx with hx | hx
    · exact child_key hk hk (ha0 c hc) hx.symm
    · exact child_key hm hk (ha0 c hc) hx.symm
  · intro x hx y hy he
    subst he
    obtain ⟨c, hc, rfl⟩ := List.mem_map.1 hy
    rcases List.mem_append.1 hx with hx | hx
    · simp only [List.mem_cons, List.not_mem_nil, or_false] at hx
      rcases hx with hx | hx
      · exact child_key hk hm (hb0 c hc) hx.symm
      · exact child_key hm hm (hb0 c hc) hx.symm
    · obtain ⟨d, hd, he⟩ := List.mem_map.1 hx
      exact hne (key_inj hk hm (ha0 d hd) (hb0 c hc) he).1
/-- each key is longer than the group's own, and begins with it -/
def Longer (s t : ByteArray) : Prop := s.size < t.size ∧ t.extract 0 s.size = s
theorem longer_of {s t : ByteArray} {l : List UInt8} (h : bl t = bl s ++ l) (hl : l ≠ []) : Longer s t := by
  have hz : ∀ b : ByteArray, (bl b).length = b.size := fun b => by show b.data.toList.length = b.data.size; rw [Array.length_toList]
  have hs := hz s
  have ht := hz t
  have hp := List.length_pos_iff.2 hl
  have h2 := congrArg List.length h
  rw [List.length_append] at h2
  refine ⟨by omega, ?_⟩
  apply ByteArray.ext
  apply Array.ext'
  show bl _ = bl s
  have e : bl (t.extract 0 s.size) = (bl t).take s.size := by
    simp [bl, ByteArray.data_extract]
  rw [e, h, ← hs, List.take_left']
  rfl
theorem child_longer {s : ByteArray} {k : Int} (hk : 0 ≤ k) : Longer s (childB s k) := longer_of (bl_child hk) (by simp)
theorem key_longer {s : ByteArray} {k c : Int} (hk : 0 ≤ k) (hc : 0 ≤ c) : Longer s (keyG s k c) := longer_of (bl_key hk hc) (by simp)
end Go.Proofs.YtkifmhfgplhabaaDoor.HQ

namespace Go.Proofs.YtkifmhfgplhabaaDoor.HQ
open Go.Proofs.YtkifmhfgplhabaaDoor.HU Go.RowKit Go.Proofs.YtkifmhfgplhabaaDoor.HK Go.Proofs.YtkifmhfgplhabaaDoor.HP Go.Proofs.YtkifmhfgplhabaaDoorW.PrintWords Go.Proofs.YtkifmhfgplhabaaDoorW.PrintLast Go.Proofs.YtkifmhfgplhabaaDoorW.PrintMore
set_option linter.unusedVariables false
set_option linter.unusedSimpArgs false
abbrev asd (L : List Asd) (t : Nat) : Asd := L.getD t z67
theorem addR_snoc (r : Int) (gs : List Grp) (g : Grp) : addR r (gs ++ [g]) = gs ++ [⟨g.f0, g.f1 ++ [r]⟩] := by
  rw [addR_put (m := gs.length) (g := g) (by simp) (by simp)]
  simp
/-- which of the sorted askers are in which group -/
theorem grps_parts (s : ByteArray) (k : Int) (L : List Asd) : ∀ i, i ≤ L.length → ∃ T : List (List Nat), (grps s k L i).map (·.f1) = T.map (·.map (fun t => (asd L t).f1)) ∧ T.flatten = List.range i ∧
    (∀ q ∈ T, q ≠ [] ∧ q.Pairwise (fun t u => t < u ∧ u < L.length ∧ (asd L t).f0.f0 = (asd L u).f0.f0)) ∧ (0 < i → ∃ (G : List Grp) (g : Grp) (I : List (List Nat)) (q : List Nat), grps s k L i = G ++ [g] ∧ T = I ++ [q] ∧ ∀ t ∈ q, t < i ∧ (asd L t).f0.f0 = (asd L (i - 1)).f0.f0)
  | 0, _ => ⟨[], rfl, rfl, fun q hq => absurd hq List.not_mem_nil, fun h => absurd h (by decide)⟩
  | i + 1, hi => by
    obtain ⟨T, h1, h2, h3, h4⟩ := grps_parts s k L i (by omega)
    have hg : grps s k L (i + 1) = addR (asd L i).f1 (if newG L i then grps s k L i ++ [⟨keyG s k (asd L i).f0.f0, []⟩] else grps s k L i) := rfl
    by_cases hn : newG L i
    · rw [if_pos hn, addR_snoc] at hg
      refine ⟨T ++ [[i]], ?_, ?_, fun q hq => ?_, fun _ => ⟨_, _, T, [i], hg, rfl, fun t ht => ?_⟩⟩
      · rw [hg, List.map_append, List.map_append, h1]
        rfl
      · rw [List.flatten_append, h2, List.range_succ]
        rfl
      · rcases List.mem_append.1 hq with hq | hq
        · exact h3 q hq
        · rw [List.mem_singleton.1 hq]
          exact ⟨by simp, List.pairwise_singleton _ _⟩
      · rw [List.mem_singleton.1 ht]
        exact ⟨by omega, rfl⟩
    · rw [if_neg hn] at hg
      have hi0 : 0 < i := by
        rcases Nat.eq_zero_or_pos i with h | h
        · exact absurd (.inl h) hn
        · exact h
      have hc : (asd L (i - 1)).f0.f0 = (asd L i).f0.f0 := Decidable.byContradiction (fun h => hn (.inr h))
      obtain ⟨G, g, I, q, h5, h6, h7⟩ := h4 hi0
      subst h6
      have h8 : grps s k L (i + 1) = G ++ [⟨g.f0, g.f1 ++ [(asd L i).f1]⟩] := by rw [hg, h5, addR_snoc]
      rw [h5, List.map_append, List.map_append] at h1
      have h9 : G.map (·.f1) = I.map (·.map (fun t => (asd L t).f1)) ∧ [g.f1] = [q.map (fun t => (asd L t).f1)] := List.append_inj' h1 rfl
      refine ⟨I ++ [q ++ [i]], ?_, ?_, fun p hp => ?_, fun _ => ⟨_, _, I, q ++ [i], h8, rfl, fun t ht => ?_⟩⟩
      · rw [h8, List.map_append, List.map_append, h9.1]
        have := List.cons.inj h9.2
        simp [this.1]
      · rw [List.flatten_append] at h2 ⊢
        simp only [List.flatten_cons, List.flatten_nil, List.append_nil] at h2 ⊢
        rw [← List.append_assoc, h2, List.range_succ]
      · rcases List.mem_append.1 hp with hp | hp
        · exact h3 p (List.mem_append_left _ hp)
        · rw [List.mem_singleton.1 hp]
          have h10 := h3 q (by simp)
          refine ⟨by simp, List.pairwise_append.2 ⟨h10.2, List.pairwise_singleton _ _, fun a ha b hb => ?_⟩⟩
          rw [List.mem_singleton.1 hb]
          obtain ⟨h11, h12⟩ := h7 a ha
          exact ⟨h11, by omega, h12.trans hc⟩
      · rcases List.mem_append.1 ht with ht | ht
        · obtain ⟨h11, h12⟩ := h7 t ht
          exact ⟨by omega, h12.trans hc⟩
        · rw [List.mem_singleton.1 ht]
          exact ⟨by omega, rfl⟩
/-- the numbers of those who ask for a color -/
def numsA (asks : List Ask_) (i : Nat) : List Nat := (List.range i).filter (fun m => decide (0 ≤ (asks.getD m z40).f0))
theorem numsA_up (asks : List Ask_) (i : Nat) : (numsA asks i).Pairwise (· < ·) := List.Pairwise.filter _ List.pairwise_lt_range
theorem numsA_mem {asks : List Ask_} {i m : Nat} (h : m ∈ numsA asks i) : m < i ∧ 0 ≤ (asks.getD m z40).f0 := by
  obtain ⟨h1, h2⟩ := List.mem_filter.1 h
  exact ⟨List.mem_range.1 h1, of_decide_eq_true h2⟩
theorem pick_nums (asks : List Ask_) (ranks : List Int) (hl : asks.length = ranks.length) : ∀ i, i ≤ asks.length → pick asks ranks i = (numsA asks i).map (fun m => ⟨asks.getD m z40, ranks.getD m 0⟩)
  | 0, _ => rfl
  | i + 1, hi => by
    have h1 : asks.getD i z40 = asks[i] := by simp [List.getD, show i < asks.length by omega]
    have h2 : ranks.getD i 0 = ranks[i]'(by omega) := by simp [List.getD, show i < ranks.length by omega]
    rw [pick_succ (show i < asks.length by omega) (show i < ranks.length by omega), pick_nums asks ranks hl i (by omega)]
    unfold numsA
    rw [List.range_succ, List.filter_append, List.map_append]
    congr 1
    by_cases h0 : 0 ≤ asks[i].f0
    · rw [if_pos h0, List.filter_cons, if_pos (by rw [h1]; exact decide_eq_true h0)]
      simp only [List.filter_nil, List.map_cons, List.map_nil, h1, h2]
    · rw [if_neg h0, List.filter_cons, if_neg (by rw [h1, decide_eq_false h0]; decide)]
      rfl
/-- a number's way among the askers: by key, then by number -/
def Later (asks : List Ask_) (m u : Nat) : Prop := (asks.getD m z40).f0 = (asks.getD u z40).f0 ∧ ((asks.getD m z40).f1 < (asks.getD u z40).f1 ∨ (asks.getD m z40).f1 = (asks.getD u z40).f1 ∧ m < u)
/-- a group is of these numbers -/
structure PartOf (asks : List Ask_) (ranks : List Int) (g : List Int) (ms : List Nat) : Prop where
  is : g = ms.map (fun m => ranks.getD m 0)
  ne : ms ≠ []
  mem : ∀ m ∈ ms, m < asks.length ∧ 0 ≤ (asks.getD m z40).f0
  up : ms.Pairwise (Later asks)
/-- the sorted askers: who is where -/
theorem sorted_nums (asks : List Ask_) (ranks : List Int) (hl : asks.length = ranks.length) : ∃ N : Nat → Nat, (∀ t, t < (numsA asks asks.length).length → asd (HS.sortA (pick asks ranks asks.length)) t = ⟨asks.getD (N t) z40, ranks.getD (N t) 0⟩ ∧ N t < asks.length ∧ 0 ≤ (asks.getD (N t) z40).f0) ∧
    ∀ t u, t < u → u < (numsA asks asks.length).length → (asks.getD (N t) z40).f0 = (asks.getD (N u) z40).f0 → Later asks (N t) (N u) := by
  have hp := pick_nums asks ranks hl asks.length (Nat.le_refl _)
  have hup := numsA_up asks asks.length
  have hmem := fun m => @numsA_mem asks asks.length m
  generalize numsA asks asks.length = ns at hp hup hmem
  obtain ⟨P, hP⟩ : ∃ P, P = pick asks ranks asks.length := ⟨_, rfl⟩
  rw [← hP] at hp ⊢
  have hPl : P.length = ns.length := by rw [hp, List.length_map]
  obtain ⟨es, he⟩ : ∃ es, es = HS.isort (HS.els P) := ⟨_, rfl⟩
  have hel : es.length = ns.length := by rw [he, (HS.isort_perm _).length_eq, HS.els_len, hPl]
  have hat : ∀ t (ht : t < es.length), es[t].i < ns.length ∧ ∀ h : es[t].i < P.length, es[t] = HS.toEl (P[es[t].i]) es[t].i := fun t ht => by
    have h1 : es[t] ∈ HS.els P := (HS.isort_perm (HS.els P)).mem_iff.1 (he ▸ List.getElem_mem ht)
    obtain ⟨j, hj, h2⟩ := List.getElem_of_mem h1
    have hj' : j < P.length := by rw [HS.els_len] at hj; exact hj
    rw [HS.els_get hj'] at h2
    rw [← h2]
    exact ⟨by show j < _; omega, fun h => rfl⟩
  have hnd : es.Pairwise (fun a b => a.i ≠ b.i) := by
    have h1 : (HS.els P).Pairwise (fun a b => a.i ≠ b.i) := by
      rw [List.pairwise_iff_getElem]
      intro i j hi hj hij
      rw [HS.els_len] at hi hj
      rw [HS.els_get hi, HS.els_get hj]
      show i ≠ j
      omega
    rw [he]
    exact ((HS.isort_perm (HS.els P)).pairwise_iff (fun {a b} h => Ne.symm h)).2 h1
  have hso : es.Pairwise (fun a b => HS.ltI b a = false) := he ▸ HS.isort_sorted _
  obtain ⟨N, hN⟩ : ∃ N : Nat → Nat, ∀ t, N t = ns.getD ((es.getD t ⟨0, 0, 0, 0⟩).i) 0 := ⟨_, fun _ => rfl⟩
  refine ⟨N, fun t ht => ?_, fun t u htu hu hcol => ?_⟩
  · have ht' : t < es.length := by omega
    obtain ⟨h1, h2⟩ := hat t ht'
    have h3 : es.getD t ⟨0, 0, 0, 0⟩ = es[t] := by simp [List.getD, ht']
    have h4 : ns.getD es[t].i 0 = ns[es[t].i] := by simp [List.getD, h1]
    rw [hN t, h3, h4]
    refine ⟨?_, hmem _ (List.getElem_mem h1)⟩
    have h5 : asd (HS.sortA P) t = HS.ofEl es[t] := by
      unfold HS.sortA asd
      rw [← he]
      simp [List.getD, ht']
    have hpl : es[t].i < P.length := by omega
    have h6 : P[es[t].i]'hpl = ⟨asks.getD ns[es[t].i] z40, ranks.getD ns[es[t].i] 0⟩ := by
      have : ∀ (Q : List Asd) (hQ : es[t].i < Q.length), P = Q → P[es[t].i]'hpl = Q[es[t].i]'hQ := fun Q hQ e => by subst e; rfl
      rw [this _ (by rw [List.length_map]; exact h1) hp, List.getElem_map]
    rw [h5, ← h6]
    generalize hx : P[es[t].i]'hpl = x
    have h7 := h2 hpl
    rw [hx] at h7
    rw [h7]
    rfl
  · have hu' : u < es.length := by omega
    have ht' : t < es.length := by omega
    obtain ⟨h1, h2⟩ := hat t ht'
    obtain ⟨h1', h2'⟩ := hat u hu'
    have h3 : es.getD t ⟨0, 0, 0, 0⟩ = es[t] := by simp [List.getD, ht']
    have h3' : es.getD u ⟨0, 0, 0, 0⟩ = es[u] := by simp [List.getD, hu']
    have h4 : ns.getD es[t].i 0 = ns[es[t].i] := by simp [List.getD, h1]
    have h4' : ns.getD es[u].i 0 = ns[es[u].i] := by simp [List.getD, h1']
    rw [hN t, hN u, h3, h3', h4, h4'] at hcol ⊢
    have hval : ∀ v (hv : v < es.length) (h : es[v].i < ns.length), (asks.getD ns[es[v].i] z40).f0 = es[v].c ∧ (asks.getD ns[es[v].i] z40).f1 = es[v].k := fun v hv h => by
      have hpl : es[v].i < P.length := by omega
      have h6 : P[es[v].i]'hpl = ⟨asks.getD ns[es[v].i] z40, ranks.getD ns[es[v].i] 0⟩ := by
        have : ∀ (Q : List Asd) (hQ : es[v].i < Q.length), P = Q → P[es[v].i]'hpl = Q[es[v].i]'hQ := fun Q hQ e => by subst e; rfl
        rw [this _ (by rw [List.length_map]; exact h) hp, List.getElem_map]
      have h7 := (hat v hv).2 hpl
      rw [h6] at h7
      have hc := congrArg HS.El.c h7
      have hk := congrArg HS.El.k h7
      exact ⟨hc.symm, hk.symm⟩
    obtain ⟨c1, c2⟩ := hval t ht' h1
    obtain ⟨d1, d2⟩ := hval u hu' h1'
    have h8 := List.pairwise_iff_getElem.1 hso t u ht' hu' htu
    have h9 := List.pairwise_iff_getElem.1 hnd t u ht' hu' htu
    rw [HS.ltI_false] at h8
    unfold HS.LtE at h8
    unfold Later
    refine ⟨hcol, ?_⟩
    rw [c1, d1] at hcol
    rw [c2, d2]
    have h10 : es[t].i < es[u].i → ns[es[t].i] < ns[es[u].i] := fun h => List.pairwise_iff_getElem.1 hup _ _ h1 h1' h
    by_cases hk : es[t].k < es[u].k
    · exact .inl hk
    · exact .inr ⟨by omega, h10 (by omega)⟩
/-- the parts of a split -/
theorem split_parts (s : ByteArray) (k : Int) (ranks : List Int) (asks : List Ask_) (hl : asks.length = ranks.length) : ∃ M : List (List Nat), M.length = (splitG s k ranks asks).length ∧ (∀ i (h : i < M.length) (h' : i < (splitG s k ranks asks).length), PartOf asks ranks ((splitG s k ranks asks)[i]).f1 M[i]) ∧ (M.map List.length).sum = (numsA asks asks.length).length := by
  obtain ⟨N, hN1, hN2⟩ := sorted_nums asks ranks hl
  have hpl : (pick asks ranks asks.length).length = (numsA asks asks.length).length := by rw [pick_nums asks ranks hl asks.length (Nat.le_refl _), List.length_map]
  have hsl := HS.sortA_len (pick asks ranks asks.length)
  obtain ⟨T, h1, h2, h3, h4⟩ := grps_parts s k (HS.sortA (pick asks ranks asks.length)) (pick asks ranks asks.length).length (by omega)
  have hgs : grps s k (HS.sortA (pick asks ranks asks.length)) (pick asks ranks asks.length).length = splitG s k ranks asks := rfl
  rw [hgs] at h1
  have hTl : T.length = (splitG s k ranks asks).length := by
    have := congrArg List.length h1
    simpa using this.symm
  have hTm : ∀ q ∈ T, ∀ t ∈ q, t < (numsA asks asks.length).length := fun q hq t ht => by
    have : t ∈ T.flatten := List.mem_flatten.2 ⟨q, hq, ht⟩
    rw [h2, hpl] at this
    exact List.mem_range.1 this
  refine ⟨T.map (·.map N), by rw [List.length_map]; exact hTl, fun i hi hi' => ?_, ?_⟩
  · have hiT : i < T.length := by rw [hTl]; exact hi'
    have hq := List.getElem_mem hiT
    obtain ⟨h5, h6⟩ := h3 _ hq
    have h7 : ((splitG s k ranks asks)[i]).f1 = (T[i]).map (fun t => (asd (HS.sortA (pick asks ranks asks.length)) t).f1) := by
      have e1 : ((splitG s k ranks asks).map (·.f1))[i]'(by rw [List.length_map]; exact hi') = (T.map (·.map (fun t => (asd (HS.sortA (pick asks ranks asks.length)) t).f1)))[i]'(by rw [List.length_map]; exact hiT) := by simp only [h1]
      rw [List.getElem_map, List.getElem_map] at e1
      exact e1
    rw [List.getElem_map]
    refine ⟨?_, ?_, fun m hm => ?_, ?_⟩
    · rw [h7, List.map_map]
      refine List.map_congr_left (fun t ht => ?_)
      rw [(hN1 t (hTm _ hq t ht)).1]
      rfl
    · intro h
      exact h5 (List.map_eq_nil_iff.1 h)
    · obtain ⟨t, ht, rfl⟩ := List.mem_map.1 hm
      exact (hN1 t (hTm _ hq t ht)).2
    · refine List.pairwise_map.2 (h6.imp_of_mem (fun {t u} ht hu h => ?_))
      have e1 := (hN1 t (hTm _ hq t ht)).1
      have e2 := (hN1 u (hTm _ hq u hu)).1
      refine hN2 t u h.1 (hTm _ hq u hu) ?_
      have := h.2.2
      rw [e1, e2] at this
      exact this
  · rw [List.map_map]
    have : (List.length ∘ fun (x : List Nat) => x.map N) = List.length := by funext x; simp
    rw [this, ← List.length_flatten, h2, List.length_range, hpl]
/-- a part may be, and its ranks are told by their numbers -/
theorem part_may {asks : List Ask_} {ranks : List Int} {g : List Int} {ms : List Nat} (h : PartOf asks ranks g ms) (hm : MayG ranks) (hl : asks.length = ranks.length) : mayB g = true := by
  have hget : ∀ m ∈ ms, ∃ hm : m < ranks.length, ranks.getD m 0 = ranks[m] := fun m hm => by
    have := (h.mem m hm).1
    have h2 : m < ranks.length := by omega
    exact ⟨h2, by simp [List.getD, h2]⟩
  refine decide_eq_true ?_
  rw [h.is]
  refine ⟨?_, fun x hx => ?_, ?_⟩
  · rw [List.length_map]
    exact List.length_pos_iff.2 h.ne
  · obtain ⟨m, hmm, rfl⟩ := List.mem_map.1 hx
    obtain ⟨h1, h2⟩ := hget m hmm
    rw [h2]
    exact hm.2.1 _ (List.getElem_mem h1)
  · refine List.pairwise_map.2 (h.up.imp_of_mem (fun {a b} ha hb hab he => ?_))
    obtain ⟨h1, h2⟩ := hget a ha
    obtain ⟨h3, h4⟩ := hget b hb
    rw [h2, h4] at he
    have hne : a ≠ b := fun e => by
      subst e
      rcases hab.2 with h5 | h5
      · omega
      · omega
    have hp := List.pairwise_iff_getElem.1 hm.2.2
    rcases Nat.lt_or_gt_of_ne hne with h5 | h5
    · exact hp a b h1 h3 h5 he
    · exact hp b a h3 h1 h5 he.symm
theorem part_pos {ranks : List Int} (hm : MayG ranks) {m : Nat} (h : m < ranks.length) : posI ranks (ranks.getD m 0) = some m := by
  have e : ranks.getD m 0 = rd ranks (m : Int) := by rw [rd_lt h]; simp [List.getD, h]
  rw [e]
  cases hq : posI ranks (rd ranks (m : Int)) with
  | none => exact absurd rfl (posI_none hq m h)
  | some u =>
    obtain ⟨h1, h2, _⟩ := posI_some hq
    rw [rd_inj hm.2.2 h1 h h2]
end Go.Proofs.YtkifmhfgplhabaaDoor.HQ

namespace Go.Proofs.YtkifmhfgplhabaaDoor.HQ
open Go.Proofs.YtkifmhfgplhabaaDoor.HU Go.RowKit Go.Proofs.YtkifmhfgplhabaaDoor.HK Go.Proofs.YtkifmhfgplhabaaDoor.HP Go.Proofs.YtkifmhfgplhabaaDoorW.PrintWords Go.Proofs.YtkifmhfgplhabaaDoorW.PrintLast Go.Proofs.YtkifmhfgplhabaaDoorW.PrintMore
set_option linter.unusedVariables false
set_option linter.unusedSimpArgs false
theorem number_at (s : ByteArray) (A : Option Addr) (c : Nat) (l : List Int) (x : Int) (m : Nat) (w : World) (hr : Kd.C (Kd.int .i64) w A l.length l) (hc : l.length ≤ c) (hl : l.length ≤ 1000) (hp : posI l x = some m) :
    Calls Tryd.prog 19 #[.agg #[.string s, .slice A l.length c], .int .i64 x] w fun e w' => e = .returned (.tuple #[.int .i64 (m : Int), .bool true]) ∧ Below w.heap.size w w' := by
  have h := number_c s A c l x w hr hc hl
  rw [hp] at h
  exact h
def tot (M : List (List Nat)) (i : Nat) : Nat := ((M.take i).map List.length).sum
theorem tot_succ {M : List (List Nat)} {i : Nat} (h : i < M.length) : tot M (i + 1) = tot M i + M[i].length := by
  unfold tot
  rw [List.take_succ_eq_append_getElem h, List.map_append, List.sum_append]
  simp
theorem tot_le (M : List (List Nat)) (i : Nat) : tot M i ≤ (M.map List.length).sum := by
  unfold tot
  have h : (M.map List.length).sum = ((M.take i).map List.length).sum + ((M.drop i).map List.length).sum := by
    rw [← List.sum_append, ← List.map_append, List.take_append_drop]
  omega
theorem numsA_len (asks : List Ask_) (i : Nat) : (numsA asks i).length ≤ i := by
  unfold numsA
  have := List.length_filter_le (fun m => decide (0 ≤ (asks.getD m z40).f0)) (List.range i)
  rw [List.length_range] at this
  exact this
theorem numsA_succ (asks : List Ask_) (i : Nat) : (numsA asks (i + 1)).length = (numsA asks i).length + (if 0 ≤ (asks.getD i z40).f0 then 1 else 0) := by
  unfold numsA
  rw [List.range_succ, List.filter_append, List.length_append]
  congr 1
  by_cases h : 0 ≤ (asks.getD i z40).f0
  · rw [if_pos h, List.filter_cons, if_pos (decide_eq_true h)]
    rfl
  · rw [if_neg h, List.filter_cons, if_neg (by rw [decide_eq_false h]; decide)]
    rfl
theorem numsA_mono (asks : List Ask_) {i j : Nat} (h : i ≤ j) : (numsA asks i).length ≤ (numsA asks j).length := by
  induction h with
  | refl => exact Nat.le_refl _
  | step h ih => rw [numsA_succ]; omega
theorem grps_cnt (s : ByteArray) (k : Int) (L : List Asd) : ∀ i, (grps s k L i).length ≤ i
  | 0 => Nat.le_refl _
  | i + 1 => by
    have h : ∀ (r : Int) (gs : List Grp), (addR r gs).length = gs.length := fun r gs => by
      have := congrArg List.length (addR_keys r gs)
      rw [List.length_map, List.length_map] at this
      exact this
    show (addR _ _).length ≤ i + 1
    rw [h]
    have := grps_cnt s k L i
    split
    · rw [List.length_append, List.length_singleton]
      omega
    · omega
theorem split_cnt (s : ByteArray) (k : Int) (l : List Int) (asks : List Ask_) : (splitG s k l asks).length ≤ asks.length := Nat.le_trans (grps_cnt _ _ _ _) (pick_len _ _ _)
set_option maxRecDepth 100000 in
set_option maxHeartbeats 8000000 in
theorem parts_c (s : ByteArray) (A : Option Addr) (c : Nat) (l : List Int) (k : Int) (A2 : Option Addr) (c2 : Nat) (asks : List Ask_) (w : World) (hr : Kd.C (Kd.int .i64) w A l.length l) (hc : l.length ≤ c) (hk : Rng k) (hr2 : Kd.C k40 w A2 asks.length asks) (hc2 : asks.length ≤ c2) (hx : ∀ x ∈ asks, (Rng x.f0 ∧ Rng x.f1)) (ht : Tab w) :
    Calls Tryd.prog 6 #[.agg #[.string s, .slice A l.length c], .int .i64 k, .slice A2 asks.length c2] w fun e w' => e = .returned (.bool true) ∧ Below w.heap.size w w' := by
  have hcr : ∀ x ∈ asks, Rng x.f0 := fun x h => (hx x h).1
  have HCR := Aside0.mk hcr
  clear hx hcr
  have b0 := blk_new w (.cells #[.string s, .slice A l.length c] 24)
  have hba := below_alloc (Below.refl w.heap.size w) (.cells #[.string s, .slice A l.length c] 24)
  have HB0 := Aside0.mk hba
  have HT0 := Aside0.mk (ht.after hba)
  have HR0 := Aside0.mk (Kd.C_below hr hba)
  have p0 : (w.alloc (.cells #[.string s, .slice A l.length c] 24)).cell? ⟨w.heap.size, 0, none⟩ = some (.string s) := (blk_cell b0 0).trans rfl
  have p1 : (w.alloc (.cells #[.string s, .slice A l.length c] 24)).cell? ⟨w.heap.size, 1, none⟩ = some (.slice A l.length c) := (blk_cell b0 1).trans rfl
  have HA0 := Aside0.mk (Kd.C_below hr2 hba)
  clear hr hr2 ht hba b0
  go_enter Tryd.func6, Tryd.ntmps6
  go_wp2_with fail
  generalize (w.alloc (.cells #[.string s, .slice A l.length c] 24)) = w1 at p0 p1 HB0 HT0 HR0 HA0 ⊢
  refine (awake_c w1 HT0.out).mono ?_
  rintro e w2 ⟨rfl, hb⟩
  have HB2 := Aside0.mk (below_then HB0.out HB0.out.size hb)
  have HR2 := Aside0.mk (Kd.C_below HR0.out hb)
  have HA2 := Aside0.mk (Kd.C_below HA0.out hb)
  have HT2 := Aside0.mk (HT0.out.after hb)
  have q0 := pw_cell_below hb p0
  have q1 := pw_cell_below hb p1
  clear hb HB0 HT0 HR0 HA0 p0 p1
  go_wp2_with fail
  refine (great_c s A c l w2 HR2.out hc).mono ?_
  rintro e w3 ⟨rfl, hb⟩
  have HB3 := Aside0.mk (below_then HB2.out HB2.out.size hb)
  have HR3 := Aside0.mk (Kd.C_below HR2.out hb)
  have HA3 := Aside0.mk (Kd.C_below HA2.out hb)
  have HT3 := Aside0.mk (HT2.out.after hb)
  have r0 := pw_cell_below hb q0
  have r1 := pw_cell_below hb q1
  clear hb HB2 HR2 HA2 HT2 q0 q1
  by_cases hg : 80 < l.length ∨ 200 < s.size
  · have dg : decide (80 < l.length ∨ 200 < s.size) = true := decide_eq_true hg
    rw [dg]
    clear hg dg
    go_wp2
    go_ret
    exact ⟨rfl, HB3.out⟩
  · have dg : decide (80 < l.length ∨ 200 < s.size) = false := decide_eq_false hg
    rw [dg]
    have hl80 : l.length ≤ 80 := by omega
    have hs200 : s.size ≤ 200 := by omega
    clear hg dg
    by_cases ha : 100 < asks.length
    · have da : (asks.length : Int) > 100 := by omega
      go_wp2
      go_ret
      exact ⟨rfl, HB3.out⟩
    have da : ¬ (asks.length : Int) > 100 := by omega
    clear ha
    by_cases hbad : mayB l = false ∨ k < 0 ∨ asks.length ≠ l.length
    · have HSP := Aside0.mk (split_bad s A c l k A2 asks.length c2 w3 HR3.out hc hbad)
      have HBD := Aside0.mk hbad
      clear hbad
      go_wp2_with fail
      refine HSP.out.mono ?_
      rintro e w4 ⟨rfl, hb⟩
      have HB4 := Aside0.mk (below_then HB3.out HB3.out.size hb)
      have HR4 := Aside0.mk (Kd.C_below HR3.out hb)
      have s0 := pw_cell_below hb r0
      have s1 := pw_cell_below hb r1
      clear hb HSP HB3 HR3 HA3 HT3 r0 r1
      go_wp2_with fail
      refine (may_c s A c l w4 HR4.out hc).mono ?_
      rintro e w5 ⟨rfl, hb⟩
      have HB5 := Aside0.mk (below_then HB4.out HB4.out.size hb)
      have t0 := pw_cell_below hb s0
      have t1 := pw_cell_below hb s1
      clear hb HR4 HB4 s0 s1
      cases hm : mayB l with
      | false =>
        go_wp2
        go_ret
        exact ⟨rfl, HB5.out⟩
      | true =>
        by_cases hk0 : k < 0
        · go_wp2
          go_ret
          exact ⟨rfl, HB5.out⟩
        · have hne : ((asks.length : Int) != (l.length : Int)) = true := by
            have : asks.length ≠ l.length := by
              rcases HBD.out with h | h | h
              · rw [hm] at h; cases h
              · exact absurd h hk0
              · exact h
            rw [bne, beq_eq_false_iff_ne.2 (fun h => this (by omega))]
            rfl
          go_wp2
          go_ret
          exact ⟨rfl, HB5.out⟩
    have h1 : mayB l = true := by cases h : mayB l; exact absurd (.inl h) hbad; rfl
    have hk0 : 0 ≤ k := by omega
    have hln : asks.length = l.length := by omega
    have HM1 := Aside0.mk (show MayG l from of_decide_eq_true h1)
    have HLN := Aside0.mk hln
    have HSP := Aside0.mk (split_c s A c l k A2 c2 asks w3 HR3.out hc HA3.out hc2 HT3.out (by omega) h1 hk0 hk HCR.out hln hl80)
    obtain ⟨M, hMl, hMp, hMs⟩ := split_parts s k l asks hln
    have hgl1 := split_cnt s k l asks
    have hnl := numsA_len asks asks.length
    have HMP := Aside0.mk hMp
    have HML := Aside0.mk hMl
    have HMS := Aside0.mk hMs
    clear hbad h1 hMp hMl hMs
    generalize splitG s k l asks = gs at HSP HMP HML hgl1
    have dln : ((asks.length : Int) != (l.length : Int)) = false := by rw [hln]; simp
    clear hln
    go_wp2_with fail
    refine HSP.out.mono ?_
    rintro e w4 ⟨Av, cv, rfl, hcv, hCv, hb⟩
    have HB4 := Aside0.mk (below_then HB3.out HB3.out.size hb)
    have HR4 := Aside0.mk (Kd.C_below HR3.out hb)
    have HA4 := Aside0.mk (Kd.C_below HA3.out hb)
    have HV4 := Aside0.mk hCv
    have s0 := pw_cell_below hb r0
    have s1 := pw_cell_below hb r1
    clear hb hCv HSP HB3 HR3 HA3 HT3 r0 r1
    go_wp2_with fail
    go_loopw [9, 10] (fun v9 v10 wr => ∃ i T : Nat, i ≤ gs.length ∧ v10 = .int .i64 i ∧ v9 = .int .i64 T ∧ Aside0 (T = tot M i) ∧ Aside0 (Below w4.heap.size w4 wr)) (fun _ v10 _ => gs.length - (intOf v10).toNat)
    case atStart => exact ⟨0, 0, by omega, rfl, rfl, ⟨rfl⟩, ⟨Below.refl _ _⟩⟩
    case round =>
      obtain ⟨i, T, hi, rfl, rfl, HTT, HLW⟩ := hrel
      obtain ⟨w5, rfl⟩ : ∃ w5 : World, w5 = wr := ⟨_, rfl⟩
      have t0 := pw_cell_below HLW.out s0
      have t1 := pw_cell_below HLW.out s1
      by_cases hin : i < gs.length
      · have hi64 : IntKind.i64.wrap ((i : Int) + 1) = (i : Int) + 1 := i64w (by omega) (by omega)
        have hii : (i : Int) < (gs.length : Int) := by omega
        have hiM : i < M.length := by rw [HML.out]; exact hin
        obtain ⟨aV, B0, cB, hAV, k0, k1, hcB, HCB⟩ := at_T24 (Kd.C_below HV4.out HLW.out) (i : Int) (by omega) (by omega)
        rw [Int.toNat_natCast] at k0 k1
        subst hAV
        have hrd : rd_T24 gs (i : Int) = gs[i] := by simp [rd_T24, hin]
        rw [hrd] at k0 k1 hcB HCB
        have hPO := HMP.out i hiM hin
        have hTS := tot_succ hiM
        have hTL := tot_le M (i + 1)
        rw [HMS.out, hTS] at hTL
        have hTL2 : T + M[i].length ≤ asks.length := by rw [HTT.out]; omega
        generalize gs[i] = g at k0 k1 hcB HCB hPO hrd
        have HTN : Aside0 (∀ n, n = M[i].length → T + n = tot M (i + 1)) := ⟨fun n h => by rw [h, hTS, HTT.out]⟩
        clear hrd hTL hTS
        generalize M[i] = ms at hPO hTL2 HTN
        obtain ⟨gk, gr⟩ := g
        dsimp only at k0 k1 hcB HCB hPO
        have hmay := part_may hPO HM1.out HLN.out
        have hgl : gr.length = ms.length := by rw [hPO.is, List.length_map]
        have HPO := Aside0.mk hPO
        have HC5 := Aside0.mk HCB
        have HMY := Aside0.mk (may_c gk B0 cB gr w5 HCB hcB)
        rw [hmay] at HMY
        have HGL := Aside0.mk hgl
        clear HCB hPO hmay hgl
        go_wp2_with fail
        refine HMY.out.mono ?_
        rintro e w6 ⟨rfl, hb⟩
        have HL6 := Aside0.mk (below_then HLW.out HLW.out.size hb)
        have HC6 := Aside0.mk (Kd.C_below HC5.out hb)
        have x0 := pw_cell_below hb k0
        have x1 := pw_cell_below hb k1
        have g0 := pw_cell_below hb t0
        have g1 := pw_cell_below hb t1
        clear hb HMY HC5 HLW k0 k1 t0 t1
        go_wp2_with fail
        go_loopw [9, 11, 12, 13, 14] (fun v9 v11 v12 v13 v14 wq => ∃ (n U : Nat) (a b d : Int), n ≤ gr.length ∧ v14 = .int .i64 n ∧ v9 = .int .i64 U ∧ v11 = .int .i64 a ∧ v12 = .int .i64 b ∧ v13 = .int .i64 d ∧ Aside0 (U = T + n) ∧ Aside0 (∀ j m, n = j + 1 → ms[j]? = some m → a = (asks.getD m z40).f0 ∧ b = (asks.getD m z40).f1 ∧ d = (m : Int)) ∧ Aside0 (Below w6.heap.size w6 wq)) (fun _ _ _ _ v14 _ => gr.length - (intOf v14).toNat)
        case atStart => exact ⟨0, T, -1, 0, 0, by omega, rfl, rfl, rfl, rfl, rfl, ⟨rfl⟩, ⟨fun j m h => absurd h (by omega)⟩, ⟨Below.refl _ _⟩⟩
        case round =>
          obtain ⟨n, U, a, b, d, hn, rfl, rfl, rfl, rfl, rfl, HU, HAB, HLQ⟩ := hrel
          obtain ⟨w7, rfl⟩ : ∃ w7 : World, w7 = wr := ⟨_, rfl⟩
          have y0 := pw_cell_below HLQ.out x0
          have y1 := pw_cell_below HLQ.out x1
          have h0 := pw_cell_below HLQ.out g0
          have h1 := pw_cell_below HLQ.out g1
          by_cases hnn : n < gr.length
          · have hnb : n < 200 := by have := HGL.out; omega
            have hn64 : IntKind.i64.wrap ((n : Int) + 1) = (n : Int) + 1 := i64w (by omega) (by omega)
            have hni : (n : Int) < (gr.length : Int) := by omega
            have hU64 : IntKind.i64.wrap ((U : Int) + 1) = (U : Int) + 1 := i64w (by omega) (by have := HU.out; have := HGL.out; omega)
            have hnm : n < ms.length := by have := HGL.out; omega
            obtain ⟨m, hm⟩ : ∃ m, ms[n]? = some m := ⟨_, List.getElem?_eq_getElem hnm⟩
            have hmem := HPO.out.mem m (List.mem_of_getElem? hm)
            have hml : m < l.length := by rw [← HLN.out]; exact hmem.1
            obtain ⟨aR, hAR, z0⟩ := Kd.at_int (Kd.C_below HC6.out HLQ.out) (n : Int) (by omega) (by omega)
            rw [Int.toNat_natCast] at z0
            have hrr : rd gr (n : Int) = l.getD m 0 := by
              rw [rd_lt hnn]
              have e1 : gr[n]? = some (l.getD m 0) := by rw [HPO.out.is, List.getElem?_map, hm]; rfl
              rw [List.getElem?_eq_getElem hnn] at e1
              exact Option.some.inj e1
            rw [hrr] at z0
            subst hAR
            have hL7 := below_then HL6.out HL6.out.size HLQ.out
            have HNM := Aside0.mk (number_at s A c l (l.getD m 0) m w7.drew (C_drew (Kd.C_below HR4.out hL7)) hc (by omega) (part_pos HM1.out hml))
            obtain ⟨aA, hAA, a0, a1⟩ := at_T40 (Kd.C_below HA4.out hL7) (m : Int) (by omega) (by omega)
            rw [Int.toNat_natCast] at a0 a1
            subst hAA
            have hxa : rd_T40 asks (m : Int) = asks.getD m z40 := by simp [rd_T40]
            rw [hxa] at a0 a1
            have HLT : Aside0 (0 < n → a = (asks.getD m z40).f0 ∧ (b < (asks.getD m z40).f1 ∨ b = (asks.getD m z40).f1 ∧ d < (m : Int))) := ⟨fun h0 => by
              obtain ⟨j, rfl⟩ : ∃ j, n = j + 1 := ⟨n - 1, by omega⟩
              have hjm : j < ms.length := by omega
              obtain ⟨e1, e2, e3⟩ := HAB.out j ms[j] rfl (List.getElem?_eq_getElem hjm)
              have hm' : ms[j + 1] = m := by rw [List.getElem?_eq_getElem hnm] at hm; exact Option.some.inj hm
              have hp := List.pairwise_iff_getElem.1 HPO.out.up j (j + 1) hjm hnm (by omega)
              rw [hm'] at hp
              rw [e1, e2, e3]
              exact ⟨hp.1, hp.2.imp id (fun h => ⟨h.1, by omega⟩)⟩⟩
            have HAB2 : Aside0 (∀ j u, n + 1 = j + 1 → ms[j]? = some u → (asks.getD m z40).f0 = (asks.getD u z40).f0 ∧ (asks.getD m z40).f1 = (asks.getD u z40).f1 ∧ (m : Int) = (u : Int)) := ⟨fun j u h1 h2 => by
              obtain rfl : n = j := by omega
              rw [hm] at h2
              obtain rfl := Option.some.inj h2
              exact ⟨rfl, rfl, rfl⟩⟩
            have fm0 : ¬ ((m : Int) < 0) := by omega
            have fm1 : ¬ ((m : Int) ≥ (asks.length : Int)) := by have := hmem.1; omega
            have fm2 : (m : Int) < (asks.length : Int) := by have := hmem.1; omega
            have fm3 : 0 ≤ (m : Int) := by omega
            have fc : ¬ (asks.getD m z40).f0 < 0 := by have := hmem.2; omega
            clear hxa hmem hrr hm
            generalize asks.getD m z40 = x at a0 a1 HLT HAB2 fc
            obtain ⟨xc, xk⟩ := x
            dsimp only at a0 a1 HLT HAB2 fc
            have HNI := Aside0.mk (show n + 1 ≤ gr.length by omega)
            have HUN : Aside0 (U + 1 = T + (n + 1)) := ⟨by have := HU.out; omega⟩
            have HMM : Aside0 (gr.length - (n + 1) < gr.length - n) := ⟨by omega⟩
            clear hL7 hml hnn hn hnb
            generalize l.getD m 0 = r at z0 HNM
            go_upto_region 20 with fail
            go_region_held3 (fun W => W.cell? ⟨w.heap.size, 0, none⟩ = some (.string s) ∧ W.cell? ⟨w.heap.size, 1, none⟩ = some (.slice A l.length c) ∧ W.cell? ⟨(aV.add (i * 2)).block, (aV.add (i * 2)).off + 1, none⟩ = some (.slice (some aR) gr.length cB) ∧ W.cell? (aR.add n) = some (.int .i64 r))
              (first | exact ⟨j0, j1, j2, j3⟩ | exact ⟨h0, h1, y1, z0⟩)
              (first | (go_at_call 19; with_reducible refine HNM.out.mono ?_; rintro e w8 ⟨rfl, hb⟩; have HL8 := Aside0.mk (below_then HLQ.out HLQ.out.size (below_of_drew hb)); have b0 := pw_cell_below (below_of_drew hb) a0; have b1 := pw_cell_below (below_of_drew hb) a1; have j0 := pw_cell_below (below_of_drew hb) h0; have j1 := pw_cell_below (below_of_drew hb) h1; have j2 := pw_cell_below (below_of_drew hb) y1; have j3 := pw_cell_below (below_of_drew hb) z0; clear hb))
            all_goals (
              clear a0 a1 y0 y1 h0 h1 z0 HLQ HNM j0 j1 j2 j3
              by_cases hn0 : 0 < n
              · obtain ⟨e1, e2⟩ := HLT.out hn0
                subst e1
                have fn : (n : Int) > 0 := by omega
                have dcc : (a != a) = false := by simp
                have hkk : ¬ xk < b := by omega
                clear HLT hn0
                rcases e2 with e2 | e2
                · have dkk : (xk == b) = false := beq_eq_false_iff_ne.2 (by omega)
                  go_wp2_with fail
                  go_quiet (fail)
                  go_wp2
                  exact ⟨⟨n + 1, U + 1, a, xk, (m : Int), HNI.out, by go_num, by go_num, rfl, rfl, rfl, HUN, HAB2, ⟨pw_below_drewN HL8.out nq⟩⟩, by simp [intOf]; have := HMM.out; omega⟩
                · obtain ⟨rfl, e3⟩ := e2
                  have dmm : ¬ ((m : Int) ≤ d) := by omega
                  have dkk : (b == b) = true := by simp
                  go_wp2_with fail
                  go_quiet (fail)
                  go_wp2
                  exact ⟨⟨n + 1, U + 1, a, b, (m : Int), HNI.out, by go_num, by go_num, rfl, rfl, rfl, HUN, HAB2, ⟨pw_below_drewN HL8.out nq⟩⟩, by simp [intOf]; have := HMM.out; omega⟩
              · obtain rfl : n = 0 := by omega
                have fn : ¬ (((0 : Nat) : Int) > 0) := by omega
                go_wp2_with fail
                go_quiet (fail)
                go_wp2
                exact ⟨⟨0 + 1, U + 1, xc, xk, (m : Int), HNI.out, by go_num, by go_num, rfl, rfl, rfl, HUN, HAB2, ⟨pw_below_drewN HL8.out nq⟩⟩, by simp [intOf]; have := HMM.out; omega⟩)
          · obtain rfl : n = gr.length := by omega
            have HTF : Aside0 (U = tot M (i + 1)) := ⟨by rw [HU.out]; exact HTN.out _ HGL.out⟩
            have HLF := Aside0.mk (below_then HL6.out HL6.out.size HLQ.out)
            go_wp2
            exact ⟨⟨i + 1, U, by omega, by go_num, rfl, HTF, HLF⟩, by simp [intOf]; omega⟩
      · obtain rfl : i = gs.length := by omega
        have HV0 : Aside0 (T + (numsA asks 0).length = (numsA asks asks.length).length) := ⟨by
          rw [HTT.out, ← HMS.out, ← HML.out]
          unfold tot
          rw [List.take_length]
          rfl⟩
        clear hin t0 t1
        go_wp2_with fail
        go_loopw [9, 17] (fun v9 v17 wq => ∃ j V : Nat, j ≤ asks.length ∧ v17 = .int .i64 j ∧ v9 = .int .i64 V ∧ Aside0 (V + (numsA asks j).length = (numsA asks asks.length).length) ∧ wq = w5) (fun _ v17 _ => asks.length - (intOf v17).toNat)
        case atStart => exact ⟨0, T, by omega, rfl, rfl, HV0, rfl⟩
        case round =>
          obtain ⟨j, V, hj, rfl, rfl, HV, hw⟩ := hrel
          subst hw
          by_cases hjn : j < asks.length
          · have hj64 : IntKind.i64.wrap ((j : Int) + 1) = (j : Int) + 1 := i64w (by omega) (by omega)
            have hji : (j : Int) < (asks.length : Int) := by omega
            obtain ⟨aA, hAA, a0, a1⟩ := at_T40 (Kd.C_below HA4.out HLW.out) (j : Int) (by omega) (by omega)
            rw [Int.toNat_natCast] at a0
            subst hAA
            have hxa : rd_T40 asks (j : Int) = asks.getD j z40 := by simp [rd_T40]
            rw [hxa] at a0
            have hsu := numsA_succ asks j
            have hmo := numsA_mono asks (show j + 1 ≤ asks.length by omega)
            have HVV := HV.out
            generalize (asks.getD j z40).f0 = xc at a0 hsu
            clear hxa a1
            by_cases hc0 : 0 ≤ xc
            · rw [if_pos hc0] at hsu
              have fc : xc ≥ 0 := hc0
              have hV64 : IntKind.i64.wrap ((V : Int) - 1) = ((V - 1 : Nat) : Int) := by rw [i64w (by omega) (by omega)]; omega
              have HV2 : Aside0 (V - 1 + (numsA asks (j + 1)).length = (numsA asks asks.length).length) := ⟨by omega⟩
              clear hsu hmo HVV hnl
              go_wp2
              exact ⟨⟨j + 1, V - 1, by omega, by go_num, rfl, HV2, by first | rfl | trivial⟩, by simp [intOf]; omega⟩
            · rw [if_neg hc0] at hsu
              have fc : ¬ xc ≥ 0 := hc0
              have HV2 : Aside0 (V + (numsA asks (j + 1)).length = (numsA asks asks.length).length) := ⟨by omega⟩
              clear hsu hmo HVV hnl
              go_wp2
              exact ⟨⟨j + 1, V, by omega, by go_num, rfl, HV2, by first | rfl | trivial⟩, by simp [intOf]; omega⟩
          · obtain rfl : j = asks.length := by omega
            have hV0 : V = 0 := by have := HV.out; omega
            subst hV0
            go_wp2
            go_ret
            exact ⟨rfl, below_then HB4.out HB4.out.size HLW.out⟩
end Go.Proofs.YtkifmhfgplhabaaDoor.HQ

namespace Go.Proofs.YtkifmhfgplhabaaDoor.groupParts
open Go.ChangeShapes Go.WideShapes Go.ChangeAt Go.RowKit Go.Joins
open Go.ChangeMaps (open_string shut_string)
set_option linter.unusedVariables false
theorem own : ownKnob Tryd.prog.godebug = none := by kernel_rfl
theorem laidOut : laidOutB Tryd.prog = true := by kernel_rfl
theorem cellsG : Tryd.prog.cellsOf 24 = 2 := by kernel_rfl
set_option maxRecDepth 100000 in
theorem lifted (os : Os) (started : os.Started) (H : Type) (enc : TypeId × Value → H) :
    ReturnsInHanded {} Tryd.checked os 6 .any (fun w args => (Rows.groupPartsSpec.pre enc Tryd.prog Tryd.f6 [] false w args ∧ laidMetH Tryd.prog HR.laid3 w) ∧ sizedMet enc Tryd.prog Tryd.f6 (OpenSpec.ofChange Rows.groupPartsSpec) false w args)
      (Rows.groupPartsSpec.post enc Tryd.prog Tryd.f6 false true false false) := by
  refine returnsInHanded_of_change_and (C := Tryd.checked) (X := fun w _ => laidMetH Tryd.prog HR.laid3 w) (fun _ _ _ hh h => h.of_heap hh) own started (by kernel_rfl) Tryd.func6
    (ChangeSpec.witness_shaped (enc := enc) (C := Tryd.checked) (os := os) (X := fun w _ => laidMetH Tryd.prog HR.laid3 w) false (World.doorLaid Tryd.prog 24 os) #[.agg #[.string ⟨#[]⟩, .slice none 0 0], .int .i64 0, .slice none 0 0] 8 rfl (World.shaped_of_RefB (by kernel_rfl) (by kernel_rfl)) (by kernel_rfl) (by kernel_rfl) (by kernel_rfl) (HR.door_met os _)) ?_
  intro W base args ds gs before hval0 hW _ _ hL _
  have hval : ∀ (j : Nat) t v, Tryd.f6.params[j]? = some t → args[j]? = some v → Value.okWide Tryd.prog W .any base t v := hval0
  have hW' := hW
  obtain ⟨p, q, hA0, hV, rfl, hfz, hnd⟩ := hW
  have hA : DataW.TrodAll enc Tryd.prog W 0 (fun _ => true) true Tryd.f6.params.toList args.toList ds p := hA0
  rw [Tryd.params6] at hA hval
  obtain ⟨v0, vs0, d0, ds0, p0, q0, hargs, rfl, rfl, h0, r0⟩ := trodAll_cons hA
  obtain ⟨v1, vs1, d1, ds1, p1, q1, rfl, rfl, rfl, h1, r1⟩ := trodAll_cons r0
  obtain ⟨v2, vs2, d2, ds2, p2, q2, rfl, rfl, rfl, h2, r2⟩ := trodAll_cons r1
  obtain ⟨rfl, rfl, rfl⟩ := trodAll_nil r2
  obtain rfl : args = #[v0, v1, v2] := by cases args; simp_all
  obtain ⟨rfl, rfl⟩ := trodVars_none hV
  have k0 := h0
  have lt0 : ∀ x ∈ p0, x.block < W.heap.size := by obtain ⟨m, hm⟩ := k0; exact DataW.trod_lt m _ _ _ hm
  obtain ⟨c00, c10, y00, y10, m0, rfl, rfl, rfl, hy00, hy10⟩ := open_agg2 Tryd.underlying24 (by kernel_rfl) cellsG (hval 0 24 v0 rfl rfl) h0
  obtain ⟨s0, hs10, hs20, hs30⟩ := DataW.trod_string Tryd.underlying9 hy00
  obtain rfl : c00 = .string s0 := by simpa using hs10
  obtain ⟨a0, cc0, ys0, hs40, hyc0, hyr0⟩ := HR.open_ints_kd hy10
  obtain rfl : c10 = .slice a0 ys0.length cc0 := by simpa using hs40
  have k1 := h1
  have lt1 : ∀ x ∈ p1, x.block < W.heap.size := by obtain ⟨m, hm⟩ := k1; exact DataW.trod_lt m _ _ _ hm
  obtain ⟨n1, rfl, _, _, w1⟩ := open_int Tryd.underlying3 (hval 1 3 v1 rfl rfl) h1
  have k2 := h2
  have lt2 : ∀ x ∈ p2, x.block < W.heap.size := by obtain ⟨m, hm⟩ := k2; exact DataW.trod_lt m _ _ _ hm
  obtain ⟨a2, l2, c2, rfl⟩ := okWide_slice Tryd.underlying25 (hval 2 25 v2 rfl rfl)
  obtain ⟨xs2, rfl, hc2, hr2, hx2⟩ := HR.open_asks h2
  have hT := HR.tab_of_laid hL
  clear hA0 hval0 hL
  refine (HQ.parts_c s0 a0 cc0 ys0 n1 a2 c2 xs2 W hyr0 hyc0 (HR.rng_of w1) hr2 hc2 hx2 hT).mono fun e W' ⟨he, bel⟩ => ?_
  subst he
  exact ⟨_, rfl, _, _, _, [], _, [], hW', trodAll_mk1 (shut_bool Tryd.underlying4 _), (trodAll_cons_mk (Below.trod laidOut (by kernel_rfl) (of_decide_eq_true (by kernel_rfl)) k0 bel lt0) (trodAll_cons_mk (Below.trod laidOut (by kernel_rfl) (of_decide_eq_true (by kernel_rfl)) k1 bel lt1) (trodAll_cons_mk (Below.trod laidOut (by kernel_rfl) (of_decide_eq_true (by kernel_rfl)) k2 bel lt2) trodAll_mk0))), rfl, bel.frame _, fun h => by cases h⟩
theorem proved : Rows.GroupPartsSaid :=
  OpenClaim.holds_of_wide 6 Tryd.f6 rfl rfl rfl rfl rfl rfl rfl ⟨rfl, rfl, rfl, rfl, rfl⟩ rfl rfl rfl rfl rfl (by kernel_rfl) Tryd.func6 (by kernel_rfl)
    (of_decide_eq_true (by kernel_rfl)) (by unfold Func.isWrapper; first | (rw [if_pos (by decide +kernel)]; kernel_rfl) | (rw [if_neg (by decide +kernel)]; exact ⟨rfl, rfl⟩))
    (fun os started H enc _ => lifted os started H enc)
theorem whole : Rows.GroupPartsCardSaid :=
  Claim7.holds_tied_plain_at .later [] [.data, .data, .data] true Rows.groupPartsCard.stood.harness Rows.groupPartsCard.stood.looks
    proved (fun _ h => by cases h) (by kernel_rfl) (fun _ h => by cases h) groupParts_row_tie rfl ⟨rfl, rfl⟩ (by kernel_rfl) rfl
    (fun f fn hf hfn => by
      obtain rfl : f = 6 := Option.some.inj ((show Tryd.prog.funcNamed "dispatcher/dispatcherlaw11.GroupParts" = some 6 by kernel_rfl).symm.trans hf) |>.symm
      obtain rfl : fn = Tryd.f6 := (Option.some.inj (Tryd.func6.symm.trans hfn)).symm
      exact ⟨by kernel_rfl, fun j t ht => by
        rw [Tryd.params6] at ht
        have hm : t ∈ [24, 3, 25] := by simpa using Array.mem_of_getElem? ht
        have hall : ([24, 3, 25].all fun u => !Tryd.prog.wantsStandIn u) = true := by kernel_rfl
        exact (show Tryd.prog.wantsStandIn t = false by simpa using List.all_eq_true.1 hall t hm)⟩)
    (by kernel_rfl)
end Go.Proofs.YtkifmhfgplhabaaDoor.groupParts
namespace Go.Proofs.YtkifmhfgplhabaaDoor
/-- The card, under a short name, for the claim. -/
theorem groupParts_holds : Rows.GroupPartsCardSaid := groupParts.whole
end Go.Proofs.YtkifmhfgplhabaaDoor
