/- GroupKeys: whatever comes in, the law answers true, and what came in reads as it did; the tables that it lists are tied to the program's text. No condition. -/
import Derived.Test.YtkifmhfgplhabaaDoorHRg
import Derived.Test.YtkifmhfgplhabaaDoorGdA
import Derived.Test.YtkifmhfgplhabaaDoorRows
import Derived.Test.YtkifmhfgplhabaaDoorTie
import Derived.Test.YtkifmhfgplhabaaDoorCards
import Derived.LaidMore
import Derived.Stop.Joined
import Derived.WalkKit
import Derived.Below
import Derived.SevenTiedAt
import Derived.Test.YtkifmhfgplhabaaDoorGdE
import Derived.Test.YtkifmhfgplhabaaDoorGdB
import Derived.Deep.Slices
import Derived.Deep.QuietTactic
import Derived.ProofKit
import Derived.OpenShut
import Derived.ShutString
import Derived.ChangeOld
import Derived.SizedLaws
import Derived.Lib.SmallJoins
namespace Go.Proofs.YtkifmhfgplhabaaDoor.HR
open Go.RowKit Go.Joins Go.ChangeShapes Go.WideShapes Go.Deep Go.Proofs.YtkifmhfgplhabaaDoor.HK Go.Proofs.YtkifmhfgplhabaaDoor.HQ Go.Proofs.YtkifmhfgplhabaaDoorW.PrintWords Go.Proofs.YtkifmhfgplhabaaDoorW.PrintLast Go.Proofs.YtkifmhfgplhabaaDoorW.PrintMore
set_option linter.unusedVariables false
theorem rng_of {n : Int} (h : (Lit.int .i64 n).wf = true) : Rng n := by
  simp only [Lit.wf, Bool.and_eq_true, decide_eq_true_eq] at h
  exact ⟨h.1, h.2⟩
section
variable {H : Type} {enc : TypeId × Value → H} {w : World} {sp : Nat → Bool} {held : Bool}
theorem open_kdP {α : Type} {P : Program} (d : Kd α) (p : α → Prop) {t e : TypeId} (ht : P.underlying t = some (.slice e)) (hsz : P.cellsOf e = d.sz)
    (hel : ∀ n cs y, cs.length = d.sz → DataW.trod enc P w 0 sp held n e cs = some y → ∃ x, d.K w x cs ∧ p x)
    {fuel : Nat} {v : Value} {x : DataW H × List MemPlace} (h : DataW.trod enc P w 0 sp held fuel t [v] = some x) :
    ∃ A c xs, v = .slice A xs.length c ∧ xs.length ≤ c ∧ d.C w A xs.length xs ∧ ∀ x ∈ xs, p x := by
  rcases open_slice ht h with ⟨hcs, _⟩ | ⟨a, len, cap, m, n, D, Pl, hcs, _, hl, hm, hmm, _, hx⟩
  · obtain rfl : v = .slice none 0 0 := by simpa using hcs
    exact ⟨none, 0, [], rfl, Nat.le_refl _, ⟨rfl, by simp, fun h => absurd h (by simp)⟩, by simp⟩
  · obtain rfl : v = .slice (some a) len cap := by simpa using hcs
    have hlm : len ≤ m := by rw [hmm]; split <;> omega
    obtain ⟨xs, hxl, hxs⟩ := choose_below (p := fun i x => (∃ c, c.length = d.sz ∧ d.K w x c ∧ ∀ j u, c[j]? = some u → w.cell? (a.add (i * d.sz + j)) = some u) ∧ p x) len (fun i hi => by
      obtain ⟨cs', h1, h2⟩ := hx i (by omega)
      obtain ⟨_, hlen, hc⟩ := World.cells?_some h1
      obtain ⟨x, hK, hp⟩ := hel n cs' _ (by omega) h2
      refine ⟨x, ⟨cs', by omega, hK, fun j u hu => ?_⟩, hp⟩
      have hj : j < cs'.length := by
        rcases Nat.lt_or_ge j cs'.length with h | h
        · exact h
        · rw [List.getElem?_eq_none h] at hu; exact absurd hu (by simp)
      have := hc j (by omega)
      rw [hsz] at this
      rw [← hu, ← this]
      rw [Addr.add_add])
    have hmx : maxLen = 9223372036854775807 := rfl
    subst hxl
    refine ⟨some a, cap, xs, rfl, hl, ⟨rfl, by omega, fun _ => ⟨a, rfl, fun j p hj => (hxs j p hj).1⟩⟩, fun x hx => ?_⟩
    obtain ⟨i, hi, rfl⟩ := List.getElem_of_mem hx
    exact (hxs i _ (List.getElem?_eq_getElem hi)).2
theorem cells_ask : Tryd.prog.cellsOf 40 = 2 := by kernel_rfl
set_option maxRecDepth 100000 in
theorem trod_ask {n : Nat} {cs : List Value} {y : DataW H × List MemPlace} (hl : cs.length = 2) (h : DataW.trod enc Tryd.prog w 0 sp held n 40 cs = some y) : ∃ x : S40, k40.K w x cs ∧ (Rng x.f0 ∧ Rng x.f1) := by
  obtain ⟨ys, n, _, _, _, hlen, hg⟩ := DataW.trod_struct Tryd.underlying40 h
  match cs, hl with
  | [v0, v1], _ =>
    match ys, hlen with
    | [y0, y1], _ =>
      have g0 : DataW.trod enc Tryd.prog w 0 sp held n 3 [v0] = some y0 := by simpa [cells_int] using hg 0 _ rfl
      have g1 : DataW.trod enc Tryd.prog w 0 sp held n 3 [v1] = some y1 := by simpa [cells_int] using hg 1 _ rfl
      obtain ⟨a, e0, _, r0⟩ := DataW.trod_int Tryd.underlying3 g0
      obtain ⟨b, e1, _, r1⟩ := DataW.trod_int Tryd.underlying3 g1
      simp only [List.cons.injEq, and_true] at e0 e1
      exact ⟨⟨a, b⟩, by rw [e0, e1]; exact k40_mk w ⟨a, b⟩, rng_of r0, rng_of r1⟩
theorem open_asks {a : Option Addr} {len cap : Nat} {d : DataW H} {p : List MemPlace} (h : DataW.Trod enc Tryd.prog w 0 sp held 25 (.slice a len cap) d p) :
    ∃ xs : List S40, len = xs.length ∧ xs.length ≤ cap ∧ Kd.C k40 w a xs.length xs ∧ ∀ x ∈ xs, (Rng x.f0 ∧ Rng x.f1) := by
  obtain ⟨fuel, hf⟩ := h
  have hf' : DataW.trod enc Tryd.prog w 0 sp held fuel 25 [.slice a len cap] = some (d, p) := hf
  obtain ⟨A, c, xs, e, h1, h2, h3⟩ := open_kdP k40 (fun x => Rng x.f0 ∧ Rng x.f1) Tryd.underlying25 cells_ask (fun n cs y hl hy => trod_ask (by exact hl) hy) hf'
  injection e with e1 e2 e3
  subst e1 e2 e3
  exact ⟨xs, rfl, h1, h2, h3⟩
end
/-- the three tables that a row lists -/
abbrev laid3 {H : Type} : List (String × DataW H) := [("math/bits.deBruijn32tab", Rows.laid_math_bits_deBruijn32tab), ("math/bits.deBruijn64tab", Rows.laid_math_bits_deBruijn64tab), ("internal/strconv.uint64pow10", Rows.laid_internal_strconv_uint64pow10)]
theorem door_met (os : Os) (args : Array Value) : laidMetH Tryd.prog laid3 ((World.doorLaid Tryd.prog 24 os).forCall (fun _ _ => 0) ⟨#[], args, []⟩).memory :=
  laidMetH_of_parts3 (fuel := 8) (laidMet_of_run' 8 (by kernel_rfl) (by kernel_rfl)) (by kernel_rfl) (by kernel_rfl)
theorem tTab : (Tryd.prog.globals[0]?).map (·.type) = some 98 := by kernel_rfl
theorem tab_of_laid {W : World} (h : laidMetH Tryd.prog laid3 W) : Tab W := by
  rw [MakeChecks.laidMetH_plain _ _ _ (by kernel_rfl)] at h
  obtain ⟨ps, ⟨g0, t0, cs0, f0, p0, q0, hg0, ht0, hv0, hd0, ⟨g1, t1, cs1, f1, p1, q1, hg1, ht1, hv1, hd1, ⟨g2, t2, cs2, f2, p2, q2, hg2, ht2, hv2, hd2, _, _⟩, _⟩, _⟩, _, _⟩ := h
  obtain rfl := Option.some.inj (gTab.symm.trans hg2)
  obtain rfl := Option.some.inj (tTab.symm.trans ht2)
  have hc := Lib.cells_of_tab (k := .u64) (zs := Lib.pow10Tab) Tryd.underlying98 Tryd.underlying58 (by kernel_rfl) (by kernel_rfl) hd2
  have ht : Lib.TabIs Tryd.prog W "internal/strconv.uint64pow10" .u64 Lib.pow10Tab := by
    unfold Lib.TabIs
    rw [hv2, ← hc]
  exact ⟨ht, World.block_lt_of_cell? W _ (ht.cell gTab 0 (by decide))⟩
end Go.Proofs.YtkifmhfgplhabaaDoor.HR

namespace Go.Proofs.YtkifmhfgplhabaaDoor.HQ
open Go.Proofs.YtkifmhfgplhabaaDoor.HU Go.RowKit Go.Proofs.YtkifmhfgplhabaaDoor.HK Go.Proofs.YtkifmhfgplhabaaDoor.HP Go.Proofs.YtkifmhfgplhabaaDoorW.PrintWords Go.Proofs.YtkifmhfgplhabaaDoorW.PrintLast Go.Proofs.YtkifmhfgplhabaaDoorW.PrintMore
set_option linter.unusedVariables false
set_option linter.unusedSimpArgs false
theorem index_loop (l : List Int) (x : Int) (hl : l.length ≤ 1000) (r : Int) (hr : (r = -1 ∧ ∀ j : Nat, j < l.length → rd l (j : Int) ≠ x) ∨ ∃ m : Nat, r = m ∧ m < l.length ∧ rd l (m : Int) = x ∧ ∀ j : Nat, j < m → rd l (j : Int) ≠ x) :
    ∀ n i, n = l.length - i → i ≤ l.length → (∀ m : Nat, r = m → i ≤ m) → Ev (fun k => Qgnbase.slices_Index_int_int.l0 k l x (l.length : Int) (i : Int)) r := by
  intro n
  induction n with
  | zero =>
    intro i hn hi hm
    refine Ev.round ?_ (fun k => by simp only [Qgnbase.slices_Index_int_int.l0]; rfl)
    refine Ev.neg (by omega) ?_
    rcases hr with ⟨rfl, _⟩ | ⟨m, rfl, h1, _⟩
    · exact Ev.const rfl
    · have := hm m rfl; omega
  | succ n ih =>
    intro i hn hi hm
    refine Ev.round ?_ (fun k => by simp only [Qgnbase.slices_Index_int_int.l0]; rfl)
    refine Ev.pos (by omega) ?_
    refine Ev.pos (by omega) ?_
    refine Ev.pos (by omega) ?_
    by_cases he : x = rd l (i : Int)
    · refine Ev.pos he ?_
      rcases hr with ⟨rfl, h⟩ | ⟨m, rfl, h1, h2, h3⟩
      · exact absurd he.symm (h i (by omega))
      · have h4 := hm m rfl
        have : i = m := by
          rcases Nat.lt_or_ge i m with h5 | h5
          · exact absurd he.symm (h3 i h5)
          · omega
        exact Ev.const (by rw [this])
    · refine Ev.neg he ?_
      rw [wrap64_nat i (by omega)]
      refine ih (i + 1) (by omega) (by omega) (fun m hmm => ?_)
      have h4 := hm m hmm
      rcases hr with ⟨h5, _⟩ | ⟨m', h5, _, h6, _⟩
      · omega
      · have : m = m' := by omega
        subst this
        rcases Nat.lt_or_ge i m with h7 | h7
        · exact h7
        · have : i = m := by omega
          subst this
          exact absurd h6.symm he
/-- where a rank stands -/
def posI (l : List Int) (x : Int) : Option Nat := l.findIdx? (fun y => decide (y = x))
theorem posI_some {l : List Int} {x : Int} {m : Nat} (h : posI l x = some m) : m < l.length ∧ rd l (m : Int) = x ∧ ∀ j : Nat, j < m → rd l (j : Int) ≠ x := by
  obtain ⟨h1, h2, h3⟩ := List.findIdx?_eq_some_iff_getElem.1 h
  refine ⟨h1, ?_, fun j hj => ?_⟩
  · rw [rd_lt h1]; simpa using h2
  · rw [rd_lt (by omega)]; simpa using h3 j hj
theorem posI_none {l : List Int} {x : Int} (h : posI l x = none) : ∀ j : Nat, j < l.length → rd l (j : Int) ≠ x := by
  intro j hj
  rw [rd_lt hj]
  have := List.findIdx?_eq_none_iff.1 h _ (List.getElem_mem hj)
  simpa using this
theorem number_c (s : ByteArray) (A : Option Addr) (c : Nat) (l : List Int) (x : Int) (w : World) (hr : Kd.C (Kd.int .i64) w A l.length l) (hc : l.length ≤ c) (hl : l.length ≤ 1000) :
    Calls Tryd.prog 19 #[.agg #[.string s, .slice A l.length c], .int .i64 x] w fun e w' => e = .returned (.tuple #[.int .i64 (((posI l x).getD 0 : Nat) : Int), .bool (posI l x).isSome]) ∧ Below w.heap.size w w' := by
  cases hp : posI l x with
  | some m =>
    obtain ⟨h1, h2, h3⟩ := posI_some hp
    obtain ⟨K, hK⟩ := (index_loop l x hl (m : Int) (.inr ⟨m, rfl, h1, h2, h3⟩) l.length 0 rfl (Nat.zero_le _) (fun _ _ => Nat.zero_le _)).rounds
    exact Qgnbase.group_Number.calls K s A c l x (m : Int) true w hr hc (by unfold Qgnbase.group_Number.f Qgnbase.slices_Index_int_int.f; rw [show ((0 : Nat) : Int) = 0 from rfl] at hK; rw [hK]; simp [mx]; omega)
  | none =>
    obtain ⟨K, hK⟩ := (index_loop l x hl (-1) (.inl ⟨rfl, posI_none hp⟩) l.length 0 rfl (Nat.zero_le _) (fun m hm => by omega)).rounds
    exact Qgnbase.group_Number.calls K s A c l x 0 false w hr hc (by unfold Qgnbase.group_Number.f Qgnbase.slices_Index_int_int.f; rw [show ((0 : Nat) : Int) = 0 from rfl] at hK; rw [hK]; rfl)
theorem rank_c (s : ByteArray) (A : Option Addr) (c : Nat) (l : List Int) (n : Int) (w : World) (hr : Kd.C (Kd.int .i64) w A l.length l) (hc : l.length ≤ c) :
    Calls Tryd.prog 20 #[.agg #[.string s, .slice A l.length c], .int .i64 n] w fun e w' => e = .returned (.tuple #[.int .i64 (if 0 ≤ n ∧ n < l.length then rd l n else 0), .bool (decide (0 ≤ n ∧ n < l.length))]) ∧ Below w.heap.size w w' := by
  by_cases h : 0 ≤ n ∧ n < l.length
  · rw [if_pos h, decide_eq_true h]
    exact Qgnbase.group_Rank.calls s A c l n _ true w hr hc (by unfold Qgnbase.group_Rank.f; rw [if_neg (by omega), if_neg (by omega), if_pos h.1, if_pos h.2])
  · rw [if_neg h, decide_eq_false h]
    refine Qgnbase.group_Rank.calls s A c l n 0 false w hr hc ?_
    unfold Qgnbase.group_Rank.f
    by_cases h0 : n < 0
    · rw [if_pos h0]
    · rw [if_neg h0, if_pos (by omega)]
theorem great_c (s : ByteArray) (A : Option Addr) (c : Nat) (l : List Int) (w : World) (hr : Kd.C (Kd.int .i64) w A l.length l) (hc : l.length ≤ c) :
    Calls Tryd.prog 9 #[.agg #[.string s, .slice A l.length c]] w fun e w' => e = .returned (.bool (decide (80 < l.length ∨ 200 < s.size))) ∧ Below w.heap.size w w' := by
  refine Qgnbase.dispatcherlaw11_Great.calls s A c l _ w hr hc ?_
  unfold Qgnbase.dispatcherlaw11_Great.f
  by_cases h : (l.length : Int) > 80
  · rw [if_pos h, decide_eq_true (.inl (by omega))]
  · rw [if_neg h]
    congr 1
    refine decide_eq_decide.2 ?_
    omega
theorem rd_inj {l : List Int} (h : l.Nodup) {i j : Nat} (hi : i < l.length) (hj : j < l.length) (he : rd l (i : Int) = rd l (j : Int)) : i = j := by
  rw [rd_lt hi, rd_lt hj] at he
  have hp := List.pairwise_iff_getElem.1 h
  rcases Nat.lt_trichotomy i j with h1 | h1 | h1
  · exact absurd he (hp i j hi hj h1)
  · exact h1
  · exact absurd he.symm (hp j i hj hi h1)
set_option maxRecDepth 100000 in
set_option maxHeartbeats 8000000 in
theorem round_c (s : ByteArray) (A : Option Addr) (c : Nat) (l : List Int) (n : Int) (w : World) (hr : Kd.C (Kd.int .i64) w A l.length l) (hc : l.length ≤ c) (ht : Tab w) :
    Calls Tryd.prog 7 #[.agg #[.string s, .slice A l.length c], .int .i64 n] w fun e w' => e = .returned (.bool true) ∧ Below w.heap.size w w' := by
  have b0 := blk_new w (.cells #[.string s, .slice A l.length c] 24)
  have hba := below_alloc (Below.refl w.heap.size w) (.cells #[.string s, .slice A l.length c] 24)
  have HB0 := Aside0.mk hba
  have HT0 := Aside0.mk (ht.after hba)
  have HR0 := Aside0.mk (Kd.C_below hr hba)
  have p0 : (w.alloc (.cells #[.string s, .slice A l.length c] 24)).cell? ⟨w.heap.size, 0, none⟩ = some (.string s) := (blk_cell b0 0).trans rfl
  have p1 : (w.alloc (.cells #[.string s, .slice A l.length c] 24)).cell? ⟨w.heap.size, 1, none⟩ = some (.slice A l.length c) := (blk_cell b0 1).trans rfl
  clear hr ht hba b0
  go_enter Tryd.func7, Tryd.ntmps7
  go_wp2_with fail
  generalize (w.alloc (.cells #[.string s, .slice A l.length c] 24)) = w1 at p0 p1 HB0 HT0 HR0 ⊢
  refine (awake_c w1 HT0.out).mono ?_
  rintro e w2 ⟨rfl, hb⟩
  have HB2 := Aside0.mk (below_then HB0.out HB0.out.size hb)
  have HR2 := Aside0.mk (Kd.C_below HR0.out hb)
  have q0 := pw_cell_below hb p0
  have q1 := pw_cell_below hb p1
  clear hb HB0 HT0 HR0 p0 p1
  go_wp2_with fail
  refine (great_c s A c l w2 HR2.out hc).mono ?_
  rintro e w3 ⟨rfl, hb⟩
  have HB3 := Aside0.mk (below_then HB2.out HB2.out.size hb)
  have HR3 := Aside0.mk (Kd.C_below HR2.out hb)
  have r0 := pw_cell_below hb q0
  have r1 := pw_cell_below hb q1
  clear hb HB2 HR2 q0 q1
  by_cases hg : 80 < l.length ∨ 200 < s.size
  · have dg : decide (80 < l.length ∨ 200 < s.size) = true := decide_eq_true hg
    rw [dg]
    clear hg dg
    go_wp2
    go_ret
    exact ⟨rfl, HB3.out⟩
  · have dg : decide (80 < l.length ∨ 200 < s.size) = false := decide_eq_false hg
    rw [dg]
    have hl80 : l.length ≤ 80 := by omega
    clear hg dg
    go_wp2_with fail
    refine (may_c s A c l w3 HR3.out hc).mono ?_
    rintro e w4 ⟨rfl, hb⟩
    have HB4 := Aside0.mk (below_then HB3.out HB3.out.size hb)
    have HR4 := Aside0.mk (Kd.C_below HR3.out hb)
    have s0 := pw_cell_below hb r0
    have s1 := pw_cell_below hb r1
    clear hb HB3 HR3 r0 r1
    cases hm : mayB l with
    | false =>
      go_wp2
      go_ret
      exact ⟨rfl, HB4.out⟩
    | true =>
      have hmay : MayG l := of_decide_eq_true hm
      have HND := Aside0.mk hmay.2.2
      clear hm hmay
      have HRK := Aside0.mk (rank_c s A c l n w4 HR4.out hc)
      by_cases hn : 0 ≤ n ∧ n < (l.length : Int)
      · rw [if_pos hn, decide_eq_true hn] at HRK
        obtain ⟨n0, rfl⟩ : ∃ n0 : Nat, n = n0 := ⟨n.toNat, by omega⟩
        have hn0 : n0 < l.length := by omega
        have hp := posI_none (l := l) (x := rd l (n0 : Int))
        have hpos : posI l (rd l (n0 : Int)) = some n0 := by
          cases hq : posI l (rd l (n0 : Int)) with
          | none => exact absurd rfl (posI_none hq n0 hn0)
          | some m =>
            obtain ⟨h1, h2, _⟩ := posI_some hq
            rw [rd_inj HND.out h1 hn0 h2]
        obtain ⟨f1, f2⟩ := hn
        clear hp
        go_wp2_with fail
        refine HRK.out.mono ?_
        rintro e w5 ⟨rfl, hb⟩
        have HB5 := Aside0.mk (below_then HB4.out HB4.out.size hb)
        have HR5 := Aside0.mk (Kd.C_below HR4.out hb)
        have t0 := pw_cell_below hb s0
        have t1 := pw_cell_below hb s1
        have HNM := Aside0.mk (number_c s A c l (rd l (n0 : Int)) w5 HR5.out hc (by omega))
        rw [hpos] at HNM
        clear hb HB4 HR4 s0 s1 HRK hpos
        generalize rd l (n0 : Int) = r at HNM ⊢
        go_wp2_with fail
        refine HNM.out.mono ?_
        rintro e w6 ⟨rfl, hb⟩
        have HB6 := Aside0.mk (below_then HB5.out HB5.out.size hb)
        have HR6 := Aside0.mk (Kd.C_below HR5.out hb)
        have u0 := pw_cell_below hb t0
        have u1 := pw_cell_below hb t1
        clear hb HB5 HR5 t0 t1 HNM
        rw [show ((some n0).getD 0 : Nat) = n0 from rfl, show (some n0).isSome = true from rfl]
        have HNN := Aside0.mk (number_c s A c l (n0 : Int) w6 HR6.out hc (by omega))
        cases hq : posI l (n0 : Int) with
        | some m =>
          obtain ⟨h1, h2, _⟩ := posI_some hq
          rw [hq] at HNN
          have HRM := Aside0.mk (fun (W : World) (hR : Kd.C (Kd.int .i64) W A l.length l) => rank_c s A c l (m : Int) W hR hc)
          rw [if_pos (show 0 ≤ (m : Int) ∧ (m : Int) < l.length by omega), decide_eq_true (show 0 ≤ (m : Int) ∧ (m : Int) < l.length by omega), h2] at HRM
          clear hq h1 h2
          go_wp2_with fail
          refine HNN.out.mono ?_
          rintro e w7 ⟨rfl, hb⟩
          have HB7 := Aside0.mk (below_then HB6.out HB6.out.size hb)
          have HR7 := Aside0.mk (Kd.C_below HR6.out hb)
          have v0 := pw_cell_below hb u0
          have v1 := pw_cell_below hb u1
          clear hb HB6 HR6 u0 u1 HNN
          rw [show ((some m).getD 0 : Nat) = m from rfl, show (some m).isSome = true from rfl]
          go_wp2_with fail
          refine (HRM.out w7 HR7.out).mono ?_
          rintro e w8 ⟨rfl, hb⟩
          have HB8 := Aside0.mk (below_then HB7.out HB7.out.size hb)
          clear hb HB7 HR7 v0 v1 HRM
          go_wp2
          go_ret
          exact ⟨by first | rfl | (simp; done), HB8.out⟩
        | none =>
          have HNO := Aside0.mk (posI_none hq)
          rw [hq] at HNN
          clear hq
          go_wp2_with fail
          refine HNN.out.mono ?_
          rintro e w7 ⟨rfl, hb⟩
          have HB7 := Aside0.mk (below_then HB6.out HB6.out.size hb)
          have HR7 := Aside0.mk (Kd.C_below HR6.out hb)
          have v0 := pw_cell_below hb u0
          have v1 := pw_cell_below hb u1
          clear hb HB6 HR6 u0 u1 HNN
          rw [show (none : Option Nat).isSome = false from rfl]
          go_wp2_with fail
          go_loopw [13] (fun v13 wr => ∃ i : Nat, i ≤ l.length ∧ v13 = .int .i64 i ∧ wr = w7) (fun v13 _ => l.length - (intOf v13).toNat)
          case atStart => exact ⟨0, by omega, rfl, rfl⟩
          case round =>
            obtain ⟨i, hi, rfl, hw⟩ := hrel
            subst hw
            by_cases hin : i < l.length
            · have hi64 : IntKind.i64.wrap ((i : Int) + 1) = (i : Int) + 1 := i64w (by omega) (by omega)
              have hii : (i : Int) < (l.length : Int) := by omega
              obtain ⟨aR, hAR, x0⟩ := Kd.at_int HR7.out (i : Int) (by omega) (by omega)
              rw [Int.toNat_natCast] at x0
              subst hAR
              have hne := HNO.out i hin
              generalize rd l (i : Int) = y at x0 hne
              have hbe : (y == (n0 : Int)) = false := beq_eq_false_iff_ne.2 hne
              go_wp2
              exact ⟨⟨i + 1, by omega, by go_num, by first | rfl | trivial⟩, by simp [intOf]; omega⟩
            · obtain rfl : i = l.length := by omega
              go_wp2
              go_ret
              exact ⟨rfl, HB7.out⟩
      · rw [if_neg hn, decide_eq_false hn] at HRK
        have dn : ∀ a b : Bool, (a = decide (n ≥ 0)) → (b = decide (n < (l.length : Int))) → a = true → b = false := fun a b h1 h2 h3 => by
          rw [h2]
          refine decide_eq_false (fun h4 => hn ⟨?_, h4⟩)
          rw [h1] at h3
          exact of_decide_eq_true h3
        by_cases h0 : 0 ≤ n
        · have h1 : ¬ n < (l.length : Int) := fun h => hn ⟨h0, h⟩
          clear hn dn
          go_wp2_with fail
          refine HRK.out.mono ?_
          rintro e w5 ⟨rfl, hb⟩
          have HB5 := Aside0.mk (below_then HB4.out HB4.out.size hb)
          have HR5 := Aside0.mk (Kd.C_below HR4.out hb)
          have t0 := pw_cell_below hb s0
          have t1 := pw_cell_below hb s1
          clear hb HB4 HR4 s0 s1 HRK
          have HNN := Aside0.mk (number_c s A c l n w5 HR5.out hc (by omega))
          cases hq : posI l n with
          | some m =>
            obtain ⟨h1, h2, _⟩ := posI_some hq
            rw [hq] at HNN
            have HRM := Aside0.mk (fun (W : World) (hR : Kd.C (Kd.int .i64) W A l.length l) => rank_c s A c l (m : Int) W hR hc)
            rw [if_pos (show 0 ≤ (m : Int) ∧ (m : Int) < l.length by omega), decide_eq_true (show 0 ≤ (m : Int) ∧ (m : Int) < l.length by omega), h2] at HRM
            clear hq h1 h2
            go_wp2_with fail
            refine HNN.out.mono ?_
            rintro e w7 ⟨rfl, hb⟩
            have HB7 := Aside0.mk (below_then HB5.out HB5.out.size hb)
            have HR7 := Aside0.mk (Kd.C_below HR5.out hb)
            have v0 := pw_cell_below hb t0
            have v1 := pw_cell_below hb t1
            clear hb HB5 HR5 t0 t1 HNN
            rw [show ((some m).getD 0 : Nat) = m from rfl, show (some m).isSome = true from rfl]
            go_wp2_with fail
            refine (HRM.out w7 HR7.out).mono ?_
            rintro e w8 ⟨rfl, hb⟩
            have HB8 := Aside0.mk (below_then HB7.out HB7.out.size hb)
            clear hb HB7 HR7 v0 v1 HRM
            go_wp2
            go_ret
            exact ⟨by first | rfl | (simp; done), HB8.out⟩
          | none =>
            have HNO := Aside0.mk (posI_none hq)
            rw [hq] at HNN
            clear hq
            go_wp2_with fail
            refine HNN.out.mono ?_
            rintro e w7 ⟨rfl, hb⟩
            have HB7 := Aside0.mk (below_then HB5.out HB5.out.size hb)
            have HR7 := Aside0.mk (Kd.C_below HR5.out hb)
            have v0 := pw_cell_below hb t0
            have v1 := pw_cell_below hb t1
            clear hb HB5 HR5 t0 t1 HNN
            rw [show (none : Option Nat).isSome = false from rfl]
            go_wp2_with fail
            go_loopw [13] (fun v13 wr => ∃ i : Nat, i ≤ l.length ∧ v13 = .int .i64 i ∧ wr = w7) (fun v13 _ => l.length - (intOf v13).toNat)
            case atStart => exact ⟨0, by omega, rfl, rfl⟩
            case round =>
              obtain ⟨i, hi, rfl, hw⟩ := hrel
              subst hw
              by_cases hin : i < l.length
              · have hi64 : IntKind.i64.wrap ((i : Int) + 1) = (i : Int) + 1 := i64w (by omega) (by omega)
                have hii : (i : Int) < (l.length : Int) := by omega
                obtain ⟨aR, hAR, x0⟩ := Kd.at_int HR7.out (i : Int) (by omega) (by omega)
                rw [Int.toNat_natCast] at x0
                subst hAR
                have hne := HNO.out i hin
                generalize rd l (i : Int) = y at x0 hne
                have hbe : (y == n) = false := beq_eq_false_iff_ne.2 hne
                go_wp2
                exact ⟨⟨i + 1, by omega, by go_num, by first | rfl | trivial⟩, by simp [intOf]; omega⟩
              · obtain rfl : i = l.length := by omega
                go_wp2
                go_ret
                exact ⟨rfl, HB7.out⟩
        · clear hn dn
          go_wp2_with fail
          refine HRK.out.mono ?_
          rintro e w5 ⟨rfl, hb⟩
          have HB5 := Aside0.mk (below_then HB4.out HB4.out.size hb)
          have HR5 := Aside0.mk (Kd.C_below HR4.out hb)
          have t0 := pw_cell_below hb s0
          have t1 := pw_cell_below hb s1
          clear hb HB4 HR4 s0 s1 HRK
          have HNN := Aside0.mk (number_c s A c l n w5 HR5.out hc (by omega))
          cases hq : posI l n with
          | some m =>
            obtain ⟨h1, h2, _⟩ := posI_some hq
            rw [hq] at HNN
            have HRM := Aside0.mk (fun (W : World) (hR : Kd.C (Kd.int .i64) W A l.length l) => rank_c s A c l (m : Int) W hR hc)
            rw [if_pos (show 0 ≤ (m : Int) ∧ (m : Int) < l.length by omega), decide_eq_true (show 0 ≤ (m : Int) ∧ (m : Int) < l.length by omega), h2] at HRM
            clear hq h1 h2
            go_wp2_with fail
            refine HNN.out.mono ?_
            rintro e w7 ⟨rfl, hb⟩
            have HB7 := Aside0.mk (below_then HB5.out HB5.out.size hb)
            have HR7 := Aside0.mk (Kd.C_below HR5.out hb)
            have v0 := pw_cell_below hb t0
            have v1 := pw_cell_below hb t1
            clear hb HB5 HR5 t0 t1 HNN
            rw [show ((some m).getD 0 : Nat) = m from rfl, show (some m).isSome = true from rfl]
            go_wp2_with fail
            refine (HRM.out w7 HR7.out).mono ?_
            rintro e w8 ⟨rfl, hb⟩
            have HB8 := Aside0.mk (below_then HB7.out HB7.out.size hb)
            clear hb HB7 HR7 v0 v1 HRM
            go_wp2
            go_ret
            exact ⟨by first | rfl | (simp; done), HB8.out⟩
          | none =>
            have HNO := Aside0.mk (posI_none hq)
            rw [hq] at HNN
            clear hq
            go_wp2_with fail
            refine HNN.out.mono ?_
            rintro e w7 ⟨rfl, hb⟩
            have HB7 := Aside0.mk (below_then HB5.out HB5.out.size hb)
            have HR7 := Aside0.mk (Kd.C_below HR5.out hb)
            have v0 := pw_cell_below hb t0
            have v1 := pw_cell_below hb t1
            clear hb HB5 HR5 t0 t1 HNN
            rw [show (none : Option Nat).isSome = false from rfl]
            go_wp2_with fail
            go_loopw [13] (fun v13 wr => ∃ i : Nat, i ≤ l.length ∧ v13 = .int .i64 i ∧ wr = w7) (fun v13 _ => l.length - (intOf v13).toNat)
            case atStart => exact ⟨0, by omega, rfl, rfl⟩
            case round =>
              obtain ⟨i, hi, rfl, hw⟩ := hrel
              subst hw
              by_cases hin : i < l.length
              · have hi64 : IntKind.i64.wrap ((i : Int) + 1) = (i : Int) + 1 := i64w (by omega) (by omega)
                have hii : (i : Int) < (l.length : Int) := by omega
                obtain ⟨aR, hAR, x0⟩ := Kd.at_int HR7.out (i : Int) (by omega) (by omega)
                rw [Int.toNat_natCast] at x0
                subst hAR
                have hne := HNO.out i hin
                generalize rd l (i : Int) = y at x0 hne
                have hbe : (y == n) = false := beq_eq_false_iff_ne.2 hne
                go_wp2
                exact ⟨⟨i + 1, by omega, by go_num, by first | rfl | trivial⟩, by simp [intOf]; omega⟩
              · obtain rfl : i = l.length := by omega
                go_wp2
                go_ret
                exact ⟨rfl, HB7.out⟩
end Go.Proofs.YtkifmhfgplhabaaDoor.HQ

namespace Go.Proofs.YtkifmhfgplhabaaDoor.HQ
open Go.Proofs.YtkifmhfgplhabaaDoor.HU Go.RowKit Go.Proofs.YtkifmhfgplhabaaDoor.HK Go.Proofs.YtkifmhfgplhabaaDoor.HP Go.Proofs.YtkifmhfgplhabaaDoorW.PrintWords Go.Proofs.YtkifmhfgplhabaaDoorW.PrintLast Go.Proofs.YtkifmhfgplhabaaDoorW.PrintMore
set_option linter.unusedVariables false
set_option linter.unusedSimpArgs false
set_option maxRecDepth 100000 in
set_option maxHeartbeats 4000000 in
theorem split_bad (s : ByteArray) (A : Option Addr) (c : Nat) (ranks : List Int) (k : Int) (A2 : Option Addr) (n2 c2 : Nat) (w : World) (hr : Kd.C (Kd.int .i64) w A ranks.length ranks) (hc : ranks.length ≤ c) (hbad : mayB ranks = false ∨ k < 0 ∨ n2 ≠ ranks.length) :
    Calls Tryd.prog 13 #[.agg #[.string s, .slice A ranks.length c], .int .i64 k, .slice A2 n2 c2] w fun e w' => e = .returned (.tuple #[.slice none 0 0, .int .i64 2]) ∧ Below w.heap.size w w' := by
  have b0 := blk_new w (.cells #[.string s, .slice A ranks.length c] 24)
  have hba := below_alloc (Below.refl w.heap.size w) (.cells #[.string s, .slice A ranks.length c] 24)
  have HB0 := Aside0.mk hba
  have HR0 := Aside0.mk (Kd.C_below hr hba)
  have HMY := Aside0.mk (may_c s A c ranks (w.alloc (.cells #[.string s, .slice A ranks.length c] 24)) HR0.out hc)
  have p0 : (w.alloc (.cells #[.string s, .slice A ranks.length c] 24)).cell? ⟨w.heap.size, 0, none⟩ = some (.string s) := (blk_cell b0 0).trans rfl
  have p1 : (w.alloc (.cells #[.string s, .slice A ranks.length c] 24)).cell? ⟨w.heap.size, 1, none⟩ = some (.slice A ranks.length c) := (blk_cell b0 1).trans rfl
  clear hr hba b0
  go_enter Tryd.func13, Tryd.ntmps13
  go_wp2_with fail
  generalize (w.alloc (.cells #[.string s, .slice A ranks.length c] 24)) = w1 at p0 p1 HB0 HR0 HMY ⊢
  refine HMY.out.mono ?_
  rintro e w2 ⟨rfl, hb⟩
  have HB2 := Aside0.mk (below_then HB0.out HB0.out.size hb)
  have q0 := pw_cell_below hb p0
  have q1 := pw_cell_below hb p1
  clear hb HMY HB0 HR0 p0 p1
  cases hm : mayB ranks with
  | false =>
    clear hbad
    go_wp2
    go_ret2
    exact ⟨rfl, HB2.out⟩
  | true =>
    by_cases hk : k < 0
    · clear hbad
      go_wp2
      go_ret2
      exact ⟨rfl, HB2.out⟩
    · have hne : ((n2 : Int) != (ranks.length : Int)) = true := by
        have : n2 ≠ ranks.length := by
          rcases hbad with h | h | h
          · rw [hm] at h; cases h
          · exact absurd h hk
          · exact h
        rw [bne, beq_eq_false_iff_ne.2 (fun h => this (by omega))]
        rfl
      clear hbad
      go_wp2
      go_ret2
      exact ⟨rfl, HB2.out⟩
end Go.Proofs.YtkifmhfgplhabaaDoor.HQ

namespace Go.Proofs.YtkifmhfgplhabaaDoor.HQ
open Go.Proofs.YtkifmhfgplhabaaDoor.HU Go.RowKit Go.Proofs.YtkifmhfgplhabaaDoor.HK Go.Proofs.YtkifmhfgplhabaaDoor.HP Go.Proofs.YtkifmhfgplhabaaDoorW.PrintWords Go.Proofs.YtkifmhfgplhabaaDoorW.PrintLast Go.Proofs.YtkifmhfgplhabaaDoorW.PrintMore
set_option linter.unusedVariables false
set_option linter.unusedSimpArgs false
/-! ## digits -/
def valD (l : List UInt8) : Nat := l.foldl (fun a d => 10 * a + (d.toNat - 48)) 0
theorem valD_snoc (l : List UInt8) (d : UInt8) : valD (l ++ [d]) = 10 * valD l + (d.toNat - 48) := by simp [valD]
theorem dig_nat {n : Nat} (h : n < 10) : (UInt8.ofNat (48 + n)).toNat = 48 + n := by
  rw [UInt8.toNat_ofNat']
  omega
theorem dec_val (n : Nat) : valD (Lib.decDigits n) = n := by
  induction n using Nat.strongRecOn with
  | ind n ih =>
    by_cases h : n < 10
    · rw [dec_small h]
      show 10 * 0 + ((UInt8.ofNat (48 + n)).toNat - 48) = n
      rw [dig_nat h]
      omega
    · have h2 : n % 10 < 10 := Nat.mod_lt _ (by omega)
      rw [dec_big h, dec_small h2, valD_snoc, ih (n / 10) (by omega), dig_nat h2]
      omega
theorem dec_no (n : Nat) : (58 : UInt8) ∉ Lib.decDigits n := by
  induction n using Nat.strongRecOn with
  | ind n ih =>
    have key : ∀ m, m < 10 → (58 : UInt8) ≠ UInt8.ofNat (48 + m) := fun m hm he => by
      have := congrArg UInt8.toNat he
      rw [dig_nat hm] at this
      have h58 : (58 : UInt8).toNat = 58 := rfl
      omega
    by_cases h : n < 10
    · rw [dec_small h]
      intro hm
      exact key n h (List.mem_singleton.1 hm)
    · have h2 : n % 10 < 10 := Nat.mod_lt _ (by omega)
      rw [dec_big h, dec_small h2]
      intro hm
      rcases List.mem_append.1 hm with hm | hm
      · exact ih (n / 10) (by omega) hm
      · exact key _ h2 (List.mem_singleton.1 hm)
def digL (k : Int) : List UInt8 := Lib.decDigits k.toNat
theorem itoa_dig {k : Int} (h : 0 ≤ k) : Lib.itoa k = digL k := by
  unfold Lib.itoa digL
  rw [if_neg (by omega)]
theorem digL_inj {k m : Int} (hk : 0 ≤ k) (hm : 0 ≤ m) (h : digL k = digL m) : k = m := by
  have := congrArg valD h
  unfold digL at this
  rw [dec_val, dec_val] at this
  omega
/-! ## texts as lists -/
def bl (b : ByteArray) : List UInt8 := b.data.toList
theorem bl_app (a b : ByteArray) : bl (a ++ b) = bl a ++ bl b := by simp [bl, ByteArray.data_append]
theorem bl_child {s : ByteArray} {k : Int} (h : 0 ≤ k) : bl (childB s k) = bl s ++ 46 :: digL k := by
  unfold childB itoB
  rw [bl_app, bl_app, itoa_dig h]
  simp [bl]
theorem bl_key {s : ByteArray} {k c : Int} (h : 0 ≤ k) (hc : 0 ≤ c) : bl (keyG s k c) = bl s ++ 46 :: (digL k ++ 58 :: digL c) := by
  unfold keyG itoB
  rw [bl_app, bl_app, bl_child h, itoa_dig hc]
  simp [bl]
theorem cut58 {a b c d : List UInt8} (ha : (58 : UInt8) ∉ a) (hb : (58 : UInt8) ∉ b) (h : a ++ 58 :: c = b ++ 58 :: d) : a = b ∧ c = d := by
  induction a generalizing b with
  | nil =>
    cases b with
    | nil => exact ⟨rfl, by simpa using h⟩
    | cons y t =>
      simp only [List.nil_append, List.cons_append, List.cons.injEq] at h
      exact absurd (by rw [h.1]; simp) hb
  | cons x a ih =>
    cases b with
    | nil =>
      simp only [List.nil_append, List.cons_append, List.cons.injEq] at h
      exact absurd (by rw [← h.1]; simp) ha
    | cons y t =>
      simp only [List.cons_append, List.cons.injEq] at h
      obtain ⟨rfl, h⟩ := h
      obtain ⟨rfl, rfl⟩ := ih (fun hm => ha (by simp [hm])) (fun hm => hb (by simp [hm])) h
      exact ⟨rfl, rfl⟩
theorem child_ne {s : ByteArray} {k m : Int} (hk : 0 ≤ k) (hm : 0 ≤ m) (hne : k ≠ m) : childB s k ≠ childB s m := fun h => by
  have := congrArg bl h
  rw [bl_child hk, bl_child hm] at this
  have h2 := List.append_cancel_left this
  simp only [List.cons.injEq, true_and] at h2
  exact hne (digL_inj hk hm h2)
theorem child_key {s : ByteArray} {k m c : Int} (hk : 0 ≤ k) (hm : 0 ≤ m) (hc : 0 ≤ c) : childB s k ≠ keyG s m c := fun h => by
  have := congrArg bl h
  rw [bl_child hk, bl_key hm hc] at this
  have h2 := List.append_cancel_left this
  simp only [List.cons.injEq, true_and] at h2
  exact dec_no k.toNat (by show (58 : UInt8) ∈ digL k; rw [h2]; simp)
theorem key_inj {s : ByteArray} {k m c d : Int} (hk : 0 ≤ k) (hm : 0 ≤ m) (hc : 0 ≤ c) (hd : 0 ≤ d) (h : keyG s k c = keyG s m d) : k = m ∧ c = d := by
  have := congrArg bl h
  rw [bl_key hk hc, bl_key hm hd] at this
  have h2 := List.append_cancel_left this
  simp only [List.cons.injEq, true_and] at h2
  obtain ⟨h3, h4⟩ := cut58 (dec_no _) (dec_no _) h2
  exact ⟨digL_inj hk hm h3, digL_inj hc hd h4⟩
/-! ## the colors of a split's groups -/
def cols (L : List Asd) : Nat → List Int
  | 0 => []
  | i + 1 => if newG L i then cols L i ++ [(L.getD i z67).f0.f0] else cols L i
theorem addR_keys (r : Int) (gs : List Grp) : (addR r gs).map (·.f0) = gs.map (·.f0) := by
  unfold addR
  rw [List.map_set]
  by_cases h : gs.length - 1 < gs.length
  · have : (gs.getD (gs.length - 1) z24) = gs[gs.length - 1] := by simp [List.getD, h]
    rw [this]
    refine List.ext_getElem (by simp) (fun i h1 h2 => ?_)
    rw [List.getElem_set]
    split
    · rename_i he
      subst he
      simp
    · rfl
  · have : gs = [] := List.eq_nil_of_length_eq_zero (by omega)
    subst this
    rfl
theorem grps_keys (s : ByteArray) (k : Int) (L : List Asd) : ∀ i, (grps s k L i).map (·.f0) = (cols L i).map (keyG s k)
  | 0 => rfl
  | i + 1 => by
    show (addR _ _).map _ = List.map _ (if _ then _ else _)
    rw [addR_keys]
    split
    · rw [List.map_append, List.map_append, grps_keys s k L i]
      rfl
    · exact grps_keys s k L i
/-- sorted by color -/
def ByCol (L : List Asd) : Prop := ∀ i j : Nat, i ≤ j → j < L.length → (L.getD i z67).f0.f0 ≤ (L.getD j z67).f0.f0
theorem cols_up {L : List Asd} (h : ByCol L) : ∀ i, i ≤ L.length → (cols L i).Pairwise (· < ·) ∧ (∀ c ∈ cols L i, ∃ j, j < i ∧ c = (L.getD j z67).f0.f0)
  | 0, _ => ⟨List.Pairwise.nil, fun c hc => by cases hc⟩
  | i + 1, hi => by
    obtain ⟨h1, h2⟩ := cols_up h i (by omega)
    rw [show cols L (i + 1) = if newG L i then cols L i ++ [(L.getD i z67).f0.f0] else cols L i from rfl]
    by_cases hn : newG L i
    · rw [if_pos hn]
      refine ⟨List.pairwise_append.2 ⟨h1, by simp, fun a ha b hb => ?_⟩, fun c hc => ?_⟩
      · rw [List.mem_singleton.1 hb]
        obtain ⟨j, hj, rfl⟩ := h2 a ha
        have h3 := h j (i - 1) (by omega) (by omega)
        have h4 := h (i - 1) i (by omega) (by omega)
        rcases hn with hn | hn
        · omega
        · omega
      · rcases List.mem_append.1 hc with hc | hc
        · obtain ⟨j, hj, e⟩ := h2 c hc
          exact ⟨j, by omega, e⟩
        · exact ⟨i, by omega, List.mem_singleton.1 hc⟩
    · rw [if_neg hn]
      exact ⟨h1, fun c hc => by obtain ⟨j, hj, e⟩ := h2 c hc; exact ⟨j, by omega, e⟩⟩
/-- who asked, sorted: by color; and each color is not below 0 -/
theorem sortA_col (xs : List Asd) : ByCol (HS.sortA xs) := by
  intro i j hij hj
  rw [HS.sortA_len] at hj
  have hl : (HS.isort (HS.els xs)).length = xs.length := by rw [(HS.isort_perm _).length_eq, HS.els_len]
  have hi' : i < (HS.isort (HS.els xs)).length := by omega
  have hj' : j < (HS.isort (HS.els xs)).length := by omega
  have hg : ∀ t (ht : t < (HS.isort (HS.els xs)).length), ((HS.sortA xs).getD t z67).f0.f0 = ((HS.isort (HS.els xs))[t]).c := fun t ht => by
    unfold HS.sortA
    simp [List.getD, ht, HS.ofEl]
  rw [hg i hi', hg j hj']
  rcases Nat.lt_or_ge i j with h | h
  · have := List.pairwise_iff_getElem.1 (HS.isort_sorted (HS.els xs)) i j hi' hj' h
    rw [HS.ltI_false] at this
    unfold HS.LtE at this
    omega
  · have : i = j := by omega
    subst this
    exact Int.le_refl _
theorem sortA_pos {asks : List Ask_} {ranks : List Int} {i : Nat} {x : Asd} (h : x ∈ HS.sortA (pick asks ranks i)) : 0 ≤ x.f0.f0 := (pick_mem (sortA_mem h)).2.1
/-- a split's keys -/
theorem split_keys (s : ByteArray) (k : Int) (ranks : List Int) (asks : List Ask_) : ∃ cs : List Int, (splitG s k ranks asks).map (·.f0) = cs.map (keyG s k) ∧ cs.Pairwise (· < ·) ∧ ∀ c ∈ cs, 0 ≤ c := by
  have hl := HS.sortA_len (pick asks ranks asks.length)
  refine ⟨cols (HS.sortA (pick asks ranks asks.length)) (pick asks ranks asks.length).length, grps_keys s k _ _, (cols_up (sortA_col _) _ (by omega)).1, fun c hc => ?_⟩
  obtain ⟨j, hj, rfl⟩ := (cols_up (sortA_col _) _ (by omega)).2 c hc
  refine sortA_pos (asks := asks) (ranks := ranks) (i := asks.length) ?_
  have hj' : j < (HS.sortA (pick asks ranks asks.length)).length := by omega
  simp [List.getD, hj']
/-- the keys of two dups and two splits -/
theorem keys_nodup {s : ByteArray} {k m : Int} (hk : 0 ≤ k) (hm : 0 ≤ m) (hne : k ≠ m) {a b : List Int} (ha : a.Pairwise (· < ·)) (hb : b.Pairwise (· < ·)) (ha0 : ∀ c ∈ a, 0 ≤ c) (hb0 : ∀ c ∈ b, 0 ≤ c) :
    ([childB s k, childB s m] ++ a.map (keyG s k) ++ b.map (keyG s m)).Nodup := by
  have hmap : ∀ {q : Int} (hq : 0 ≤ q) {l : List Int}, l.Pairwise (· < ·) → (∀ c ∈ l, 0 ≤ c) → (l.map (keyG s q)).Nodup := fun {q} hq {l} hl hl0 => by
    refine List.pairwise_map.2 (hl.imp_of_mem (fun {x y} hx hy hxy he => ?_))
    have := (key_inj hq hq (hl0 x hx) (hl0 y hy) he).2
    omega
  refine List.nodup_append.2 ⟨List.nodup_append.2 ⟨?_, hmap hk ha ha0, ?_⟩, hmap hm hb hb0, ?_⟩
  · simp [child_ne hk hm hne]
  · intro x hx y hy he
    subst he
    obtain ⟨c, hc, rfl⟩ := List.mem_map.1 hy
    simp only [List.mem_cons, List.not_mem_nil, or_false] at hx
    rcases hx with hx | hx
    · exact child_key hk hk (ha0 c hc) hx.symm
    · exact child_key hm hk (ha0 c hc) hx.symm
  · intro x hx y hy he
    subst he
    obtain ⟨c, hc, rfl⟩ := List.mem_map.1 hy
    rcases List.mem_append.1 hx with hx | hx
    · simp only [List.mem_cons, List.not_mem_nil, or_false] at hx
      rcases hx with hx | hx
      · exact child_key hk hm (hb0 c hc) hx.symm
      · exact child_key hm hm (hb0 c hc) hx.symm
    · obtain ⟨d, hd, he⟩ := List.mem_map.1 hx
      exact hne (key_inj hk hm (ha0 d hd) (hb0 c hc) he).1
/-- each key is longer than the group's own, and begins with it -/
def Longer (s t : ByteArray) : Prop := s.size < t.size ∧ t.extract 0 s.size = s
theorem longer_of {s t : ByteArray} {l : List UInt8} (h : bl t = bl s ++ l) (hl : l ≠ []) : Longer s t := by
  have hz : ∀ b : ByteArray, (bl b).length = b.size := fun b => by show b.data.toList.length = b.data.size; rw [Array.length_toList]
  have hs := hz s
  have ht := hz t
  have hp := List.length_pos_iff.2 hl
  have h2 := congrArg List.length h
  rw [List.length_append] at h2
  refine ⟨by omega, ?_⟩
  apply ByteArray.ext
  apply Array.ext'
  show bl _ = bl s
  have e : bl (t.extract 0 s.size) = (bl t).take s.size := by
    simp [bl, ByteArray.data_extract]
  rw [e, h, ← hs, List.take_left']
  rfl
theorem child_longer {s : ByteArray} {k : Int} (hk : 0 ≤ k) : Longer s (childB s k) := longer_of (bl_child hk) (by simp)
theorem key_longer {s : ByteArray} {k c : Int} (hk : 0 ≤ k) (hc : 0 ≤ c) : Longer s (keyG s k c) := longer_of (bl_key hk hc) (by simp)
end Go.Proofs.YtkifmhfgplhabaaDoor.HQ

namespace Go.Proofs.YtkifmhfgplhabaaDoor.HQ
open Go.Proofs.YtkifmhfgplhabaaDoor.HU Go.RowKit Go.Proofs.YtkifmhfgplhabaaDoor.HK Go.Proofs.YtkifmhfgplhabaaDoor.HP Go.Proofs.YtkifmhfgplhabaaDoorW.PrintWords Go.Proofs.YtkifmhfgplhabaaDoorW.PrintLast Go.Proofs.YtkifmhfgplhabaaDoorW.PrintMore Go.Deep
set_option linter.unusedVariables false
set_option linter.unusedSimpArgs false
theorem choose_b {α : Type} {p : Nat → α → Prop} : ∀ (n : Nat), (∀ i, i < n → ∃ x, p i x) → ∃ xs : List α, xs.length = n ∧ ∀ i x, xs[i]? = some x → p i x
  | 0, _ => ⟨[], rfl, fun i x h => by simp at h⟩
  | n + 1, h => by
    obtain ⟨xs, hl, hx⟩ := choose_b n (fun i hi => h i (by omega))
    obtain ⟨y, hy⟩ := h n (by omega)
    refine ⟨xs ++ [y], by simp [hl], fun i x hi => ?_⟩
    by_cases hin : i < xs.length
    · rw [List.getElem?_append_left hin] at hi
      exact hx i x hi
    · rw [List.getElem?_append_right (by omega)] at hi
      cases he : i - xs.length with
      | zero =>
        rw [he] at hi
        simp at hi
        have : i = n := by omega
        rw [this, ← hi]
        exact hy
      | succ t => rw [he] at hi; simp at hi
theorem heads {W : World} {A : Option Addr} {n : Nat} {gs : List Grp} (h : Kd.C k24 W A n gs) : ∃ hs : List Hd, Kd.C kH W A n hs ∧ hs.map (·.1) = gs.map (·.f0) := by
  have hn : gs.length = n := h.1
  by_cases hp : 0 < n
  · obtain ⟨ad, he, hr⟩ := h.2.2 hp
    obtain ⟨hs, hl, hx⟩ := choose_b (p := fun i (x : Hd) => (∃ g, gs[i]? = some g ∧ x.1 = g.f0) ∧ ∃ cs : List Value, cs.length = 2 ∧ kH.K W x cs ∧ ∀ j u, cs[j]? = some u → W.cell? (ad.add (i * 2 + j)) = some u) n (fun i hi => by
      have hg := List.getElem?_eq_getElem (l := gs) (show i < gs.length by omega)
      obtain ⟨cs, h1, h2, h3⟩ := hr i _ hg
      obtain ⟨A1, c1, rfl, _, _⟩ := k24_open h2
      exact ⟨(gs[i].f0, (A1, gs[i].f1.length, c1)), ⟨_, hg, rfl⟩, _, rfl, ⟨[.string gs[i].f0], [.slice A1 gs[i].f1.length c1], rfl, rfl, rfl⟩, h3⟩)
    refine ⟨hs, ⟨hl, h.2.1, fun _ => ⟨ad, he, fun j p hj => (hx j p hj).2⟩⟩, List.ext_getElem (by simp [hl, hn]) (fun i h1 h2 => ?_)⟩
    rw [List.getElem_map, List.getElem_map]
    rw [List.length_map] at h1 h2
    obtain ⟨g, hg, e⟩ := (hx i _ (List.getElem?_eq_getElem h1)).1
    rw [List.getElem?_eq_getElem h2] at hg
    rw [e, ← Option.some.inj hg]
  · have : gs = [] := List.eq_nil_of_length_eq_zero (by omega)
    subst this
    exact ⟨[], ⟨hn, h.2.1, fun h => absurd h hp⟩, rfl⟩
theorem kH_key {W : World} {A : Option Addr} {n : Nat} {hs : List Hd} (h : Kd.C kH W A n hs) {i : Nat} {x : Hd} (hi : i < n) (hx : hs[i]? = some x) : ∃ ad, A = some ad ∧ W.cell? (ad.add (i * 2)) = some (.string x.1) := by
  obtain ⟨ad, he, hr⟩ := h.2.2 (by omega)
  obtain ⟨cs, h1, h2, h3⟩ := hr i x hx
  obtain rfl := kH_open h2
  exact ⟨ad, he, h3 0 _ rfl⟩
theorem split_ex (s : ByteArray) (A : Option Addr) (c : Nat) (ranks : List Int) (k : Int) (A2 : Option Addr) (c2 : Nat) (asks : List Ask_) (w : World) (hr : Kd.C (Kd.int .i64) w A ranks.length ranks) (hc : ranks.length ≤ c) (hr2 : Kd.C k40 w A2 asks.length asks) (hc2 : asks.length ≤ c2)
    (ht : Tab w) (hs : s.size ≤ 10000) (hk : Rng k) (hcr : ∀ x ∈ asks, Rng x.f0) (hl80 : ranks.length ≤ 80) :
    Calls Tryd.prog 13 #[.agg #[.string s, .slice A ranks.length c], .int .i64 k, .slice A2 asks.length c2] w fun e w' => (∃ (v : Value) (n : Int), e = .returned (.tuple #[v, .int .i64 n])) ∧ Below w.heap.size w w' := by
  by_cases hbad : mayB ranks = false ∨ k < 0 ∨ asks.length ≠ ranks.length
  · exact (split_bad s A c ranks k A2 asks.length c2 w hr hc hbad).mono (fun e w' h => ⟨⟨_, _, h.1⟩, h.2⟩)
  · have h1 : mayB ranks = true := by cases h : mayB ranks; exact absurd (.inl h) hbad; rfl
    exact (split_c s A c ranks k A2 c2 asks w hr hc hr2 hc2 ht hs h1 (by omega) hk hcr (by omega) hl80).mono (fun e w' ⟨Av, cv, h1, _, _, h2⟩ => ⟨⟨_, _, h1⟩, h2⟩)
theorem R_two {w : World} (x y : Hd) : kH.R 24 (w.alloc (.cells #[.string x.1, encSl x.2, .string y.1, encSl y.2] 24)) w.heap.size (fun _ => True) (.slice (some ⟨w.heap.size, 0, none⟩) 2 2) [x, y] := by
  refine ⟨fun _ _ => trivial, [.string x.1, encSl x.2, .string y.1, encSl y.2], ⟨rfl, .inr ⟨w.heap.size, 2, #[.string x.1, encSl x.2, .string y.1, encSl y.2], rfl, Nat.le_refl _, blk_new _ _, Nat.le_refl _, by decide, by rfl, by rfl⟩⟩, ?_⟩
  refine ⟨rfl, fun j p hj => ?_⟩
  have hj2 : j < 2 := by
    rcases Nat.lt_or_ge j 2 with h | h
    · exact h
    · rw [List.getElem?_eq_none (by simpa using h)] at hj; cases hj
  rcases (by omega : j = 0 ∨ j = 1) with rfl | rfl
  · obtain rfl := Option.some.inj hj
    exact kH_mkM _ _ _ x
  · obtain rfl := Option.some.inj hj
    exact kH_mkM _ _ _ y
end Go.Proofs.YtkifmhfgplhabaaDoor.HQ

namespace Go.Proofs.YtkifmhfgplhabaaDoor.HQ
open Go.Proofs.YtkifmhfgplhabaaDoor.HU Go.RowKit Go.Proofs.YtkifmhfgplhabaaDoor.HK Go.Proofs.YtkifmhfgplhabaaDoor.HP Go.Proofs.YtkifmhfgplhabaaDoorW.PrintWords Go.Proofs.YtkifmhfgplhabaaDoorW.PrintLast Go.Proofs.YtkifmhfgplhabaaDoorW.PrintMore
set_option linter.unusedVariables false
set_option linter.unusedSimpArgs false
theorem grps_count (s : ByteArray) (k : Int) (L : List Asd) : ∀ i, (grps s k L i).length ≤ i
  | 0 => Nat.le_refl _
  | i + 1 => by
    have h : ∀ (r : Int) (gs : List Grp), (addR r gs).length = gs.length := fun r gs => by
      have := congrArg List.length (addR_keys r gs)
      rw [List.length_map, List.length_map] at this
      exact this
    show (addR _ _).length ≤ i + 1
    rw [h]
    have := grps_count s k L i
    split
    · rw [List.length_append, List.length_singleton]
      omega
    · omega
theorem split_count (s : ByteArray) (k : Int) (l : List Int) (asks : List Ask_) : (splitG s k l asks).length ≤ asks.length := Nat.le_trans (grps_count _ _ _ _) (pick_len _ _ _)
/-- all keys together -/
theorem all_keys {s : ByteArray} {k m : Int} {gs1 gs2 : List Grp} {hs1 hs2 : List Hd} {x y : Hd} (hk : 0 ≤ k) (hm : 0 ≤ m) (hne : k ≠ m) (hx : x.1 = childB s k) (hy : y.1 = childB s m) (h1 : hs1.map (·.1) = gs1.map (·.f0)) (h2 : hs2.map (·.1) = gs2.map (·.f0)) {cs1 cs2 : List Int}
    (K1 : gs1.map (·.f0) = cs1.map (keyG s k) ∧ cs1.Pairwise (· < ·) ∧ ∀ c ∈ cs1, 0 ≤ c) (K2 : gs2.map (·.f0) = cs2.map (keyG s m) ∧ cs2.Pairwise (· < ·) ∧ ∀ c ∈ cs2, 0 ≤ c) :
    (([x, y] ++ hs1 ++ hs2).map (·.1)).Nodup ∧ ∀ h ∈ [x, y] ++ hs1 ++ hs2, Longer s h.1 := by
  have e : ([x, y] ++ hs1 ++ hs2).map (·.1) = [childB s k, childB s m] ++ cs1.map (keyG s k) ++ cs2.map (keyG s m) := by
    rw [List.map_append, List.map_append, h1, h2, K1.1, K2.1]
    simp [hx, hy]
  refine ⟨by rw [e]; exact keys_nodup hk hm hne K1.2.1 K2.2.1 K1.2.2 K2.2.2, fun h hh => ?_⟩
  have hh := List.mem_map_of_mem (f := (·.1)) hh
  rw [e] at hh
  rcases List.mem_append.1 hh with hh | hh
  · rcases List.mem_append.1 hh with hh | hh
    · simp only [List.mem_cons, List.not_mem_nil, or_false] at hh
      rcases hh with hh | hh
      · rw [hh]; exact child_longer hk
      · rw [hh]; exact child_longer hm
    · obtain ⟨c, hc, hh⟩ := List.mem_map.1 hh
      rw [← hh]; exact key_longer hk (K1.2.2 c hc)
  · obtain ⟨c, hc, hh⟩ := List.mem_map.1 hh
    rw [← hh]; exact key_longer hm (K2.2.2 c hc)
theorem keys_ne {hs : List Hd} (h : (hs.map (·.1)).Nodup) {j i : Nat} (hj : j < i) {u t : Hd} (hu : hs[j]? = some u) (ht : hs[i]? = some t) (he : u.1 = t.1) : False := by
  obtain ⟨h1, e1⟩ := List.getElem?_eq_some_iff.1 hu
  obtain ⟨h2, e2⟩ := List.getElem?_eq_some_iff.1 ht
  exact List.pairwise_iff_getElem.1 h j i (by simpa using h1) (by simpa using h2) hj (by rw [List.getElem_map, List.getElem_map, e1, e2]; exact he)
set_option maxRecDepth 100000 in
set_option maxHeartbeats 8000000 in
theorem keys_c (s : ByteArray) (A : Option Addr) (c : Nat) (l : List Int) (k m : Int) (A2 : Option Addr) (c2 : Nat) (asks : List Ask_) (w : World) (hr : Kd.C (Kd.int .i64) w A l.length l) (hc : l.length ≤ c) (hk : Rng k) (hm : Rng m) (hr2 : Kd.C k40 w A2 asks.length asks) (hc2 : asks.length ≤ c2) (hx : ∀ x ∈ asks, (Rng x.f0 ∧ Rng x.f1)) (ht : Tab w) :
    Calls Tryd.prog 5 #[.agg #[.string s, .slice A l.length c], .int .i64 k, .int .i64 m, .slice A2 asks.length c2] w fun e w' => e = .returned (.bool true) ∧ Below w.heap.size w w' := by
  have hcr : ∀ x ∈ asks, Rng x.f0 := fun x h => (hx x h).1
  have HCR := Aside0.mk hcr
  clear hx hcr
  have b0 := blk_new w (.cells #[.string s, .slice A l.length c] 24)
  have hba := below_alloc (Below.refl w.heap.size w) (.cells #[.string s, .slice A l.length c] 24)
  have HB0 := Aside0.mk hba
  have HT0 := Aside0.mk (ht.after hba)
  have HR0 := Aside0.mk (Kd.C_below hr hba)
  have p0 : (w.alloc (.cells #[.string s, .slice A l.length c] 24)).cell? ⟨w.heap.size, 0, none⟩ = some (.string s) := (blk_cell b0 0).trans rfl
  have p1 : (w.alloc (.cells #[.string s, .slice A l.length c] 24)).cell? ⟨w.heap.size, 1, none⟩ = some (.slice A l.length c) := (blk_cell b0 1).trans rfl
  have HA0 := Aside0.mk (Kd.C_below hr2 hba)
  clear hr hr2 ht hba b0
  go_enter Tryd.func5, Tryd.ntmps5
  go_wp2_with fail
  generalize (w.alloc (.cells #[.string s, .slice A l.length c] 24)) = w1 at p0 p1 HB0 HT0 HR0 HA0 ⊢
  refine (awake_c w1 HT0.out).mono ?_
  rintro e w2 ⟨rfl, hb⟩
  have HB2 := Aside0.mk (below_then HB0.out HB0.out.size hb)
  have HR2 := Aside0.mk (Kd.C_below HR0.out hb)
  have HA2 := Aside0.mk (Kd.C_below HA0.out hb)
  have HT2 := Aside0.mk (HT0.out.after hb)
  have q0 := pw_cell_below hb p0
  have q1 := pw_cell_below hb p1
  clear hb HB0 HT0 HR0 HA0 p0 p1
  go_wp2_with fail
  refine (great_c s A c l w2 HR2.out hc).mono ?_
  rintro e w3 ⟨rfl, hb⟩
  have HB3 := Aside0.mk (below_then HB2.out HB2.out.size hb)
  have HR3 := Aside0.mk (Kd.C_below HR2.out hb)
  have HA3 := Aside0.mk (Kd.C_below HA2.out hb)
  have HT3 := Aside0.mk (HT2.out.after hb)
  have r0 := pw_cell_below hb q0
  have r1 := pw_cell_below hb q1
  clear hb HB2 HR2 HA2 HT2 q0 q1
  by_cases hg : 80 < l.length ∨ 200 < s.size
  · have dg : decide (80 < l.length ∨ 200 < s.size) = true := decide_eq_true hg
    rw [dg]
    clear hg dg
    go_wp2
    go_ret
    exact ⟨rfl, HB3.out⟩
  · have dg : decide (80 < l.length ∨ 200 < s.size) = false := decide_eq_false hg
    rw [dg]
    have hl80 : l.length ≤ 80 := by omega
    have hs200 : s.size ≤ 200 := by omega
    clear hg dg
    by_cases ha : 100 < asks.length
    · have da : (asks.length : Int) > 100 := by omega
      go_wp2
      go_ret
      exact ⟨rfl, HB3.out⟩
    have da : ¬ (asks.length : Int) > 100 := by omega
    by_cases hkm : k = m
    · subst hkm
      go_wp2
      go_ret
      exact ⟨rfl, HB3.out⟩
    have dkm : (k == m) = false := beq_eq_false_iff_ne.2 hkm
    have HNE := Aside0.mk hkm
    clear hkm ha
    have HSX := Aside0.mk (fun (W : World) (h : Below w3.heap.size w3 W) => split_ex s A c l m A2 c2 asks W (Kd.C_below HR3.out h) hc (Kd.C_below HA3.out h) hc2 (HT3.out.after h) (by omega) hm HCR.out hl80)
    by_cases hbad : mayB l = false ∨ k < 0 ∨ asks.length ≠ l.length
    · have HSP := Aside0.mk (split_bad s A c l k A2 asks.length c2 w3 HR3.out hc hbad)
      clear hbad
      go_wp2_with fail
      refine HSP.out.mono ?_
      rintro e w4 ⟨rfl, hb⟩
      have HB4 := Aside0.mk (below_then HB3.out HB3.out.size hb)
      have HS4 := Aside0.mk (HSX.out w4 hb)
      have s0 := pw_cell_below hb r0
      have s1 := pw_cell_below hb r1
      clear hb HSP HSX HB3 r0 r1
      go_wp2_with fail
      refine HS4.out.mono ?_
      rintro e w5 ⟨⟨v, n, rfl⟩, hb⟩
      have HB5 := Aside0.mk (below_then HB4.out HB4.out.size hb)
      clear hb HS4 HB4 s0 s1
      go_wp2
      go_ret
      exact ⟨rfl, HB5.out⟩
    have h1 : mayB l = true := by cases h : mayB l; exact absurd (.inl h) hbad; rfl
    have hk0 : 0 ≤ k := by omega
    have hln : asks.length = l.length := by omega
    have HM1 := Aside0.mk h1
    have HLN := Aside0.mk hln
    clear hbad h1
    have HSP := Aside0.mk (split_c s A c l k A2 c2 asks w3 HR3.out hc HA3.out hc2 HT3.out (by omega) HM1.out hk0 hk HCR.out hln hl80)
    clear HSX hln
    obtain ⟨cs1, hks1, hup1, hps1⟩ := split_keys s k l asks
    have HK1 := Aside0.mk (And.intro hks1 (And.intro hup1 hps1))
    clear hks1 hup1 hps1
    have hgl1 := split_count s k l asks
    generalize splitG s k l asks = gs1 at HSP HK1 hgl1
    go_wp2_with fail
    refine HSP.out.mono ?_
    rintro e w4 ⟨Av, cv, rfl, hcv, hCv, hb⟩
    have HB4 := Aside0.mk (below_then HB3.out HB3.out.size hb)
    have HR4 := Aside0.mk (Kd.C_below HR3.out hb)
    have HA4 := Aside0.mk (Kd.C_below HA3.out hb)
    have HT4 := Aside0.mk (HT3.out.after hb)
    have HV4 := Aside0.mk hCv
    have s0 := pw_cell_below hb r0
    have s1 := pw_cell_below hb r1
    clear hb hCv HSP HB3 HR3 HA3 HT3 r0 r1
    by_cases hm0 : m < 0
    · have HSP := Aside0.mk (split_bad s A c l m A2 asks.length c2 w4 HR4.out hc (.inr (.inl hm0)))
      go_wp2_with fail
      refine HSP.out.mono ?_
      rintro e w5 ⟨rfl, hb⟩
      have HB5 := Aside0.mk (below_then HB4.out HB4.out.size hb)
      clear hb HSP HB4 s0 s1
      go_wp2
      go_ret
      exact ⟨rfl, HB5.out⟩
    have hm1 : 0 ≤ m := by omega
    have HSP := Aside0.mk (split_c s A c l m A2 c2 asks w4 HR4.out hc HA4.out hc2 HT4.out (by omega) HM1.out hm1 hm HCR.out HLN.out hl80)
    obtain ⟨cs2, hks2, hup2, hps2⟩ := split_keys s m l asks
    have HK2 := Aside0.mk (And.intro hks2 (And.intro hup2 hps2))
    clear hks2 hup2 hps2
    have hgl2 := split_count s m l asks
    generalize splitG s m l asks = gs2 at HSP HK2 hgl2
    go_wp2_with fail
    refine HSP.out.mono ?_
    rintro e w5 ⟨Av2, cv2, rfl, hcv2, hCv2, hb⟩
    have HB5 := Aside0.mk (below_then HB4.out HB4.out.size hb)
    have HR5 := Aside0.mk (Kd.C_below HR4.out hb)
    have HT5 := Aside0.mk (HT4.out.after hb)
    have HV5 := Aside0.mk (Kd.C_below HV4.out hb)
    have HW5 := Aside0.mk hCv2
    have t0 := pw_cell_below hb s0
    have t1 := pw_cell_below hb s1
    have HDP := Aside0.mk (dup_c s A c l k w5 HR5.out hc HT5.out (by omega) HM1.out hk0 hk (by omega))
    clear hb hCv2 HSP HB4 HR4 HA4 HT4 HV4 s0 s1
    go_wp2_with fail
    refine HDP.out.mono ?_
    rintro e w6 ⟨u6, rfl, hR, hb⟩
    obtain ⟨A6, c6, rfl, _, _⟩ := Kd.R_reads hR
    have hba := below_alloc (Below.refl w6.heap.size w6) (.cells #[.string (childB s k), .slice A6 l.length c6] 24)
    have b7 := blk_new w6 (.cells #[.string (childB s k), .slice A6 l.length c6] 24)
    have hbb := hb.trans (hba.mono hb.size)
    have HB7 := Aside0.mk (below_then HB5.out HB5.out.size hbb)
    have HR7 := Aside0.mk (Kd.C_below HR5.out hbb)
    have HT7 := Aside0.mk (HT5.out.after hbb)
    have HV7 := Aside0.mk (Kd.C_below HV5.out hbb)
    have HW7 := Aside0.mk (Kd.C_below HW5.out hbb)
    have v0 := pw_cell_below hbb t0
    have v1 := pw_cell_below hbb t1
    have X7 := Aside0.mk b7
    clear hb hR hba hbb b7 HDP HB5 HR5 HT5 HV5 HW5 t0 t1
    go_upto_region 10 with fail
    generalize w6.alloc (.cells #[.string (childB s k), .slice A6 l.length c6] 24) = w7 at HB7 HR7 HT7 HV7 HW7 v0 v1 X7 ⊢
    generalize w6.heap.size = bx at X7 ⊢
    have HDP := Aside0.mk (dup_c s A c l m w7 HR7.out hc HT7.out (by omega) HM1.out hm1 hm (by omega))
    go_wp2_with fail
    refine HDP.out.mono ?_
    rintro e w8 ⟨u8, rfl, hR, hb⟩
    obtain ⟨A8, c8, rfl, _, _⟩ := Kd.R_reads hR
    have hba := below_alloc (Below.refl w8.heap.size w8) (.cells #[.string (childB s m), .slice A8 l.length c8] 24)
    have b9 := blk_new w8 (.cells #[.string (childB s m), .slice A8 l.length c8] 24)
    have hbb := hb.trans (hba.mono hb.size)
    have HB9 := Aside0.mk (below_then HB7.out HB7.out.size hbb)
    have HV9 := Aside0.mk (Kd.C_below HV7.out hbb)
    have HW9 := Aside0.mk (Kd.C_below HW7.out hbb)
    have g0 := pw_cell_below hbb v0
    have X9 := blk_below X7.out hbb
    go_upto_region 11 with fail
    generalize hW9 : w8.alloc (.cells #[.string (childB s m), .slice A8 l.length c8] 24) = w9 at b9 HB9 HV9 HW9 g0 X9 ⊢
    have y0 : w9.cell? ⟨bx, 0, none⟩ = some (.string (childB s k)) := (blk_cell X9 0).trans rfl
    have y1 : w9.cell? ⟨bx, 1, none⟩ = some (.slice A6 l.length c6) := (blk_cell X9 1).trans rfl
    have z0 : w9.cell? ⟨w8.heap.size, 0, none⟩ = some (.string (childB s m)) := (blk_cell b9 0).trans rfl
    have z1 : w9.cell? ⟨w8.heap.size, 1, none⟩ = some (.slice A8 l.length c8) := (blk_cell b9 1).trans rfl
    clear hW9
    clear hb hR hba hbb HDP HB7 HR7 HT7 HV7 HW7 v0 v1 X7
    obtain ⟨hs1, hH1, hE1⟩ := heads HV9.out
    obtain ⟨hs2, hH2, hE2⟩ := heads HW9.out
    obtain ⟨x, hx⟩ : ∃ x : Hd, x = (childB s k, (A6, l.length, c6)) := ⟨_, rfl⟩
    obtain ⟨y, hy⟩ : ∃ x : Hd, x = (childB s m, (A8, l.length, c8)) := ⟨_, rfl⟩
    have hAK := all_keys (x := x) (y := y) hk0 hm1 HNE.out (by rw [hx]) (by rw [hy]) hE1 hE2 HK1.out HK2.out
    have hba := below_alloc (Below.refl w9.heap.size w9) (.cells #[.string (childB s k), .slice A6 l.length c6, .string (childB s m), .slice A8 l.length c8] 24)
    have hn0 : kH.R 24 (w9.alloc (.cells #[.string (childB s k), .slice A6 l.length c6, .string (childB s m), .slice A8 l.length c8] 24)) w9.heap.size (fun _ => True) (.slice (some ⟨w9.heap.size, 0, none⟩) 2 2) [x, y] := by
      rw [hx, hy]
      exact R_two (w := w9) (childB s k, (A6, l.length, c6)) (childB s m, (A8, l.length, c8))
    have HN0 := Aside0.mk hn0
    have HBA := Aside0.mk hba
    have hza := hba.size
    have hl1 : hs1.length = gs1.length := by have := congrArg List.length hE1; rw [List.length_map, List.length_map] at this; exact this
    have hl2 : hs2.length = gs2.length := by have := congrArg List.length hE2; rw [List.length_map, List.length_map] at this; exact this
    have HX1 := Aside0.mk hl1
    have HX2 := Aside0.mk hl2
    have HH1 := Aside0.mk (Kd.C_below hH1 hba)
    have HH2 := Aside0.mk hH2
    have HAK := Aside0.mk hAK
    have hk40 : ([x, y].length + gs1.length) * 40 ≤ 140737488355328 := by simp; omega
    clear hE1 hE2 hx hy hAK hn0 hba hH1 hH2 HK1 HK2 hl1 hl2 HNE
    go_wp2_with (at_builtin; first
      | (refine Kd.R_append_rows kH (w0 := w9) w9.heap.size rfl (.tmp 75) (.tmp 76) 33 24 (.agg #[.string ⟨#[]⟩, .slice none 0 0]) 40 rfl Tryd.underlying33 infoG rfl (by decide) (by decide) (.slice (some ⟨w9.heap.size, 0, none⟩) 2 2) [x, y] hs1 Av gs1.length cv (fun _ => True) (fun _ => False) rfl rfl HN0.out HH1.out (fun x cs h => by obtain rfl := kH_open h; exact kH_mkM _ _ _ x) (fun _ h => h.elim) (fun _ _ => trivial) HBA.out hza hk40 ?_; intro v1 w10 ho hbl hgr hat; obtain ⟨A10, c10, rfl, hc10, _⟩ := Kd.R_reads ho; have HO10 := Aside0.mk ho; have HB10 := Aside0.mk hbl; have hz10 := hbl.size; have hk41 : (([x, y] ++ hs1).length + gs2.length) * 40 ≤ 140737488355328 := (by have := HX1.out; simp; omega); clear ho hbl hgr hat)
      | (refine Kd.R_append_rows kH (w0 := w9) w9.heap.size rfl (.tmp 77) (.tmp 78) 33 24 (.agg #[.string ⟨#[]⟩, .slice none 0 0]) 40 rfl Tryd.underlying33 infoG rfl (by decide) (by decide) (.slice A10 ([x, y] ++ hs1).length c10) ([x, y] ++ hs1) hs2 Av2 gs2.length cv2 (fun _ => True) (fun _ => False) rfl rfl HO10.out (Kd.C_below HH2.out HB10.out) (fun x cs h => by obtain rfl := kH_open h; exact kH_mkM _ _ _ x) (fun _ h => h.elim) (fun _ _ => trivial) HB10.out hz10 hk41 ?_; intro v1 w11 ho hbl hgr hat; obtain ⟨A11, c11, rfl, hc11, hC11⟩ := Kd.R_reads ho; have hn11 : ([x, y] ++ hs1 ++ hs2).length ≤ 1000 := (by have := HX1.out; have := HX2.out; simp; omega); have HAK2 := HAK; clear HAK ho; generalize hn : ([x, y] ++ hs1 ++ hs2).length = n at hc11 hC11 hn11 ⊢; generalize [x, y] ++ hs1 ++ hs2 = hs at hn hC11 HAK2; have HN := Aside0.mk hn; have HC11 := Aside0.mk hC11; have HB11 := Aside0.mk (below_then HB9.out HB9.out.size hbl); have g1 := pw_cell_below hbl g0; clear hn hbl hgr hat hC11 HO10 HB10 hk41 hz10))
    clear y0 y1 z0 z1 X9 b9 hk40 hza g0 hcv hcv2 hgl1 hgl2
    go_loopw [18] (fun v18 wr => ∃ i : Nat, i ≤ n ∧ v18 = .int .i64 i ∧ Aside0 (Below w11.heap.size w11 wr)) (fun v18 _ => n - (intOf v18).toNat)
    case atStart => exact ⟨0, by omega, rfl, ⟨Below.refl _ _⟩⟩
    case round =>
      obtain ⟨i, hi, rfl, HLW⟩ := hrel
      obtain ⟨w12, rfl⟩ : ∃ w12 : World, w12 = wr := ⟨_, rfl⟩
      by_cases hin : i < n
      · have hi64 : IntKind.i64.wrap ((i : Int) + 1) = (i : Int) + 1 := i64w (by omega) (by omega)
        have hii : (i : Int) < (n : Int) := by omega
        obtain ⟨t, ht⟩ : ∃ t : Hd, hs[i]? = some t := ⟨hs[i]'(by have := HN.out; omega), by simp⟩
        obtain ⟨ad, hA, x0⟩ := kH_key (Kd.C_below HC11.out HLW.out) hin ht
        have hlong := HAK2.out.2 _ (List.mem_of_getElem? ht)
        have HT := Aside0.mk ht
        have HAD := Aside0.mk hA
        obtain ⟨tk, tv⟩ := t
        dsimp only at x0 hlong
        have dlt : ¬ ((tk.size : Int) ≤ (s.size : Int)) := by have := hlong.1; omega
        have dle : s.size ≤ tk.size := by have := hlong.1; omega
        have hext : tk.extract 0 s.size = s := hlong.2
        have g2 := pw_cell_below HLW.out g1
        subst hA
        clear ht hlong
        have HX0 := Aside0.mk x0
        go_upto_region 18 with fail
        go_cut [106] from 91 to 106 (fun v106 wx => v106 = .bool false ∧ Below w12.heap.size w12 wx)
        case first =>
          go_quiet (fail)
          go_wp2_with fail
          go_meet
          exact ⟨rfl, pw_below_drewN (Below.refl _ _) nq⟩
        case rest =>
          obtain ⟨rfl, hbq⟩ := hcut
          have HLC := Aside0.mk (below_then HLW.out HLW.out.size hbq)
          clear hbq x0 g2 HX0 dle dlt hext
          go_wp2_with fail
          go_loopw [20] (fun v20 wq => ∃ j : Nat, j ≤ i ∧ v20 = .int .i64 j ∧ Aside0 (Below w11.heap.size w11 wq)) (fun v20 _ => i - (intOf v20).toNat)
          case atStart => exact ⟨0, by omega, rfl, HLC⟩
          case round =>
            obtain ⟨j, hj, rfl, HLQ⟩ := hrel
            by_cases hji : j < i
            · have hj64 : IntKind.i64.wrap ((j : Int) + 1) = (j : Int) + 1 := i64w (by omega) (by omega)
              have hjj : (j : Int) < (i : Int) := by omega
              obtain ⟨u, hu⟩ : ∃ u : Hd, hs[j]? = some u := ⟨hs[j]'(by have := HN.out; omega), by simp⟩
              obtain ⟨ad', hA, x0⟩ := kH_key (Kd.C_below HC11.out HLQ.out) (by omega) hu
              injection hA with hA
              subst hA
              have hne : ¬ (u.1 = tk) := fun he => keys_ne HAK2.out.1 hji hu HT.out he
              obtain ⟨uk, uv⟩ := u
              dsimp only at x0 hne
              have f1 : (j : Int) < (n : Int) := by omega
              have dne : (uk.toList == tk.toList) = false := beq_eq_false_iff_ne.2 (fun he => hne (by
                rw [Lib.toList_data, Lib.toList_data] at he
                exact ByteArray.ext (Array.ext' he)))
              clear hu hne
              go_wp2
              refine ⟨⟨j + 1, by omega, by go_num, HLQ⟩, ?_⟩
              simp [intOf]
              omega
            · obtain rfl : j = i := by omega
              clear hji
              go_wp2
              refine ⟨⟨j + 1, by omega, by go_num, HLQ⟩, ?_⟩
              simp [intOf]
              omega
      · obtain rfl : i = n := by omega
        go_wp2
        go_ret
        exact ⟨rfl, HB11.out.trans (HLW.out.mono HB11.out.size)⟩
end Go.Proofs.YtkifmhfgplhabaaDoor.HQ

namespace Go.Proofs.YtkifmhfgplhabaaDoor.groupKeys
open Go.ChangeShapes Go.WideShapes Go.ChangeAt Go.RowKit Go.Joins
open Go.ChangeMaps (open_string shut_string)
set_option linter.unusedVariables false
theorem own : ownKnob Tryd.prog.godebug = none := by kernel_rfl
theorem laidOut : laidOutB Tryd.prog = true := by kernel_rfl
theorem cellsG : Tryd.prog.cellsOf 24 = 2 := by kernel_rfl
set_option maxRecDepth 100000 in
theorem lifted (os : Os) (started : os.Started) (H : Type) (enc : TypeId × Value → H) :
    ReturnsInHanded {} Tryd.checked os 5 .any (fun w args => (Rows.groupKeysSpec.pre enc Tryd.prog Tryd.f5 [] false w args ∧ laidMetH Tryd.prog HR.laid3 w) ∧ sizedMet enc Tryd.prog Tryd.f5 (OpenSpec.ofChange Rows.groupKeysSpec) false w args)
      (Rows.groupKeysSpec.post enc Tryd.prog Tryd.f5 false true false false) := by
  refine returnsInHanded_of_change_and (C := Tryd.checked) (X := fun w _ => laidMetH Tryd.prog HR.laid3 w) (fun _ _ _ hh h => h.of_heap hh) own started (by kernel_rfl) Tryd.func5
    (ChangeSpec.witness_shaped (enc := enc) (C := Tryd.checked) (os := os) (X := fun w _ => laidMetH Tryd.prog HR.laid3 w) false (World.doorLaid Tryd.prog 24 os) #[.agg #[.string ⟨#[]⟩, .slice none 0 0], .int .i64 0, .int .i64 0, .slice none 0 0] 8 rfl (World.shaped_of_RefB (by kernel_rfl) (by kernel_rfl)) (by kernel_rfl) (by kernel_rfl) (by kernel_rfl) (HR.door_met os _)) ?_
  intro W base args ds gs before hval0 hW _ _ hL _
  have hval : ∀ (j : Nat) t v, Tryd.f5.params[j]? = some t → args[j]? = some v → Value.okWide Tryd.prog W .any base t v := hval0
  have hW' := hW
  obtain ⟨p, q, hA0, hV, rfl, hfz, hnd⟩ := hW
  have hA : DataW.TrodAll enc Tryd.prog W 0 (fun _ => true) true Tryd.f5.params.toList args.toList ds p := hA0
  rw [Tryd.params5] at hA hval
  obtain ⟨v0, vs0, d0, ds0, p0, q0, hargs, rfl, rfl, h0, r0⟩ := trodAll_cons hA
  obtain ⟨v1, vs1, d1, ds1, p1, q1, rfl, rfl, rfl, h1, r1⟩ := trodAll_cons r0
  obtain ⟨v2, vs2, d2, ds2, p2, q2, rfl, rfl, rfl, h2, r2⟩ := trodAll_cons r1
  obtain ⟨v3, vs3, d3, ds3, p3, q3, rfl, rfl, rfl, h3, r3⟩ := trodAll_cons r2
  obtain ⟨rfl, rfl, rfl⟩ := trodAll_nil r3
  obtain rfl : args = #[v0, v1, v2, v3] := by cases args; simp_all
  obtain ⟨rfl, rfl⟩ := trodVars_none hV
  have k0 := h0
  have lt0 : ∀ x ∈ p0, x.block < W.heap.size := by obtain ⟨m, hm⟩ := k0; exact DataW.trod_lt m _ _ _ hm
  obtain ⟨c00, c10, y00, y10, m0, rfl, rfl, rfl, hy00, hy10⟩ := open_agg2 Tryd.underlying24 (by kernel_rfl) cellsG (hval 0 24 v0 rfl rfl) h0
  obtain ⟨s0, hs10, hs20, hs30⟩ := DataW.trod_string Tryd.underlying9 hy00
  obtain rfl : c00 = .string s0 := by simpa using hs10
  obtain ⟨a0, cc0, ys0, hs40, hyc0, hyr0⟩ := HR.open_ints_kd hy10
  obtain rfl : c10 = .slice a0 ys0.length cc0 := by simpa using hs40
  have k1 := h1
  have lt1 : ∀ x ∈ p1, x.block < W.heap.size := by obtain ⟨m, hm⟩ := k1; exact DataW.trod_lt m _ _ _ hm
  obtain ⟨n1, rfl, _, _, w1⟩ := open_int Tryd.underlying3 (hval 1 3 v1 rfl rfl) h1
  have k2 := h2
  have lt2 : ∀ x ∈ p2, x.block < W.heap.size := by obtain ⟨m, hm⟩ := k2; exact DataW.trod_lt m _ _ _ hm
  obtain ⟨n2, rfl, _, _, w2⟩ := open_int Tryd.underlying3 (hval 2 3 v2 rfl rfl) h2
  have k3 := h3
  have lt3 : ∀ x ∈ p3, x.block < W.heap.size := by obtain ⟨m, hm⟩ := k3; exact DataW.trod_lt m _ _ _ hm
  obtain ⟨a3, l3, c3, rfl⟩ := okWide_slice Tryd.underlying25 (hval 3 25 v3 rfl rfl)
  obtain ⟨xs3, rfl, hc3, hr3, hx3⟩ := HR.open_asks h3
  have hT := HR.tab_of_laid hL
  clear hA0 hval0 hL
  refine (HQ.keys_c s0 a0 cc0 ys0 n1 n2 a3 c3 xs3 W hyr0 hyc0 (HR.rng_of w1) (HR.rng_of w2) hr3 hc3 hx3 hT).mono fun e W' ⟨he, bel⟩ => ?_
  subst he
  exact ⟨_, rfl, _, _, _, [], _, [], hW', trodAll_mk1 (shut_bool Tryd.underlying4 _), (trodAll_cons_mk (Below.trod laidOut (by kernel_rfl) (of_decide_eq_true (by kernel_rfl)) k0 bel lt0) (trodAll_cons_mk (Below.trod laidOut (by kernel_rfl) (of_decide_eq_true (by kernel_rfl)) k1 bel lt1) (trodAll_cons_mk (Below.trod laidOut (by kernel_rfl) (of_decide_eq_true (by kernel_rfl)) k2 bel lt2) (trodAll_cons_mk (Below.trod laidOut (by kernel_rfl) (of_decide_eq_true (by kernel_rfl)) k3 bel lt3) trodAll_mk0)))), rfl, bel.frame _, fun h => by cases h⟩
theorem proved : Rows.GroupKeysSaid :=
  OpenClaim.holds_of_wide 5 Tryd.f5 rfl rfl rfl rfl rfl rfl rfl ⟨rfl, rfl, rfl, rfl, rfl⟩ rfl rfl rfl rfl rfl (by kernel_rfl) Tryd.func5 (by kernel_rfl)
    (of_decide_eq_true (by kernel_rfl)) (by unfold Func.isWrapper; first | (rw [if_pos (by decide +kernel)]; kernel_rfl) | (rw [if_neg (by decide +kernel)]; exact ⟨rfl, rfl⟩))
    (fun os started H enc _ => lifted os started H enc)
theorem whole : Rows.GroupKeysCardSaid :=
  Claim7.holds_tied_plain_at .later [] [.data, .data, .data] true Rows.groupKeysCard.stood.harness Rows.groupKeysCard.stood.looks
    proved (fun _ h => by cases h) (by kernel_rfl) (fun _ h => by cases h) groupKeys_row_tie rfl ⟨rfl, rfl⟩ (by kernel_rfl) rfl
    (fun f fn hf hfn => by
      obtain rfl : f = 5 := Option.some.inj ((show Tryd.prog.funcNamed "dispatcher/dispatcherlaw11.GroupKeys" = some 5 by kernel_rfl).symm.trans hf) |>.symm
      obtain rfl : fn = Tryd.f5 := (Option.some.inj (Tryd.func5.symm.trans hfn)).symm
      exact ⟨by kernel_rfl, fun j t ht => by
        rw [Tryd.params5] at ht
        have hm : t ∈ [24, 3, 3, 25] := by simpa using Array.mem_of_getElem? ht
        have hall : ([24, 3, 3, 25].all fun u => !Tryd.prog.wantsStandIn u) = true := by kernel_rfl
        exact (show Tryd.prog.wantsStandIn t = false by simpa using List.all_eq_true.1 hall t hm)⟩)
    (by kernel_rfl)
end Go.Proofs.YtkifmhfgplhabaaDoor.groupKeys
namespace Go.Proofs.YtkifmhfgplhabaaDoor
/-- The card, under a short name, for the claim. -/
theorem groupKeys_holds : Rows.GroupKeysCardSaid := groupKeys.whole
end Go.Proofs.YtkifmhfgplhabaaDoor
