/- GroupOne: whatever comes in, the law answers true, and what came in reads as it did; the tables that it lists are tied to the program's text. No condition. -/
import Derived.Test.YtkifmhfgplhabaaDoorHRg
import Derived.Test.YtkifmhfgplhabaaDoorGdA
import Derived.Test.YtkifmhfgplhabaaDoorRows
import Derived.Test.YtkifmhfgplhabaaDoorTie
import Derived.Test.YtkifmhfgplhabaaDoorCards
import Derived.LaidMore
import Derived.Stop.Joined
import Derived.WalkKit
import Derived.Below
import Derived.SevenTiedAt
import Derived.Test.YtkifmhfgplhabaaDoorGdE
import Derived.ProofKit
import Derived.OpenShut
import Derived.ShutString
import Derived.ChangeOld
import Derived.SizedLaws
import Derived.Lib.SmallJoins
namespace Go.Proofs.YtkifmhfgplhabaaDoor.HR
open Go.RowKit Go.Joins Go.ChangeShapes Go.WideShapes Go.Deep Go.Proofs.YtkifmhfgplhabaaDoor.HK Go.Proofs.YtkifmhfgplhabaaDoor.HQ Go.Proofs.YtkifmhfgplhabaaDoorW.PrintWords Go.Proofs.YtkifmhfgplhabaaDoorW.PrintLast Go.Proofs.YtkifmhfgplhabaaDoorW.PrintMore
set_option linter.unusedVariables false
theorem rng_of {n : Int} (h : (Lit.int .i64 n).wf = true) : Rng n := by
  simp only [Lit.wf, Bool.and_eq_true, decide_eq_true_eq] at h
  exact ⟨h.1, h.2⟩
/-- the three tables that a row lists -/
abbrev laid3 {H : Type} : List (String × DataW H) := [("math/bits.deBruijn32tab", Rows.laid_math_bits_deBruijn32tab), ("math/bits.deBruijn64tab", Rows.laid_math_bits_deBruijn64tab), ("internal/strconv.uint64pow10", Rows.laid_internal_strconv_uint64pow10)]
theorem door_met (os : Os) (args : Array Value) : laidMetH Tryd.prog laid3 ((World.doorLaid Tryd.prog 24 os).forCall (fun _ _ => 0) ⟨#[], args, []⟩).memory :=
  laidMetH_of_parts3 (fuel := 8) (laidMet_of_run' 8 (by kernel_rfl) (by kernel_rfl)) (by kernel_rfl) (by kernel_rfl)
theorem tTab : (Tryd.prog.globals[0]?).map (·.type) = some 98 := by kernel_rfl
theorem tab_of_laid {W : World} (h : laidMetH Tryd.prog laid3 W) : Tab W := by
  rw [MakeChecks.laidMetH_plain _ _ _ (by kernel_rfl)] at h
  obtain ⟨ps, ⟨g0, t0, cs0, f0, p0, q0, hg0, ht0, hv0, hd0, ⟨g1, t1, cs1, f1, p1, q1, hg1, ht1, hv1, hd1, ⟨g2, t2, cs2, f2, p2, q2, hg2, ht2, hv2, hd2, _, _⟩, _⟩, _⟩, _, _⟩ := h
  obtain rfl := Option.some.inj (gTab.symm.trans hg2)
  obtain rfl := Option.some.inj (tTab.symm.trans ht2)
  have hc := Lib.cells_of_tab (k := .u64) (zs := Lib.pow10Tab) Tryd.underlying98 Tryd.underlying58 (by kernel_rfl) (by kernel_rfl) hd2
  have ht : Lib.TabIs Tryd.prog W "internal/strconv.uint64pow10" .u64 Lib.pow10Tab := by
    unfold Lib.TabIs
    rw [hv2, ← hc]
  exact ⟨ht, World.block_lt_of_cell? W _ (ht.cell gTab 0 (by decide))⟩
end Go.Proofs.YtkifmhfgplhabaaDoor.HR

namespace Go.Proofs.YtkifmhfgplhabaaDoor.HQ
open Go.Proofs.YtkifmhfgplhabaaDoor.HU Go.RowKit Go.Proofs.YtkifmhfgplhabaaDoor.HK Go.Proofs.YtkifmhfgplhabaaDoor.HP Go.Proofs.YtkifmhfgplhabaaDoorW.PrintWords Go.Proofs.YtkifmhfgplhabaaDoorW.PrintLast Go.Proofs.YtkifmhfgplhabaaDoorW.PrintMore
set_option linter.unusedVariables false
set_option linter.unusedSimpArgs false
theorem index_loop (l : List Int) (x : Int) (hl : l.length ≤ 1000) (r : Int) (hr : (r = -1 ∧ ∀ j : Nat, j < l.length → rd l (j : Int) ≠ x) ∨ ∃ m : Nat, r = m ∧ m < l.length ∧ rd l (m : Int) = x ∧ ∀ j : Nat, j < m → rd l (j : Int) ≠ x) :
    ∀ n i, n = l.length - i → i ≤ l.length → (∀ m : Nat, r = m → i ≤ m) → Ev (fun k => Qgnbase.slices_Index_int_int.l0 k l x (l.length : Int) (i : Int)) r := by
  intro n
  induction n with
  | zero =>
    intro i hn hi hm
    refine Ev.round ?_ (fun k => by simp only [Qgnbase.slices_Index_int_int.l0]; rfl)
    refine Ev.neg (by omega) ?_
    rcases hr with ⟨rfl, _⟩ | ⟨m, rfl, h1, _⟩
    · exact Ev.const rfl
    · have := hm m rfl; omega
  | succ n ih =>
    intro i hn hi hm
    refine Ev.round ?_ (fun k => by simp only [Qgnbase.slices_Index_int_int.l0]; rfl)
    refine Ev.pos (by omega) ?_
    refine Ev.pos (by omega) ?_
    refine Ev.pos (by omega) ?_
    by_cases he : x = rd l (i : Int)
    · refine Ev.pos he ?_
      rcases hr with ⟨rfl, h⟩ | ⟨m, rfl, h1, h2, h3⟩
      · exact absurd he.symm (h i (by omega))
      · have h4 := hm m rfl
        have : i = m := by
          rcases Nat.lt_or_ge i m with h5 | h5
          · exact absurd he.symm (h3 i h5)
          · omega
        exact Ev.const (by rw [this])
    · refine Ev.neg he ?_
      rw [wrap64_nat i (by omega)]
      refine ih (i + 1) (by omega) (by omega) (fun m hmm => ?_)
      have h4 := hm m hmm
      rcases hr with ⟨h5, _⟩ | ⟨m', h5, _, h6, _⟩
      · omega
      · have : m = m' := by omega
        subst this
        rcases Nat.lt_or_ge i m with h7 | h7
        · exact h7
        · have : i = m := by omega
          subst this
          exact absurd h6.symm he
/-- where a rank stands -/
def posI (l : List Int) (x : Int) : Option Nat := l.findIdx? (fun y => decide (y = x))
theorem posI_some {l : List Int} {x : Int} {m : Nat} (h : posI l x = some m) : m < l.length ∧ rd l (m : Int) = x ∧ ∀ j : Nat, j < m → rd l (j : Int) ≠ x := by
  obtain ⟨h1, h2, h3⟩ := List.findIdx?_eq_some_iff_getElem.1 h
  refine ⟨h1, ?_, fun j hj => ?_⟩
  · rw [rd_lt h1]; simpa using h2
  · rw [rd_lt (by omega)]; simpa using h3 j hj
theorem posI_none {l : List Int} {x : Int} (h : posI l x = none) : ∀ j : Nat, j < l.length → rd l (j : Int) ≠ x := by
  intro j hj
  rw [rd_lt hj]
  have := List.findIdx?_eq_none_iff.1 h _ (List.getElem_mem hj)
  simpa using this
theorem number_c (s : ByteArray) (A : Option Addr) (c : Nat) (l : List Int) (x : Int) (w : World) (hr : Kd.C (Kd.int .i64) w A l.length l) (hc : l.length ≤ c) (hl : l.length ≤ 1000) :
    Calls Tryd.prog 19 #[.agg #[.string s, .slice A l.length c], .int .i64 x] w fun e w' => e = .returned (.tuple #[.int .i64 (((posI l x).getD 0 : Nat) : Int), .bool (posI l x).isSome]) ∧ Below w.heap.size w w' := by
  cases hp : posI l x with
  | some m =>
    obtain ⟨h1, h2, h3⟩ := posI_some hp
    obtain ⟨K, hK⟩ := (index_loop l x hl (m : Int) (.inr ⟨m, rfl, h1, h2, h3⟩) l.length 0 rfl (Nat.zero_le _) (fun _ _ => Nat.zero_le _)).rounds
    exact Qgnbase.group_Number.calls K s A c l x (m : Int) true w hr hc (by unfold Qgnbase.group_Number.f Qgnbase.slices_Index_int_int.f; rw [show ((0 : Nat) : Int) = 0 from rfl] at hK; rw [hK]; simp [mx]; omega)
  | none =>
    obtain ⟨K, hK⟩ := (index_loop l x hl (-1) (.inl ⟨rfl, posI_none hp⟩) l.length 0 rfl (Nat.zero_le _) (fun m hm => by omega)).rounds
    exact Qgnbase.group_Number.calls K s A c l x 0 false w hr hc (by unfold Qgnbase.group_Number.f Qgnbase.slices_Index_int_int.f; rw [show ((0 : Nat) : Int) = 0 from rfl] at hK; rw [hK]; rfl)
theorem rank_c (s : ByteArray) (A : Option Addr) (c : Nat) (l : List Int) (n : Int) (w : World) (hr : Kd.C (Kd.int .i64) w A l.length l) (hc : l.length ≤ c) :
    Calls Tryd.prog 20 #[.agg #[.string s, .slice A l.length c], .int .i64 n] w fun e w' => e = .returned (.tuple #[.int .i64 (if 0 ≤ n ∧ n < l.length then rd l n else 0), .bool (decide (0 ≤ n ∧ n < l.length))]) ∧ Below w.heap.size w w' := by
  by_cases h : 0 ≤ n ∧ n < l.length
  · rw [if_pos h, decide_eq_true h]
    exact Qgnbase.group_Rank.calls s A c l n _ true w hr hc (by unfold Qgnbase.group_Rank.f; rw [if_neg (by omega), if_neg (by omega), if_pos h.1, if_pos h.2])
  · rw [if_neg h, decide_eq_false h]
    refine Qgnbase.group_Rank.calls s A c l n 0 false w hr hc ?_
    unfold Qgnbase.group_Rank.f
    by_cases h0 : n < 0
    · rw [if_pos h0]
    · rw [if_neg h0, if_pos (by omega)]
theorem great_c (s : ByteArray) (A : Option Addr) (c : Nat) (l : List Int) (w : World) (hr : Kd.C (Kd.int .i64) w A l.length l) (hc : l.length ≤ c) :
    Calls Tryd.prog 9 #[.agg #[.string s, .slice A l.length c]] w fun e w' => e = .returned (.bool (decide (80 < l.length ∨ 200 < s.size))) ∧ Below w.heap.size w w' := by
  refine Qgnbase.dispatcherlaw11_Great.calls s A c l _ w hr hc ?_
  unfold Qgnbase.dispatcherlaw11_Great.f
  by_cases h : (l.length : Int) > 80
  · rw [if_pos h, decide_eq_true (.inl (by omega))]
  · rw [if_neg h]
    congr 1
    refine decide_eq_decide.2 ?_
    omega
theorem rd_inj {l : List Int} (h : l.Nodup) {i j : Nat} (hi : i < l.length) (hj : j < l.length) (he : rd l (i : Int) = rd l (j : Int)) : i = j := by
  rw [rd_lt hi, rd_lt hj] at he
  have hp := List.pairwise_iff_getElem.1 h
  rcases Nat.lt_trichotomy i j with h1 | h1 | h1
  · exact absurd he (hp i j hi hj h1)
  · exact h1
  · exact absurd he.symm (hp j i hj hi h1)
set_option maxRecDepth 100000 in
set_option maxHeartbeats 8000000 in
theorem round_c (s : ByteArray) (A : Option Addr) (c : Nat) (l : List Int) (n : Int) (w : World) (hr : Kd.C (Kd.int .i64) w A l.length l) (hc : l.length ≤ c) (ht : Tab w) :
    Calls Tryd.prog 7 #[.agg #[.string s, .slice A l.length c], .int .i64 n] w fun e w' => e = .returned (.bool true) ∧ Below w.heap.size w w' := by
  have b0 := blk_new w (.cells #[.string s, .slice A l.length c] 24)
  have hba := below_alloc (Below.refl w.heap.size w) (.cells #[.string s, .slice A l.length c] 24)
  have HB0 := Aside0.mk hba
  have HT0 := Aside0.mk (ht.after hba)
  have HR0 := Aside0.mk (Kd.C_below hr hba)
  have p0 : (w.alloc (.cells #[.string s, .slice A l.length c] 24)).cell? ⟨w.heap.size, 0, none⟩ = some (.string s) := (blk_cell b0 0).trans rfl
  have p1 : (w.alloc (.cells #[.string s, .slice A l.length c] 24)).cell? ⟨w.heap.size, 1, none⟩ = some (.slice A l.length c) := (blk_cell b0 1).trans rfl
  clear hr ht hba b0
  go_enter Tryd.func7, Tryd.ntmps7
  go_wp2_with fail
  generalize (w.alloc (.cells #[.string s, .slice A l.length c] 24)) = w1 at p0 p1 HB0 HT0 HR0 ⊢
  refine (awake_c w1 HT0.out).mono ?_
  rintro e w2 ⟨rfl, hb⟩
  have HB2 := Aside0.mk (below_then HB0.out HB0.out.size hb)
  have HR2 := Aside0.mk (Kd.C_below HR0.out hb)
  have q0 := pw_cell_below hb p0
  have q1 := pw_cell_below hb p1
  clear hb HB0 HT0 HR0 p0 p1
  go_wp2_with fail
  refine (great_c s A c l w2 HR2.out hc).mono ?_
  rintro e w3 ⟨rfl, hb⟩
  have HB3 := Aside0.mk (below_then HB2.out HB2.out.size hb)
  have HR3 := Aside0.mk (Kd.C_below HR2.out hb)
  have r0 := pw_cell_below hb q0
  have r1 := pw_cell_below hb q1
  clear hb HB2 HR2 q0 q1
  by_cases hg : 80 < l.length ∨ 200 < s.size
  · have dg : decide (80 < l.length ∨ 200 < s.size) = true := decide_eq_true hg
    rw [dg]
    clear hg dg
    go_wp2
    go_ret
    exact ⟨rfl, HB3.out⟩
  · have dg : decide (80 < l.length ∨ 200 < s.size) = false := decide_eq_false hg
    rw [dg]
    have hl80 : l.length ≤ 80 := by omega
    clear hg dg
    go_wp2_with fail
    refine (may_c s A c l w3 HR3.out hc).mono ?_
    rintro e w4 ⟨rfl, hb⟩
    have HB4 := Aside0.mk (below_then HB3.out HB3.out.size hb)
    have HR4 := Aside0.mk (Kd.C_below HR3.out hb)
    have s0 := pw_cell_below hb r0
    have s1 := pw_cell_below hb r1
    clear hb HB3 HR3 r0 r1
    cases hm : mayB l with
    | false =>
      go_wp2
      go_ret
      exact ⟨rfl, HB4.out⟩
    | true =>
      have hmay : MayG l := of_decide_eq_true hm
      have HND := Aside0.mk hmay.2.2
      clear hm hmay
      have HRK := Aside0.mk (rank_c s A c l n w4 HR4.out hc)
      by_cases hn : 0 ≤ n ∧ n < (l.length : Int)
      · rw [if_pos hn, decide_eq_true hn] at HRK
        obtain ⟨n0, rfl⟩ : ∃ n0 : Nat, n = n0 := ⟨n.toNat, by omega⟩
        have hn0 : n0 < l.length := by omega
        have hp := posI_none (l := l) (x := rd l (n0 : Int))
        have hpos : posI l (rd l (n0 : Int)) = some n0 := by
          cases hq : posI l (rd l (n0 : Int)) with
          | none => exact absurd rfl (posI_none hq n0 hn0)
          | some m =>
            obtain ⟨h1, h2, _⟩ := posI_some hq
            rw [rd_inj HND.out h1 hn0 h2]
        obtain ⟨f1, f2⟩ := hn
        clear hp
        go_wp2_with fail
        refine HRK.out.mono ?_
        rintro e w5 ⟨rfl, hb⟩
        have HB5 := Aside0.mk (below_then HB4.out HB4.out.size hb)
        have HR5 := Aside0.mk (Kd.C_below HR4.out hb)
        have t0 := pw_cell_below hb s0
        have t1 := pw_cell_below hb s1
        have HNM := Aside0.mk (number_c s A c l (rd l (n0 : Int)) w5 HR5.out hc (by omega))
        rw [hpos] at HNM
        clear hb HB4 HR4 s0 s1 HRK hpos
        generalize rd l (n0 : Int) = r at HNM ⊢
        go_wp2_with fail
        refine HNM.out.mono ?_
        rintro e w6 ⟨rfl, hb⟩
        have HB6 := Aside0.mk (below_then HB5.out HB5.out.size hb)
        have HR6 := Aside0.mk (Kd.C_below HR5.out hb)
        have u0 := pw_cell_below hb t0
        have u1 := pw_cell_below hb t1
        clear hb HB5 HR5 t0 t1 HNM
        rw [show ((some n0).getD 0 : Nat) = n0 from rfl, show (some n0).isSome = true from rfl]
        have HNN := Aside0.mk (number_c s A c l (n0 : Int) w6 HR6.out hc (by omega))
        cases hq : posI l (n0 : Int) with
        | some m =>
          obtain ⟨h1, h2, _⟩ := posI_some hq
          rw [hq] at HNN
          have HRM := Aside0.mk (fun (W : World) (hR : Kd.C (Kd.int .i64) W A l.length l) => rank_c s A c l (m : Int) W hR hc)
          rw [if_pos (show 0 ≤ (m : Int) ∧ (m : Int) < l.length by omega), decide_eq_true (show 0 ≤ (m : Int) ∧ (m : Int) < l.length by omega), h2] at HRM
          clear hq h1 h2
          go_wp2_with fail
          refine HNN.out.mono ?_
          rintro e w7 ⟨rfl, hb⟩
          have HB7 := Aside0.mk (below_then HB6.out HB6.out.size hb)
          have HR7 := Aside0.mk (Kd.C_below HR6.out hb)
          have v0 := pw_cell_below hb u0
          have v1 := pw_cell_below hb u1
          clear hb HB6 HR6 u0 u1 HNN
          rw [show ((some m).getD 0 : Nat) = m from rfl, show (some m).isSome = true from rfl]
          go_wp2_with fail
          refine (HRM.out w7 HR7.out).mono ?_
          rintro e w8 ⟨rfl, hb⟩
          have HB8 := Aside0.mk (below_then HB7.out HB7.out.size hb)
          clear hb HB7 HR7 v0 v1 HRM
          go_wp2
          go_ret
          exact ⟨by first | rfl | (simp; done), HB8.out⟩
        | none =>
          have HNO := Aside0.mk (posI_none hq)
          rw [hq] at HNN
          clear hq
          go_wp2_with fail
          refine HNN.out.mono ?_
          rintro e w7 ⟨rfl, hb⟩
          have HB7 := Aside0.mk (below_then HB6.out HB6.out.size hb)
          have HR7 := Aside0.mk (Kd.C_below HR6.out hb)
          have v0 := pw_cell_below hb u0
          have v1 := pw_cell_below hb u1
          clear hb HB6 HR6 u0 u1 HNN
          rw [show (none : Option Nat).isSome = false from rfl]
          go_wp2_with fail
          go_loopw [13] (fun v13 wr => ∃ i : Nat, i ≤ l.length ∧ v13 = .int .i64 i ∧ wr = w7) (fun v13 _ => l.length - (intOf v13).toNat)
          case atStart => exact ⟨0, by omega, rfl, rfl⟩
          case round =>
            obtain ⟨i, hi, rfl, hw⟩ := hrel
            subst hw
            by_cases hin : i < l.length
            · have hi64 : IntKind.i64.wrap ((i : Int) + 1) = (i : Int) + 1 := i64w (by omega) (by omega)
              have hii : (i : Int) < (l.length : Int) := by omega
              obtain ⟨aR, hAR, x0⟩ := Kd.at_int HR7.out (i : Int) (by omega) (by omega)
              rw [Int.toNat_natCast] at x0
              subst hAR
              have hne := HNO.out i hin
              generalize rd l (i : Int) = y at x0 hne
              have hbe : (y == (n0 : Int)) = false := beq_eq_false_iff_ne.2 hne
              go_wp2
              exact ⟨⟨i + 1, by omega, by go_num, by first | rfl | trivial⟩, by simp [intOf]; omega⟩
            · obtain rfl : i = l.length := by omega
              go_wp2
              go_ret
              exact ⟨rfl, HB7.out⟩
      · rw [if_neg hn, decide_eq_false hn] at HRK
        have dn : ∀ a b : Bool, (a = decide (n ≥ 0)) → (b = decide (n < (l.length : Int))) → a = true → b = false := fun a b h1 h2 h3 => by
          rw [h2]
          refine decide_eq_false (fun h4 => hn ⟨?_, h4⟩)
          rw [h1] at h3
          exact of_decide_eq_true h3
        by_cases h0 : 0 ≤ n
        · have h1 : ¬ n < (l.length : Int) := fun h => hn ⟨h0, h⟩
          clear hn dn
          go_wp2_with fail
          refine HRK.out.mono ?_
          rintro e w5 ⟨rfl, hb⟩
          have HB5 := Aside0.mk (below_then HB4.out HB4.out.size hb)
          have HR5 := Aside0.mk (Kd.C_below HR4.out hb)
          have t0 := pw_cell_below hb s0
          have t1 := pw_cell_below hb s1
          clear hb HB4 HR4 s0 s1 HRK
          have HNN := Aside0.mk (number_c s A c l n w5 HR5.out hc (by omega))
          cases hq : posI l n with
          | some m =>
            obtain ⟨h1, h2, _⟩ := posI_some hq
            rw [hq] at HNN
            have HRM := Aside0.mk (fun (W : World) (hR : Kd.C (Kd.int .i64) W A l.length l) => rank_c s A c l (m : Int) W hR hc)
            rw [if_pos (show 0 ≤ (m : Int) ∧ (m : Int) < l.length by omega), decide_eq_true (show 0 ≤ (m : Int) ∧ (m : Int) < l.length by omega), h2] at HRM
            clear hq h1 h2
            go_wp2_with fail
            refine HNN.out.mono ?_
            rintro e w7 ⟨rfl, hb⟩
            have HB7 := Aside0.mk (below_then HB5.out HB5.out.size hb)
            have HR7 := Aside0.mk (Kd.C_below HR5.out hb)
            have v0 := pw_cell_below hb t0
            have v1 := pw_cell_below hb t1
            clear hb HB5 HR5 t0 t1 HNN
            rw [show ((some m).getD 0 : Nat) = m from rfl, show (some m).isSome = true from rfl]
            go_wp2_with fail
            refine (HRM.out w7 HR7.out).mono ?_
            rintro e w8 ⟨rfl, hb⟩
            have HB8 := Aside0.mk (below_then HB7.out HB7.out.size hb)
            clear hb HB7 HR7 v0 v1 HRM
            go_wp2
            go_ret
            exact ⟨by first | rfl | (simp; done), HB8.out⟩
          | none =>
            have HNO := Aside0.mk (posI_none hq)
            rw [hq] at HNN
            clear hq
            go_wp2_with fail
            refine HNN.out.mono ?_
            rintro e w7 ⟨rfl, hb⟩
            have HB7 := Aside0.mk (below_then HB5.out HB5.out.size hb)
            have HR7 := Aside0.mk (Kd.C_below HR5.out hb)
            have v0 := pw_cell_below hb t0
            have v1 := pw_cell_below hb t1
            clear hb HB5 HR5 t0 t1 HNN
            rw [show (none : Option Nat).isSome = false from rfl]
            go_wp2_with fail
            go_loopw [13] (fun v13 wr => ∃ i : Nat, i ≤ l.length ∧ v13 = .int .i64 i ∧ wr = w7) (fun v13 _ => l.length - (intOf v13).toNat)
            case atStart => exact ⟨0, by omega, rfl, rfl⟩
            case round =>
              obtain ⟨i, hi, rfl, hw⟩ := hrel
              subst hw
              by_cases hin : i < l.length
              · have hi64 : IntKind.i64.wrap ((i : Int) + 1) = (i : Int) + 1 := i64w (by omega) (by omega)
                have hii : (i : Int) < (l.length : Int) := by omega
                obtain ⟨aR, hAR, x0⟩ := Kd.at_int HR7.out (i : Int) (by omega) (by omega)
                rw [Int.toNat_natCast] at x0
                subst hAR
                have hne := HNO.out i hin
                generalize rd l (i : Int) = y at x0 hne
                have hbe : (y == n) = false := beq_eq_false_iff_ne.2 hne
                go_wp2
                exact ⟨⟨i + 1, by omega, by go_num, by first | rfl | trivial⟩, by simp [intOf]; omega⟩
              · obtain rfl : i = l.length := by omega
                go_wp2
                go_ret
                exact ⟨rfl, HB7.out⟩
        · clear hn dn
          go_wp2_with fail
          refine HRK.out.mono ?_
          rintro e w5 ⟨rfl, hb⟩
          have HB5 := Aside0.mk (below_then HB4.out HB4.out.size hb)
          have HR5 := Aside0.mk (Kd.C_below HR4.out hb)
          have t0 := pw_cell_below hb s0
          have t1 := pw_cell_below hb s1
          clear hb HB4 HR4 s0 s1 HRK
          have HNN := Aside0.mk (number_c s A c l n w5 HR5.out hc (by omega))
          cases hq : posI l n with
          | some m =>
            obtain ⟨h1, h2, _⟩ := posI_some hq
            rw [hq] at HNN
            have HRM := Aside0.mk (fun (W : World) (hR : Kd.C (Kd.int .i64) W A l.length l) => rank_c s A c l (m : Int) W hR hc)
            rw [if_pos (show 0 ≤ (m : Int) ∧ (m : Int) < l.length by omega), decide_eq_true (show 0 ≤ (m : Int) ∧ (m : Int) < l.length by omega), h2] at HRM
            clear hq h1 h2
            go_wp2_with fail
            refine HNN.out.mono ?_
            rintro e w7 ⟨rfl, hb⟩
            have HB7 := Aside0.mk (below_then HB5.out HB5.out.size hb)
            have HR7 := Aside0.mk (Kd.C_below HR5.out hb)
            have v0 := pw_cell_below hb t0
            have v1 := pw_cell_below hb t1
            clear hb HB5 HR5 t0 t1 HNN
            rw [show ((some m).getD 0 : Nat) = m from rfl, show (some m).isSome = true from rfl]
            go_wp2_with fail
            refine (HRM.out w7 HR7.out).mono ?_
            rintro e w8 ⟨rfl, hb⟩
            have HB8 := Aside0.mk (below_then HB7.out HB7.out.size hb)
            clear hb HB7 HR7 v0 v1 HRM
            go_wp2
            go_ret
            exact ⟨by first | rfl | (simp; done), HB8.out⟩
          | none =>
            have HNO := Aside0.mk (posI_none hq)
            rw [hq] at HNN
            clear hq
            go_wp2_with fail
            refine HNN.out.mono ?_
            rintro e w7 ⟨rfl, hb⟩
            have HB7 := Aside0.mk (below_then HB5.out HB5.out.size hb)
            have HR7 := Aside0.mk (Kd.C_below HR5.out hb)
            have v0 := pw_cell_below hb t0
            have v1 := pw_cell_below hb t1
            clear hb HB5 HR5 t0 t1 HNN
            rw [show (none : Option Nat).isSome = false from rfl]
            go_wp2_with fail
            go_loopw [13] (fun v13 wr => ∃ i : Nat, i ≤ l.length ∧ v13 = .int .i64 i ∧ wr = w7) (fun v13 _ => l.length - (intOf v13).toNat)
            case atStart => exact ⟨0, by omega, rfl, rfl⟩
            case round =>
              obtain ⟨i, hi, rfl, hw⟩ := hrel
              subst hw
              by_cases hin : i < l.length
              · have hi64 : IntKind.i64.wrap ((i : Int) + 1) = (i : Int) + 1 := i64w (by omega) (by omega)
                have hii : (i : Int) < (l.length : Int) := by omega
                obtain ⟨aR, hAR, x0⟩ := Kd.at_int HR7.out (i : Int) (by omega) (by omega)
                rw [Int.toNat_natCast] at x0
                subst hAR
                have hne := HNO.out i hin
                generalize rd l (i : Int) = y at x0 hne
                have hbe : (y == n) = false := beq_eq_false_iff_ne.2 hne
                go_wp2
                exact ⟨⟨i + 1, by omega, by go_num, by first | rfl | trivial⟩, by simp [intOf]; omega⟩
              · obtain rfl : i = l.length := by omega
                go_wp2
                go_ret
                exact ⟨rfl, HB7.out⟩
end Go.Proofs.YtkifmhfgplhabaaDoor.HQ

namespace Go.Proofs.YtkifmhfgplhabaaDoor.HQ
open Go.Proofs.YtkifmhfgplhabaaDoor.HU Go.RowKit Go.Proofs.YtkifmhfgplhabaaDoor.HK Go.Proofs.YtkifmhfgplhabaaDoor.HP Go.Proofs.YtkifmhfgplhabaaDoorW.PrintWords Go.Proofs.YtkifmhfgplhabaaDoorW.PrintLast Go.Proofs.YtkifmhfgplhabaaDoorW.PrintMore
set_option linter.unusedVariables false
set_option linter.unusedSimpArgs false
def oneA (c q : Int) (n : Nat) : List Ask_ := List.replicate n ⟨c, q⟩
def oneF (c q : Int) (r : Int) : Asd := ⟨⟨c, q⟩, r⟩
theorem one_pick {c q : Int} (h : 0 ≤ c) (l : List Int) : ∀ i, i ≤ l.length → pick (oneA c q l.length) l i = (l.take i).map (oneF c q) := by
  intro i
  induction i with
  | zero => intro _; simp [pick]
  | succ i ih =>
    intro hi
    have h1 : i < (oneA c q l.length).length := by simp [oneA]; omega
    have h2 : (oneA c q l.length)[i] = ⟨c, q⟩ := by simp [oneA]
    rw [pick_succ h1 (by omega), ih (by omega), h2, if_pos h, List.take_succ_eq_append_getElem (by omega), List.map_append]
    rfl
theorem none_pick {c q : Int} (h : ¬ 0 ≤ c) (l : List Int) : ∀ i, i ≤ l.length → pick (oneA c q l.length) l i = [] := by
  intro i
  induction i with
  | zero => intro _; simp [pick]
  | succ i ih =>
    intro hi
    have h1 : i < (oneA c q l.length).length := by simp [oneA]; omega
    have h2 : (oneA c q l.length)[i] = ⟨c, q⟩ := by simp [oneA]
    rw [pick_succ h1 (by omega), ih (by omega), h2, if_neg h]
    rfl
theorem isort_id : ∀ l : List HS.El, l.Pairwise (fun a b => HS.ltI a b = true) → HS.isort l = l
  | [], _ => rfl
  | x :: t, h => by
    have h1 := List.pairwise_cons.1 h
    unfold HS.isort
    rw [isort_id t h1.2]
    cases t with
    | nil => rfl
    | cons y t =>
      unfold HS.ins1
      rw [if_pos (h1.1 y (by simp))]
theorem els_back (xs : List Asd) : (HS.els xs).map HS.ofEl = xs := by
  unfold HS.els
  rw [List.map_map]
  have : (HS.ofEl ∘ fun p : Asd × Nat => HS.toEl p.1 p.2) = Prod.fst := by
    funext p
    rfl
  rw [this]
  refine List.ext_getElem (by simp) (fun i h1 h2 => by simp)
theorem one_sort (c q : Int) (l : List Int) : HS.sortA (l.map (oneF c q)) = l.map (oneF c q) := by
  unfold HS.sortA
  rw [isort_id _ (List.pairwise_iff_getElem.2 (fun i j hi hj hij => ?_)), els_back]
  rw [HS.els_len] at hi hj
  rw [HS.els_get hi, HS.els_get hj, HS.ltI_true]
  rw [List.getElem_map, List.getElem_map]
  exact .inr ⟨rfl, .inr ⟨rfl, .inl hij⟩⟩
theorem one_getD {c q : Int} {l : List Int} {i : Nat} (hi : i < l.length) : (l.map (oneF c q)).getD i z67 = oneF c q l[i] := by simp [List.getD, hi]
theorem one_grps (s : ByteArray) (k c q : Int) (l : List Int) : ∀ i, i + 1 ≤ l.length → grps s k (l.map (oneF c q)) (i + 1) = [⟨keyG s k c, l.take (i + 1)⟩] := by
  intro i
  induction i with
  | zero =>
    intro hi
    show addR _ (if newG _ 0 then _ else _) = _
    have h0 : 0 < l.length := by omega
    rw [if_pos (.inl rfl), one_getD h0, List.take_succ_eq_append_getElem h0]
    rfl
  | succ i ih =>
    intro hi
    show addR _ (if newG _ (i + 1) then _ else _) = _
    have hn : ¬ newG (l.map (oneF c q)) (i + 1) := by
      rintro (h | h)
      · omega
      · have h1 : i < l.length := by omega
        have h2 : i + 1 < l.length := by omega
        rw [Nat.add_sub_cancel, one_getD h1, one_getD h2] at h
        exact h rfl
    rw [if_neg hn, ih (by omega), one_getD (by omega), List.take_succ_eq_append_getElem (i := i + 1) (by omega)]
    rfl
theorem split_one (s : ByteArray) (k c q : Int) (l : List Int) (hl : 0 < l.length) : splitG s k l (oneA c q l.length) = if c < 0 then [] else [⟨keyG s k c, l⟩] := by
  have hn : (oneA c q l.length).length = l.length := by simp [oneA]
  unfold splitG
  rw [hn]
  by_cases h : 0 ≤ c
  · rw [if_neg (by omega), one_pick h l l.length (Nat.le_refl _), List.take_length, one_sort, List.length_map]
    obtain ⟨m, hm⟩ : ∃ m, l.length = m + 1 := ⟨l.length - 1, by omega⟩
    rw [hm, one_grps s k c q l m (by omega), ← hm, List.take_length]
  · rw [if_pos (by omega), none_pick h l l.length (Nat.le_refl _)]
    rfl
end Go.Proofs.YtkifmhfgplhabaaDoor.HQ

namespace Go.Proofs.YtkifmhfgplhabaaDoor.HQ
open Go.Proofs.YtkifmhfgplhabaaDoor.HU Go.RowKit Go.Proofs.YtkifmhfgplhabaaDoor.HK Go.Proofs.YtkifmhfgplhabaaDoor.HP Go.Proofs.YtkifmhfgplhabaaDoorW.PrintWords Go.Proofs.YtkifmhfgplhabaaDoorW.PrintLast Go.Proofs.YtkifmhfgplhabaaDoorW.PrintMore
set_option linter.unusedVariables false
set_option linter.unusedSimpArgs false
theorem infoK : (Tryd.prog.info? 40).map (fun i => (i.zero, i.size, i.bytes)) = some (some (.agg #[.int .i64 0, .int .i64 0]), 2, 16) := by kernel_rfl
theorem ints_same_loop (a : List Int) (hl : a.length ≤ maxLen) : ∀ n i, n = a.length - i → i ≤ a.length → Ev (fun k => Qgnbase.dispatcherref11_Ints.l0 k a a (i : Int)) true := by
  have hM : maxLen = 9223372036854775807 := rfl
  intro n
  induction n with
  | zero =>
    intro i hn hi
    refine Ev.round ?_ (fun k => by simp only [Qgnbase.dispatcherref11_Ints.l0]; rfl)
    exact Ev.neg (by omega) (Ev.const rfl)
  | succ n ih =>
    intro i hn hi
    refine Ev.round ?_ (fun k => by simp only [Qgnbase.dispatcherref11_Ints.l0]; rfl)
    refine Ev.pos (by omega) ?_
    refine Ev.pos (by omega) ?_
    refine Ev.pos (by omega) ?_
    refine Ev.pos trivial ?_
    rw [wrap64_nat i (by omega)]
    exact ih (i + 1) (by omega) (by omega)
theorem ints_c (A : Option Addr) (c : Nat) (A2 : Option Addr) (c2 : Nat) (a : List Int) (w : World) (hr : Kd.C (Kd.int .i64) w A a.length a) (hc : a.length ≤ c) (hr2 : Kd.C (Kd.int .i64) w A2 a.length a) (hc2 : a.length ≤ c2) :
    Calls Tryd.prog 18 #[.slice A a.length c, .slice A2 a.length c2] w fun e w' => e = .returned (.bool true) ∧ Below w.heap.size w w' := by
  obtain ⟨K, hK⟩ := (ints_same_loop a (Kd.C_max hr) a.length 0 rfl (Nat.zero_le _)).rounds
  refine (Qgnbase.dispatcherref11_Ints.calls K A c a A2 c2 a true w hr hc hr2 hc2 (by unfold Qgnbase.dispatcherref11_Ints.f; first | exact hK | (rw [if_pos rfl]; exact hK) | (rw [if_neg (by simp)]; exact hK))).mono ?_
  rintro e w' ⟨rfl, hd⟩
  exact ⟨rfl, by first | exact hd | exact hd.below⟩
set_option maxRecDepth 100000 in
set_option maxHeartbeats 8000000 in
theorem one_c (s : ByteArray) (A : Option Addr) (c : Nat) (l : List Int) (k color key : Int) (w : World) (hr : Kd.C (Kd.int .i64) w A l.length l) (hc : l.length ≤ c) (hk : Rng k) (hco : Rng color) (hke : Rng key) (ht : Tab w) :
    Calls Tryd.prog 4 #[.agg #[.string s, .slice A l.length c], .int .i64 k, .int .i64 color, .int .i64 key] w fun e w' => e = .returned (.bool true) ∧ Below w.heap.size w w' := by
  have b0 := blk_new w (.cells #[.string s, .slice A l.length c] 24)
  have hba := below_alloc (Below.refl w.heap.size w) (.cells #[.string s, .slice A l.length c] 24)
  have HB0 := Aside0.mk hba
  have HT0 := Aside0.mk (ht.after hba)
  have HR0 := Aside0.mk (Kd.C_below hr hba)
  have p0 : (w.alloc (.cells #[.string s, .slice A l.length c] 24)).cell? ⟨w.heap.size, 0, none⟩ = some (.string s) := (blk_cell b0 0).trans rfl
  have p1 : (w.alloc (.cells #[.string s, .slice A l.length c] 24)).cell? ⟨w.heap.size, 1, none⟩ = some (.slice A l.length c) := (blk_cell b0 1).trans rfl
  clear hr ht hba b0
  go_enter Tryd.func4, Tryd.ntmps4
  go_wp2_with fail
  generalize (w.alloc (.cells #[.string s, .slice A l.length c] 24)) = w1 at p0 p1 HB0 HT0 HR0 ⊢
  refine (awake_c w1 HT0.out).mono ?_
  rintro e w2 ⟨rfl, hb⟩
  have HB2 := Aside0.mk (below_then HB0.out HB0.out.size hb)
  have HR2 := Aside0.mk (Kd.C_below HR0.out hb)
  have HT2 := Aside0.mk (HT0.out.after hb)
  have q0 := pw_cell_below hb p0
  have q1 := pw_cell_below hb p1
  clear hb HB0 HT0 HR0 p0 p1
  go_wp2_with fail
  refine (great_c s A c l w2 HR2.out hc).mono ?_
  rintro e w3 ⟨rfl, hb⟩
  have HB3 := Aside0.mk (below_then HB2.out HB2.out.size hb)
  have HR3 := Aside0.mk (Kd.C_below HR2.out hb)
  have HT3 := Aside0.mk (HT2.out.after hb)
  have r0 := pw_cell_below hb q0
  have r1 := pw_cell_below hb q1
  clear hb HB2 HR2 HT2 q0 q1
  by_cases hg : 80 < l.length ∨ 200 < s.size
  · have dg : decide (80 < l.length ∨ 200 < s.size) = true := decide_eq_true hg
    rw [dg]
    clear hg dg
    go_wp2
    go_ret
    exact ⟨rfl, HB3.out⟩
  · have dg : decide (80 < l.length ∨ 200 < s.size) = false := decide_eq_false hg
    rw [dg]
    have hl80 : l.length ≤ 80 := by omega
    have hs200 : s.size ≤ 200 := by omega
    clear hg dg
    go_wp2_with fail
    refine (may_c s A c l w3 HR3.out hc).mono ?_
    rintro e w4 ⟨rfl, hb⟩
    have HB4 := Aside0.mk (below_then HB3.out HB3.out.size hb)
    have HR4 := Aside0.mk (Kd.C_below HR3.out hb)
    have HT4 := Aside0.mk (HT3.out.after hb)
    have s0 := pw_cell_below hb r0
    have s1 := pw_cell_below hb r1
    clear hb HB3 HR3 HT3 r0 r1
    cases hm : mayB l with
    | false =>
      go_wp2
      go_ret
      exact ⟨rfl, HB4.out⟩
    | true =>
      have hmay : MayG l := of_decide_eq_true hm
      have hl0 := hmay.1
      have HM := Aside0.mk hm
      clear hm hmay
      by_cases hk0 : k < 0
      · go_wp2
        go_ret
        exact ⟨rfl, HB4.out⟩
      · have hnk : 0 ≤ k := by omega
        go_wp2_with fail
        go_loopw [9, 10] (fun v9 v10 wr => ∃ i : Nat, i ≤ l.length ∧ v10 = .int .i64 i ∧ Aside0 (Kd.R k40 40 wr w4.heap.size (fun _ => True) v9 (oneA color key i)) ∧ Aside0 (Below w4.heap.size w4 wr)) (fun _ v10 _ => l.length - (intOf v10).toNat)
        case atStart => exact ⟨0, by omega, rfl, ⟨Kd.R_nil _ _ _ _ _⟩, ⟨Below.refl _ _⟩⟩
        case round =>
          obtain ⟨i, hi, rfl, HO, HL⟩ := hrel
          obtain ⟨w5, rfl⟩ : ∃ w5 : World, w5 = wr := ⟨_, rfl⟩
          have t0 := pw_cell_below HL.out s0
          have t1 := pw_cell_below HL.out s1
          by_cases hin : i < l.length
          · have hi64 : IntKind.i64.wrap ((i : Int) + 1) = (i : Int) + 1 := i64w (by omega) (by omega)
            have hii : (i : Int) < (l.length : Int) := by omega
            have hln : (oneA color key i).length = i := by simp [oneA]
            have hz : w4.heap.size ≤ w5.heap.size := HL.out.size
            have hl16 : ((oneA color key i).length + 1) * 16 ≤ 140737488355328 := by rw [hln]; omega
            have HSN := Aside0.mk (show oneA color key (i + 1) = oneA color key i ++ [⟨color, key⟩] by unfold oneA; rw [List.replicate_succ'])
            clear hln
            generalize oneA color key i = ps at HO HSN hl16
            go_wp2_with (at_builtin; refine Kd.R_append k40 (w0 := w4) w4.heap.size rfl (.tmp 35) (.tmp 39) 25 40 (.agg #[.int .i64 0, .int .i64 0]) 16 rfl Tryd.underlying25 infoK rfl (by decide) (by omega) u9 ps (⟨color, key⟩ : Ask_) [.int .i64 color, .int .i64 key] (fun _ => True) (fun _ => False) rfl rfl (k40_mkM _ _ _ _) (fun _ h => h.elim) (fun _ _ => trivial) HO.out HL.out hz hl16 ?_; intro v1 w6 ho hbl hgr hat; rw [← HSN.out] at ho; have HO6 := Aside0.mk ho; have HL6 := Aside0.mk hbl; clear ho hbl hgr hat)
            exact ⟨⟨i + 1, by omega, by go_num, HO6, HL6⟩, by simp [intOf]; omega⟩
          · obtain rfl : i = l.length := by omega
            obtain ⟨Aq, cq, hvq, hcq, hCq⟩ := Kd.R_reads HO.out
            subst hvq
            have hln : (oneA color key l.length).length = l.length := by simp [oneA]
            have HSP := Aside0.mk (split_c s A c l k Aq cq (oneA color key l.length) w5 (Kd.C_below HR4.out HL.out) hc hCq hcq (HT4.out.after HL.out) (by omega) HM.out hnk hk (fun x hx => by unfold oneA at hx; rw [(List.mem_replicate.1 hx).2]; exact hco) hln hl80)
            rw [split_one s k color key l hl0, hln] at HSP
            have HB5 := Aside0.mk (below_then HB4.out HB4.out.size HL.out)
            have HR5 := Aside0.mk (Kd.C_below HR4.out HL.out)
            have HT5 := Aside0.mk (HT4.out.after HL.out)
            rw [hln] at hcq ⊢
            clear HO HL hCq hln s0 s1 HR4 HT4
            go_wp2_with fail
            refine HSP.out.mono ?_
            rintro e w6 ⟨Av, cv, rfl, hcv, hCv, hb⟩
            have HB6 := Aside0.mk (below_then HB5.out HB5.out.size hb)
            have HR6 := Aside0.mk (Kd.C_below HR5.out hb)
            have HT6 := Aside0.mk (HT5.out.after hb)
            have u0 := pw_cell_below hb t0
            have u1 := pw_cell_below hb t1
            have HDP := Aside0.mk (dup_c s A c l k w6 HR6.out hc HT6.out (by omega) HM.out hnk hk (by omega))
            clear hb HSP HB5 HR5 HT5 t0 t1
            by_cases hc0 : color < 0
            · rw [if_pos hc0] at hcv hCv
              rw [if_pos hc0]
              clear hcv hCv
              go_wp2_with fail
              refine HDP.out.mono ?_
              rintro e w7 ⟨u, rfl, hR, hb⟩
              obtain ⟨A7, c7, rfl, hc7, hC7⟩ := Kd.R_reads hR
              have hba := below_alloc (Below.refl w7.heap.size w7) (.cells #[.string (childB s k), .slice A7 l.length c7] 24)
              have b8 := blk_new w7 (.cells #[.string (childB s k), .slice A7 l.length c7] 24)
              have d1 : (w7.alloc (.cells #[.string (childB s k), .slice A7 l.length c7] 24)).cell? ⟨w7.heap.size, 1, none⟩ = some (.slice A7 l.length c7) := (blk_cell b8 1).trans rfl
              have HB8 := Aside0.mk (below_then (below_then HB6.out HB6.out.size hb) (Nat.le_trans HB6.out.size hb.size) hba)
              have HR8 := Aside0.mk (Kd.C_below (Kd.C_below HR6.out hb) hba)
              have HD8 := Aside0.mk (Kd.C_below hC7 hba)
              have v0 := pw_cell_below hba (pw_cell_below hb u0)
              have v1 := pw_cell_below hba (pw_cell_below hb u1)
              have hb0 := Aside0.mk hb
              have hba0 := Aside0.mk hba
              clear hb hba b8 hR hC7 HB6 HR6 HT6 HDP u0 u1
              go_upto_region 12 with fail
              generalize w7.alloc (.cells #[.string (childB s k), .slice A7 l.length c7] 24) = w8 at HB8 HR8 HD8 v0 v1 d1 hba0 ⊢
              go_wp2_with fail
              refine (ints_c A7 c7 A c l w8 HD8.out hc7 HR8.out hc).mono ?_
              rintro e w9 ⟨rfl, hb⟩
              have HB9 := Aside0.mk (below_then HB8.out HB8.out.size hb)
              clear hb HB8 HR8 HD8
              go_wp2
              go_ret
              exact ⟨rfl, HB9.out⟩
            · rw [if_neg hc0] at hcv hCv
              rw [if_neg hc0]
              have HCV := Aside0.mk hCv
              clear hCv
              go_wp2_with fail
              refine HDP.out.mono ?_
              rintro e w7 ⟨u, rfl, hR, hb⟩
              obtain ⟨A7, c7, rfl, hc7, hC7⟩ := Kd.R_reads hR
              have hba := below_alloc (Below.refl w7.heap.size w7) (.cells #[.string (childB s k), .slice A7 l.length c7] 24)
              have b8 := blk_new w7 (.cells #[.string (childB s k), .slice A7 l.length c7] 24)
              have d1 : (w7.alloc (.cells #[.string (childB s k), .slice A7 l.length c7] 24)).cell? ⟨w7.heap.size, 1, none⟩ = some (.slice A7 l.length c7) := (blk_cell b8 1).trans rfl
              have HB8 := Aside0.mk (below_then (below_then HB6.out HB6.out.size hb) (Nat.le_trans HB6.out.size hb.size) hba)
              have HR8 := Aside0.mk (Kd.C_below (Kd.C_below HR6.out hb) hba)
              have HD8 := Aside0.mk (Kd.C_below hC7 hba)
              have v0 := pw_cell_below hba (pw_cell_below hb u0)
              have v1 := pw_cell_below hba (pw_cell_below hb u1)
              have hb0 := Aside0.mk hb
              have hba0 := Aside0.mk hba
              clear hb hba b8 hR hC7 HB6 HR6 HT6 HDP u0 u1
              go_upto_region 12 with fail
              generalize w7.alloc (.cells #[.string (childB s k), .slice A7 l.length c7] 24) = w8 at HB8 HR8 HD8 v0 v1 d1 hba0 ⊢
              have HCV8 := Aside0.mk (Kd.C_below (Kd.C_below HCV.out hb0.out) hba0.out)
              clear HCV
              go_wp2_with fail
              refine (ints_c A7 c7 A c l w8 HD8.out hc7 HR8.out hc).mono ?_
              rintro e w9 ⟨rfl, hb⟩
              have HB9 := Aside0.mk (below_then HB8.out HB8.out.size hb)
              have HR9 := Aside0.mk (Kd.C_below HR8.out hb)
              have y0 := pw_cell_below hb v0
              have y1 := pw_cell_below hb v1
              obtain ⟨aV, B0, cB0, hAV, k0, k1, hcB0, HCB0⟩ := at_T24 (Kd.C_below HCV8.out hb) (0 : Int) (by decide) (by show (0 : Int) < 1; decide)
              subst hAV
              replace k1 : w9.cell? ⟨(aV.add 0).block, (aV.add 0).off + 1, none⟩ = some (.slice B0 l.length cB0) := k1
              rw [Addr.add_zero'] at k1
              have hcB : l.length ≤ cB0 := hcB0
              have HCB : Aside0 (Kd.C (Kd.int .i64) w9 B0 l.length l) := ⟨HCB0⟩
              clear hb HB8 HR8 HD8 v0 v1 k0 hcB0 HCB0 HCV8
              have HIN := Aside0.mk (ints_c B0 cB0 A c l w9.drew (Kd.C_below HCB.out (below_drew (Below.refl _ _))) hcB (Kd.C_below HR9.out (below_drew (Below.refl _ _))) hc)
              clear HCB HR9 hcB hcv
              go_wp2_with fail
              go_region_held3 (fun W => W.cell? ⟨aV.block, aV.off + 1, none⟩ = some (.slice B0 l.length cB0) ∧ W.cell? ⟨w.heap.size, 1, none⟩ = some (.slice A l.length c))
                (first | exact ⟨k3, y3⟩ | exact ⟨k1, y1⟩)
                (first | (go_at_call 18; with_reducible refine HIN.out.mono ?_; rintro e w10 ⟨rfl, hb⟩; have HB10 := Aside0.mk (below_then HB9.out HB9.out.size (below_of_drew hb)); have k3 := pw_cell_below (below_of_drew hb) k1; have y3 := pw_cell_below (below_of_drew hb) y1; clear hb))
              all_goals (
                go_wp2
                go_ret
                exact ⟨rfl, HB10.out⟩)
end Go.Proofs.YtkifmhfgplhabaaDoor.HQ

namespace Go.Proofs.YtkifmhfgplhabaaDoor.groupOne
open Go.ChangeShapes Go.WideShapes Go.ChangeAt Go.RowKit Go.Joins
open Go.ChangeMaps (open_string shut_string)
set_option linter.unusedVariables false
theorem own : ownKnob Tryd.prog.godebug = none := by kernel_rfl
theorem laidOut : laidOutB Tryd.prog = true := by kernel_rfl
theorem cellsG : Tryd.prog.cellsOf 24 = 2 := by kernel_rfl
set_option maxRecDepth 100000 in
theorem lifted (os : Os) (started : os.Started) (H : Type) (enc : TypeId × Value → H) :
    ReturnsInHanded {} Tryd.checked os 4 .any (fun w args => (Rows.groupOneSpec.pre enc Tryd.prog Tryd.f4 [] false w args ∧ laidMetH Tryd.prog HR.laid3 w) ∧ sizedMet enc Tryd.prog Tryd.f4 (OpenSpec.ofChange Rows.groupOneSpec) false w args)
      (Rows.groupOneSpec.post enc Tryd.prog Tryd.f4 false true false false) := by
  refine returnsInHanded_of_change_and (C := Tryd.checked) (X := fun w _ => laidMetH Tryd.prog HR.laid3 w) (fun _ _ _ hh h => h.of_heap hh) own started (by kernel_rfl) Tryd.func4
    (ChangeSpec.witness_shaped (enc := enc) (C := Tryd.checked) (os := os) (X := fun w _ => laidMetH Tryd.prog HR.laid3 w) false (World.doorLaid Tryd.prog 24 os) #[.agg #[.string ⟨#[]⟩, .slice none 0 0], .int .i64 0, .int .i64 0, .int .i64 0] 8 rfl (World.shaped_of_RefB (by kernel_rfl) (by kernel_rfl)) (by kernel_rfl) (by kernel_rfl) (by kernel_rfl) (HR.door_met os _)) ?_
  intro W base args ds gs before hval0 hW _ _ hL _
  have hval : ∀ (j : Nat) t v, Tryd.f4.params[j]? = some t → args[j]? = some v → Value.okWide Tryd.prog W .any base t v := hval0
  have hW' := hW
  obtain ⟨p, q, hA0, hV, rfl, hfz, hnd⟩ := hW
  have hA : DataW.TrodAll enc Tryd.prog W 0 (fun _ => true) true Tryd.f4.params.toList args.toList ds p := hA0
  rw [Tryd.params4] at hA hval
  obtain ⟨v0, vs0, d0, ds0, p0, q0, hargs, rfl, rfl, h0, r0⟩ := trodAll_cons hA
  obtain ⟨v1, vs1, d1, ds1, p1, q1, rfl, rfl, rfl, h1, r1⟩ := trodAll_cons r0
  obtain ⟨v2, vs2, d2, ds2, p2, q2, rfl, rfl, rfl, h2, r2⟩ := trodAll_cons r1
  obtain ⟨v3, vs3, d3, ds3, p3, q3, rfl, rfl, rfl, h3, r3⟩ := trodAll_cons r2
  obtain ⟨rfl, rfl, rfl⟩ := trodAll_nil r3
  obtain rfl : args = #[v0, v1, v2, v3] := by cases args; simp_all
  obtain ⟨rfl, rfl⟩ := trodVars_none hV
  have k0 := h0
  have lt0 : ∀ x ∈ p0, x.block < W.heap.size := by obtain ⟨m, hm⟩ := k0; exact DataW.trod_lt m _ _ _ hm
  obtain ⟨c00, c10, y00, y10, m0, rfl, rfl, rfl, hy00, hy10⟩ := open_agg2 Tryd.underlying24 (by kernel_rfl) cellsG (hval 0 24 v0 rfl rfl) h0
  obtain ⟨s0, hs10, hs20, hs30⟩ := DataW.trod_string Tryd.underlying9 hy00
  obtain rfl : c00 = .string s0 := by simpa using hs10
  obtain ⟨a0, cc0, ys0, hs40, hyc0, hyr0⟩ := HR.open_ints_kd hy10
  obtain rfl : c10 = .slice a0 ys0.length cc0 := by simpa using hs40
  have k1 := h1
  have lt1 : ∀ x ∈ p1, x.block < W.heap.size := by obtain ⟨m, hm⟩ := k1; exact DataW.trod_lt m _ _ _ hm
  obtain ⟨n1, rfl, _, _, w1⟩ := open_int Tryd.underlying3 (hval 1 3 v1 rfl rfl) h1
  have k2 := h2
  have lt2 : ∀ x ∈ p2, x.block < W.heap.size := by obtain ⟨m, hm⟩ := k2; exact DataW.trod_lt m _ _ _ hm
  obtain ⟨n2, rfl, _, _, w2⟩ := open_int Tryd.underlying3 (hval 2 3 v2 rfl rfl) h2
  have k3 := h3
  have lt3 : ∀ x ∈ p3, x.block < W.heap.size := by obtain ⟨m, hm⟩ := k3; exact DataW.trod_lt m _ _ _ hm
  obtain ⟨n3, rfl, _, _, w3⟩ := open_int Tryd.underlying3 (hval 3 3 v3 rfl rfl) h3
  have hT := HR.tab_of_laid hL
  clear hA0 hval0 hL
  refine (HQ.one_c s0 a0 cc0 ys0 n1 n2 n3 W hyr0 hyc0 (HR.rng_of w1) (HR.rng_of w2) (HR.rng_of w3) hT).mono fun e W' ⟨he, bel⟩ => ?_
  subst he
  exact ⟨_, rfl, _, _, _, [], _, [], hW', trodAll_mk1 (shut_bool Tryd.underlying4 _), (trodAll_cons_mk (Below.trod laidOut (by kernel_rfl) (of_decide_eq_true (by kernel_rfl)) k0 bel lt0) (trodAll_cons_mk (Below.trod laidOut (by kernel_rfl) (of_decide_eq_true (by kernel_rfl)) k1 bel lt1) (trodAll_cons_mk (Below.trod laidOut (by kernel_rfl) (of_decide_eq_true (by kernel_rfl)) k2 bel lt2) (trodAll_cons_mk (Below.trod laidOut (by kernel_rfl) (of_decide_eq_true (by kernel_rfl)) k3 bel lt3) trodAll_mk0)))), rfl, bel.frame _, fun h => by cases h⟩
theorem proved : Rows.GroupOneSaid :=
  OpenClaim.holds_of_wide 4 Tryd.f4 rfl rfl rfl rfl rfl rfl rfl ⟨rfl, rfl, rfl, rfl, rfl⟩ rfl rfl rfl rfl rfl (by kernel_rfl) Tryd.func4 (by kernel_rfl)
    (of_decide_eq_true (by kernel_rfl)) (by unfold Func.isWrapper; first | (rw [if_pos (by decide +kernel)]; kernel_rfl) | (rw [if_neg (by decide +kernel)]; exact ⟨rfl, rfl⟩))
    (fun os started H enc _ => lifted os started H enc)
theorem whole : Rows.GroupOneCardSaid :=
  Claim7.holds_tied_plain_at .later [] [.data, .data, .data] true Rows.groupOneCard.stood.harness Rows.groupOneCard.stood.looks
    proved (fun _ h => by cases h) (by kernel_rfl) (fun _ h => by cases h) groupOne_row_tie rfl ⟨rfl, rfl⟩ (by kernel_rfl) rfl
    (fun f fn hf hfn => by
      obtain rfl : f = 4 := Option.some.inj ((show Tryd.prog.funcNamed "dispatcher/dispatcherlaw11.GroupOne" = some 4 by kernel_rfl).symm.trans hf) |>.symm
      obtain rfl : fn = Tryd.f4 := (Option.some.inj (Tryd.func4.symm.trans hfn)).symm
      exact ⟨by kernel_rfl, fun j t ht => by
        rw [Tryd.params4] at ht
        have hm : t ∈ [24, 3, 3, 3] := by simpa using Array.mem_of_getElem? ht
        have hall : ([24, 3, 3, 3].all fun u => !Tryd.prog.wantsStandIn u) = true := by kernel_rfl
        exact (show Tryd.prog.wantsStandIn t = false by simpa using List.all_eq_true.1 hall t hm)⟩)
    (by kernel_rfl)
end Go.Proofs.YtkifmhfgplhabaaDoor.groupOne
namespace Go.Proofs.YtkifmhfgplhabaaDoor
/-- The card, under a short name, for the claim. -/
theorem groupOne_holds : Rows.GroupOneCardSaid := groupOne.whole
end Go.Proofs.YtkifmhfgplhabaaDoor
