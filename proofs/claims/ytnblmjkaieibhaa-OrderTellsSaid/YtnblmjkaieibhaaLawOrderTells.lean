/- OrderTells: whatever comes in, the law answers true, and what came in reads as it did. No condition. -/
import Derived.Test.YtnblmjkaieibhaaHW
import Derived.ProofKit
import Derived.OpenShut
import Derived.ShutString
import Derived.ChangeOld
import Derived.SizedLaws
import Derived.Lib.SmallJoins
import Derived.Deep.Slices
import Derived.Test.YtnblmjkaieibhaaHK
import Derived.Deep.Strs
import Derived.Test.YtnblmjkaieibhaaOaB
import Derived.Test.YtnblmjkaieibhaaRows
import Derived.WalkKit
import Derived.Below
namespace Go.Proofs.Ytnblmjkaieibhaa.HR
open Go.RowKit Go.Joins Go.ChangeShapes Go.WideShapes Go.Deep Go.Proofs.YtnblmjkaieibhaaW.PrintWords Go.Proofs.YtnblmjkaieibhaaW.PrintLast Go.Proofs.YtnblmjkaieibhaaW.PrintMore
set_option linter.unusedVariables false
section
variable {H : Type} {enc : TypeId × Value → H} {P : Program} {w : World} {sp : Nat → Bool} {held : Bool}
theorem choose_below {α : Type} {p : Nat → α → Prop} : ∀ m, (∀ i, i < m → ∃ x, p i x) → ∃ xs : List α, xs.length = m ∧ ∀ i x, xs[i]? = some x → p i x
  | 0, _ => ⟨[], rfl, fun i x h => by simp at h⟩
  | m + 1, h => by
    obtain ⟨xs, hl, hx⟩ := choose_below m (fun i hi => h i (by omega))
    obtain ⟨x, hp⟩ := h m (by omega)
    refine ⟨xs ++ [x], by simp [hl], fun i y hy => ?_⟩
    by_cases hi : i < m
    · rw [List.getElem?_append_left (by omega)] at hy
      exact hx i y hy
    · rw [List.getElem?_append_right (by omega), hl] at hy
      have : i - m = 0 := by
        cases h : i - m with
        | zero => rfl
        | succ n => rw [h] at hy; simp at hy
      obtain rfl : i = m := by omega
      simp at hy
      exact hy ▸ hp
/-- A SLICE'S READING IS A ROW OF ITS ELEMENTS' KIND. -/
theorem open_kd {α : Type} (d : Kd α) {t e : TypeId} (ht : P.underlying t = some (.slice e)) (hsz : P.cellsOf e = d.sz)
    (hel : ∀ n cs y, cs.length = d.sz → DataW.trod enc P w 0 sp held n e cs = some y → ∃ x, d.K w x cs)
    {fuel : Nat} {v : Value} {x : DataW H × List MemPlace} (h : DataW.trod enc P w 0 sp held fuel t [v] = some x) :
    ∃ A c xs, v = .slice A xs.length c ∧ xs.length ≤ c ∧ d.C w A xs.length xs := by
  rcases open_slice ht h with ⟨hcs, _⟩ | ⟨a, len, cap, m, n, D, Pl, hcs, _, hl, hm, hmm, _, hx⟩
  · obtain rfl : v = .slice none 0 0 := by simpa using hcs
    exact ⟨none, 0, [], rfl, Nat.le_refl _, rfl, by simp, fun h => absurd h (by simp)⟩
  · obtain rfl : v = .slice (some a) len cap := by simpa using hcs
    have hlm : len ≤ m := by rw [hmm]; split <;> omega
    obtain ⟨xs, hxl, hxs⟩ := choose_below (p := fun i x => ∃ c, c.length = d.sz ∧ d.K w x c ∧ ∀ j u, c[j]? = some u → w.cell? (a.add (i * d.sz + j)) = some u) len (fun i hi => by
      obtain ⟨cs', h1, h2⟩ := hx i (by omega)
      obtain ⟨_, hlen, hc⟩ := World.cells?_some h1
      obtain ⟨x, hK⟩ := hel n cs' _ (by omega) h2
      refine ⟨x, cs', by omega, hK, fun j u hu => ?_⟩
      have hj : j < cs'.length := by
        rcases Nat.lt_or_ge j cs'.length with h | h
        · exact h
        · rw [List.getElem?_eq_none h] at hu; exact absurd hu (by simp)
      have := hc j (by omega)
      rw [hsz] at this
      rw [← hu, ← this]
      rw [Addr.add_add])
    have hmx : maxLen = 9223372036854775807 := rfl
    subst hxl
    exact ⟨some a, cap, xs, rfl, hl, rfl, by omega, fun _ => ⟨a, rfl, fun j p hp => hxs j p hp⟩⟩
end
end Go.Proofs.Ytnblmjkaieibhaa.HR

namespace Go.Proofs.Ytnblmjkaieibhaa.HR
open Go.RowKit Go.Joins Go.ChangeShapes Go.WideShapes Go.Deep Go.Proofs.Ytnblmjkaieibhaa.HK Go.Proofs.YtnblmjkaieibhaaW.PrintWords Go.Proofs.YtnblmjkaieibhaaW.PrintLast Go.Proofs.YtnblmjkaieibhaaW.PrintMore
set_option linter.unusedVariables false
section
variable {H : Type} {enc : TypeId × Value → H} {w : World} {sp : Nat → Bool} {held : Bool}
theorem cells_int : Try.prog.cellsOf 3 = 1 := by kernel_rfl
theorem cells_ints : Try.prog.cellsOf 28 = 1 := by kernel_rfl
theorem cells_ev : Try.prog.cellsOf 56 = 2 := by kernel_rfl
theorem open_ints_kd {n : Nat} {v : Value} {y : DataW H × List MemPlace} (h : DataW.trod enc Try.prog w 0 sp held n 28 [v] = some y) :
    ∃ A c xs, v = .slice A xs.length c ∧ xs.length ≤ c ∧ Kd.C (Kd.int .i64) w A xs.length xs :=
  open_kd (Kd.int .i64) Try.underlying28 cells_int (fun n cs y hl hy => by
    match cs, hl with
    | [u], _ =>
      obtain ⟨a, e, _⟩ := DataW.trod_int Try.underlying3 hy
      exact ⟨a, by rw [e]; rfl⟩) h
theorem trod_ev {n : Nat} {cs : List Value} {y : DataW H × List MemPlace} (hl : cs.length = 2) (h : DataW.trod enc Try.prog w 0 sp held n 56 cs = some y) : ∃ x, k56.K w x cs := by
  obtain ⟨ys, n, _, _, _, hlen, hg⟩ := DataW.trod_struct Try.underlying56 h
  match cs, hl with
  | [v0, v1], _ =>
    match ys, hlen with
    | [y0, y1], _ =>
      have g0 : DataW.trod enc Try.prog w 0 sp held n 3 [v0] = some y0 := by simpa [cells_int] using hg 0 _ rfl
      have g1 : DataW.trod enc Try.prog w 0 sp held n 28 [v1] = some y1 := by simpa [cells_ints] using hg 1 _ rfl
      obtain ⟨r, e0, _⟩ := DataW.trod_int Try.underlying3 g0
      obtain ⟨A, c, xs, rfl, hc, hr⟩ := open_ints_kd g1
      simp only [List.cons.injEq, and_true] at e0
      subst e0
      exact ⟨⟨r, xs⟩, k56_mk w ⟨r, xs⟩ hc hr⟩
theorem open_events {a : Option Addr} {len cap : Nat} {d : DataW H} {p : List MemPlace} (h : DataW.Trod enc Try.prog w 0 sp held 22 (.slice a len cap) d p) :
    ∃ xs : List S56, len = xs.length ∧ xs.length ≤ cap ∧ Kd.C k56 w a xs.length xs := by
  obtain ⟨fuel, hf⟩ := h
  have hf' : DataW.trod enc Try.prog w 0 sp held fuel 22 [.slice a len cap] = some (d, p) := hf
  obtain ⟨A, c, xs, e, h1, h2⟩ := open_kd k56 Try.underlying22 cells_ev (fun n cs y hl hy => trod_ev (by exact hl) hy) hf'
  injection e with e1 e2 e3
  subst e1 e2 e3
  exact ⟨xs, rfl, h1, h2⟩
theorem open_row {a : Option Addr} {len cap : Nat} {d : DataW H} {p : List MemPlace} (h : DataW.Trod enc Try.prog w 0 sp held 28 (.slice a len cap) d p) :
    ∃ xs : List Int, len = xs.length ∧ xs.length ≤ cap ∧ Kd.C (Kd.int .i64) w a xs.length xs := by
  obtain ⟨fuel, hf⟩ := h
  obtain ⟨A, c, xs, e, h1, h2⟩ := open_ints_kd (show DataW.trod enc Try.prog w 0 sp held fuel 28 [.slice a len cap] = some (d, p) from hf)
  injection e with e1 e2 e3
  subst e1 e2 e3
  exact ⟨xs, rfl, h1, h2⟩
end
end Go.Proofs.Ytnblmjkaieibhaa.HR

namespace Go.Proofs.Ytnblmjkaieibhaa.HO
open Go.Proofs.Ytnblmjkaieibhaa.HU Go.RowKit Go.Proofs.Ytnblmjkaieibhaa.HK Go.Proofs.Ytnblmjkaieibhaa.HP Go.Proofs.YtnblmjkaieibhaaW.PrintWords Go.Proofs.YtnblmjkaieibhaaW.PrintLast Go.Proofs.YtnblmjkaieibhaaW.PrintMore
set_option linter.unusedVariables false
set_option linter.unusedSimpArgs false
theorem Known.ofE0 {l : List Ev_} {N : Nat} {ks : List Kn} (h : Known l N ks) {i k : Nat} (hi : i < l.length) (hk : k < l.length) : ofE (kat ks (i : Int)).f0 (kat ks (k : Int)).f0 = 0 := by
  unfold ofE
  rw [if_pos (h.fit hi hk)]
theorem ah_of {ks : List Kn} {i k : Int} (hi : hasB ks i = true) (hk : hasB ks k = true) : ahB ks i k = decide (ofF (kat ks i).f0 (kat ks k).f0 = 1) := by
  unfold ahB
  rw [hi, hk]
  rfl
set_option maxRecDepth 100000 in
set_option maxHeartbeats 16000000 in
theorem orderTells_calls (n : Int) (A : Option Addr) (c : Nat) (l : List Ev_) (w : World) (hr : Kd.C k56 w A l.length l) (hc : l.length ≤ c) :
    Calls Try.prog 6 #[.int .i64 n, .slice A l.length c] w fun e w' => e = .returned (.bool true) ∧ Below w.heap.size w w' := by
  have HR := Aside0.mk hr
  clear hr
  go_enter Try.func6, Try.ntmps6
  go_wp2_with fail
  refine (awake_c w).mono ?_
  rintro e w1 ⟨rfl, hb⟩
  have HB1 := Aside0.mk hb
  have HR1 := Aside0.mk (Kd.C_below HR.out hb)
  clear hb HR
  obtain ⟨gr, hgr, hgc⟩ := great_c A c l w1 HR1.out hc
  have HGC := Aside0.mk hgc
  have HGR := Aside0.mk hgr
  clear hgr hgc
  go_wp2_with fail
  refine HGC.out.mono ?_
  rintro e w2 ⟨rfl, n1, rfl⟩
  have HB2 := Aside0.mk (below_then HB1.out HB1.out.size (pw_below_drewN (Below.refl w1.heap.size w1) n1))
  have HR2 := Aside0.mk (Kd.C_below HR1.out (pw_below_drewN (Below.refl w1.heap.size w1) n1))
  generalize w1.drewN n1 = w2 at HB2 HR2 ⊢
  clear HB1 HR1
  cases gr with
  | true =>
    go_wp2
    go_ret
    exact ⟨rfl, HB2.out⟩
  | false =>
    have HS := Aside0.mk (HGR.out rfl)
    clear HGC HGR
    go_wp2_with fail
    refine (of_calls n A c l w2 HR2.out hc HS.out.le).mono ?_
    rintro e w3 ⟨hp, hb⟩
    have HB3 := Aside0.mk (below_then HB2.out HB2.out.size hb)
    clear hb
    rcases his_is n l with ⟨hbad, hh⟩ | ⟨hok, N, ks, rfl, hh, hk⟩
    · rw [hh] at hp
      obtain rfl := hp
      clear hbad hh
      go_wp2
      go_ret
      exact ⟨rfl, HB3.out⟩
    · rw [hh] at hp
      obtain ⟨g, rfl, hro⟩ := hp
      have HRO := Aside0.mk hro
      have HK := Aside0.mk hk
      have hl2 := HK.out.l2
      clear hok hh hro hk HB2 HR2
      go_wp2_with fail
      go_loopw [7] (fun v7 wr => ∃ i : Nat, i ≤ l.length ∧ v7 = .int .i64 i ∧ Aside0 (Below w3.heap.size w3 wr)) (fun v7 _ => l.length - (intOf v7).toNat)
      case atStart => exact ⟨0, by omega, rfl, ⟨Below.refl _ _⟩⟩
      case round =>
        obtain ⟨i, hi, rfl, HB⟩ := hrel
        obtain ⟨wo, rfl⟩ : ∃ wo : World, wo = wr := ⟨_, rfl⟩
        by_cases hlt : i < l.length
        · have hhas : hasB ks (i : Int) = true := hasB_iff.2 ⟨by omega, by rw [HK.out.len]; omega⟩
          have HHAS := Aside0.mk hhas
          have hcl : (kat ks (i : Int)).f0.length ≤ 64 := by rw [HK.out.clk i hlt, ck_len]; exact HK.out.n2
          clear hhas
          go_wp2_with fail
          refine (clock_ok g ks i wo (HRO.out.below HB.out) HHAS.out (by omega)).mono ?_
          rintro e w5 ⟨vc, rfl, hR, hb⟩
          have HB5 := Aside0.mk (below_then HB.out HB.out.size hb)
          have HRO5 := Aside0.mk (HRO.out.below HB5.out)
          obtain ⟨Ac, cc, rfl, hcc, hCC⟩ := Kd.R_reads hR
          have HCC := Aside0.mk hCC
          clear hR hb hCC
          go_wp2_with fail
          go_loopw [10] (fun v10 wr => ∃ k : Nat, k ≤ l.length ∧ v10 = .int .i64 k ∧ Aside0 (Below w5.heap.size w5 wr)) (fun v10 _ => l.length - (intOf v10).toNat)
          case atStart => exact ⟨0, by omega, rfl, ⟨Below.refl _ _⟩⟩
          case round =>
            obtain ⟨k, hk, rfl, HBk⟩ := hrel
            obtain ⟨w6, rfl⟩ : ∃ w6 : World, w6 = wr := ⟨_, rfl⟩
            by_cases hkl : k < l.length
            · have hhk : hasB ks (k : Int) = true := hasB_iff.2 ⟨by omega, by rw [HK.out.len]; omega⟩
              have HHK := Aside0.mk hhk
              have hckl : (kat ks (k : Int)).f0.length ≤ 64 := by rw [HK.out.clk k hkl, ck_len]; exact HK.out.n2
              clear hhk
              go_wp2_with fail
              refine (clock_ok g ks k w6 (HRO5.out.below HBk.out) HHK.out (by omega)).mono ?_
              rintro e w7 ⟨vd, rfl, hR, hb⟩
              have HB7 := Aside0.mk (below_then HBk.out HBk.out.size hb)
              obtain ⟨Ad, cd, rfl, hcd, hCD⟩ := Kd.R_reads hR
              have HCD := Aside0.mk hCD
              clear hR hb hCD
              go_wp2_with fail
              refine (of_c Ac cc (kat ks (i : Int)).f0 Ad cd (kat ks (k : Int)).f0 w7 (Kd.C_below HCC.out HB7.out) hcc HCD.out hcd).mono ?_
              rintro e w8 ⟨rfl, hb⟩
              have HB8 := Aside0.mk (below_then HB7.out HB7.out.size hb)
              have HRO8 := Aside0.mk (HRO5.out.below HB8.out)
              rw [HK.out.ofE0 hlt hkl]
              have HSM := Aside0.mk (HK.out.same hlt hkl)
              have HAH := Aside0.mk (ah_of HHAS.out HHK.out)
              clear hb HCD
              generalize ofF (kat ks (i : Int)).f0 (kat ks (k : Int)).f0 = T at HSM HAH ⊢
              have hk64 : IntKind.i64.wrap ((k : Int) + 1) = (k : Int) + 1 := i64w (by omega) (by omega)
              by_cases h0 : T = 0
              · have hik := HSM.out.1 h0
                subst h0
                have hA : ahB ks (i : Int) (k : Int) = false := by rw [HAH.out]; rfl
                have HA := Aside0.mk hA
                clear hA
                subst hik
                go_wp2_with fail
                refine (ahead_c g ks i _ w8 HRO8.out).mono ?_
                rintro e w9 ⟨rfl, hb⟩
                rw [HA.out]
                have HB9 := Aside0.mk (below_then HB8.out HB8.out.size hb)
                clear hb
                go_wp2
                refine ⟨⟨i + 1, by omega, by go_num, HB9⟩, ?_⟩
                simp [intOf]
                omega
              · have hik : ¬ i = k := fun h => h0 (HSM.out.2 h)
                have d2 : decide (i = k) = false := decide_eq_false hik
                have d0 : (T == 0) = false := by simpa using h0
                have d3 : ((i : Int) == (k : Int)) = false := beq_eq_false_iff_ne.2 (fun h => hik (Int.ofNat.inj h))
                by_cases h1 : T = 1
                · subst h1
                  have hA : ahB ks (i : Int) (k : Int) = true := by rw [HAH.out]; rfl
                  have HA := Aside0.mk hA
                  clear hA d0
                  go_wp2_with fail
                  refine (ahead_c g ks i _ w8 HRO8.out).mono ?_
                  rintro e w9 ⟨rfl, hb⟩
                  rw [HA.out]
                  have HB9 := Aside0.mk (below_then HB8.out HB8.out.size hb)
                  clear hb
                  go_wp2
                  refine ⟨⟨k + 1, by omega, by go_num, HB9⟩, ?_⟩
                  simp [intOf]
                  omega
                · have hA : ahB ks (i : Int) (k : Int) = false := by rw [HAH.out]; exact decide_eq_false h1
                  have d1 : (T == 1) = false := by simpa using h1
                  have HA := Aside0.mk hA
                  clear hA
                  go_wp2_with fail
                  refine (ahead_c g ks i _ w8 HRO8.out).mono ?_
                  rintro e w9 ⟨rfl, hb⟩
                  rw [HA.out]
                  have HB9 := Aside0.mk (below_then HB8.out HB8.out.size hb)
                  clear hb
                  go_wp2
                  refine ⟨⟨k + 1, by omega, by go_num, HB9⟩, ?_⟩
                  simp [intOf]
                  omega
            · obtain rfl : k = l.length := by omega
              have hi64 : IntKind.i64.wrap ((i : Int) + 1) = (i : Int) + 1 := i64w (by omega) (by omega)
              have HB9 := Aside0.mk (below_then HB5.out HB5.out.size HBk.out)
              go_wp2
              refine ⟨⟨i + 1, by omega, by go_num, HB9⟩, ?_⟩
              simp [intOf]
              omega
        · obtain rfl : i = l.length := by omega
          go_wp2
          go_ret
          exact ⟨rfl, below_then HB3.out HB3.out.size HB.out⟩
end Go.Proofs.Ytnblmjkaieibhaa.HO

namespace Go.Proofs.Ytnblmjkaieibhaa.orderTells
open Go.ChangeShapes Go.WideShapes Go.ChangeAt Go.RowKit Go.Joins
open Go.ChangeMaps (open_string shut_string)
set_option linter.unusedVariables false
theorem own : ownKnob Try.prog.godebug = none := by kernel_rfl
theorem laidOut : laidOutB Try.prog = true := by kernel_rfl
set_option maxRecDepth 100000 in
theorem lifted (os : Os) (started : os.Started) (H : Type) (enc : TypeId × Value → H) :
    ReturnsInHanded {} Try.checked os 6 .any (Rows.orderTellsSpec.pre6 enc Try.prog Try.f6 Rows.orderTellsRow.domain false) (Rows.orderTellsSpec.post enc Try.prog Try.f6 false true false false) := by
  refine returnsInHanded_of_change_sized (C := Try.checked) own started (by kernel_rfl) Try.func6
    (ChangeSpec.witness6 (enc := enc) (C := Try.checked) false ⟨#[], #[.int .i64 0, .slice none 0 0], []⟩ 8 (by kernel_rfl) (by kernel_rfl) (by kernel_rfl) (by kernel_rfl)) ?_
  intro W base args ds gs before hval0 hW hcnd hsz0 _
  have hval : ∀ (j : Nat) t v, Try.f6.params[j]? = some t → args[j]? = some v → Value.okWide Try.prog W .any base t v := hval0
  have hW' := hW
  obtain ⟨p, q, hA0, hV, rfl, hfz, hnd⟩ := hW
  have hA : DataW.TrodAll enc Try.prog W 0 (fun _ => true) true Try.f6.params.toList args.toList ds p := hA0
  rw [Try.params6] at hA hval
  obtain ⟨v0, vs0, d0, ds0, p0, q0, hargs, rfl, rfl, h0, r0⟩ := trodAll_cons hA
  obtain ⟨v1, vs1, d1, ds1, p1, q1, rfl, rfl, rfl, h1, r1⟩ := trodAll_cons r0
  obtain ⟨rfl, rfl, rfl⟩ := trodAll_nil r1
  obtain rfl : args = #[v0, v1] := by cases args; simp_all
  obtain ⟨rfl, rfl⟩ := trodVars_none hV
  have k0 := h0
  have lt0 : ∀ x ∈ p0, x.block < W.heap.size := by obtain ⟨m, hm⟩ := k0; exact DataW.trod_lt m _ _ _ hm
  have k1 := h1
  have lt1 : ∀ x ∈ p1, x.block < W.heap.size := by obtain ⟨m, hm⟩ := k1; exact DataW.trod_lt m _ _ _ hm
  obtain ⟨n0, rfl⟩ := okWide_int Try.underlying3 (hval 0 3 v0 rfl rfl)
  obtain ⟨a1, l1, c1, rfl⟩ := okWide_slice Try.underlying22 (hval 1 22 v1 rfl rfl)
  obtain ⟨xs1, rfl, hc1, hr1⟩ := HR.open_events h1
  clear hA0 hval0 hsz0
  refine (HO.orderTells_calls n0 a1 c1 xs1 W hr1 hc1).mono fun e W' ⟨he, bel⟩ => ?_
  subst he
  exact ⟨_, rfl, _, _, _, [], _, [], hW', trodAll_mk1 (shut_bool Try.underlying4 _), (trodAll_cons_mk (Below.trod laidOut (by kernel_rfl) (of_decide_eq_true (by kernel_rfl)) k0 bel lt0) (trodAll_cons_mk (Below.trod laidOut (by kernel_rfl) (of_decide_eq_true (by kernel_rfl)) k1 bel lt1) trodAll_mk0)), rfl, bel.frame _, fun h => by cases h⟩
theorem over : Rows.orderTellsRow.holds Try.pinned (OpenSpec.ofChange Rows.orderTellsSpec) :=
  OpenClaim.holds_of_wide 6 Try.f6 rfl rfl rfl rfl rfl rfl rfl ⟨rfl, rfl, rfl, rfl, rfl⟩ rfl rfl rfl rfl rfl (by kernel_rfl) Try.func6 (by kernel_rfl)
    (of_decide_eq_true (by kernel_rfl)) (by unfold Func.isWrapper; first | (rw [if_pos (by decide +kernel)]; kernel_rfl) | (rw [if_neg (by decide +kernel)]; exact ⟨rfl, rfl⟩))
    (fun os started H enc _ => lifted os started H enc)
theorem proved : Rows.OrderTellsSaid := over
end Go.Proofs.Ytnblmjkaieibhaa.orderTells
namespace Go.Proofs.Ytnblmjkaieibhaa
/-- The row, under a short name, for the claim. -/
theorem orderTells_holds : Rows.OrderTellsSaid := orderTells.proved
end Go.Proofs.Ytnblmjkaieibhaa
