/- OrderOrder: whatever comes in, the law answers true, and what came in reads as it did. No condition. -/
import Derived.Test.YtnblmjkaieibhaaHW
import Derived.ProofKit
import Derived.OpenShut
import Derived.ShutString
import Derived.ChangeOld
import Derived.SizedLaws
import Derived.Lib.SmallJoins
import Derived.Deep.Slices
import Derived.Test.YtnblmjkaieibhaaHK
import Derived.Deep.Strs
import Derived.Test.YtnblmjkaieibhaaOaB
import Derived.Deep.DeepCutAuto
import Derived.Deep.QuietTactic
import Derived.Test.YtnblmjkaieibhaaRows
import Derived.WalkKit
import Derived.Below
namespace Go.Proofs.Ytnblmjkaieibhaa.HR
open Go.RowKit Go.Joins Go.ChangeShapes Go.WideShapes Go.Deep Go.Proofs.YtnblmjkaieibhaaW.PrintWords Go.Proofs.YtnblmjkaieibhaaW.PrintLast Go.Proofs.YtnblmjkaieibhaaW.PrintMore
set_option linter.unusedVariables false
section
variable {H : Type} {enc : TypeId × Value → H} {P : Program} {w : World} {sp : Nat → Bool} {held : Bool}
theorem choose_below {α : Type} {p : Nat → α → Prop} : ∀ m, (∀ i, i < m → ∃ x, p i x) → ∃ xs : List α, xs.length = m ∧ ∀ i x, xs[i]? = some x → p i x
  | 0, _ => ⟨[], rfl, fun i x h => by simp at h⟩
  | m + 1, h => by
    obtain ⟨xs, hl, hx⟩ := choose_below m (fun i hi => h i (by omega))
    obtain ⟨x, hp⟩ := h m (by omega)
    refine ⟨xs ++ [x], by simp [hl], fun i y hy => ?_⟩
    by_cases hi : i < m
    · rw [List.getElem?_append_left (by omega)] at hy
      exact hx i y hy
    · rw [List.getElem?_append_right (by omega), hl] at hy
      have : i - m = 0 := by
        cases h : i - m with
        | zero => rfl
        | succ n => rw [h] at hy; simp at hy
      obtain rfl : i = m := by omega
      simp at hy
      exact hy ▸ hp
/-- A SLICE'S READING IS A ROW OF ITS ELEMENTS' KIND. -/
theorem open_kd {α : Type} (d : Kd α) {t e : TypeId} (ht : P.underlying t = some (.slice e)) (hsz : P.cellsOf e = d.sz)
    (hel : ∀ n cs y, cs.length = d.sz → DataW.trod enc P w 0 sp held n e cs = some y → ∃ x, d.K w x cs)
    {fuel : Nat} {v : Value} {x : DataW H × List MemPlace} (h : DataW.trod enc P w 0 sp held fuel t [v] = some x) :
    ∃ A c xs, v = .slice A xs.length c ∧ xs.length ≤ c ∧ d.C w A xs.length xs := by
  rcases open_slice ht h with ⟨hcs, _⟩ | ⟨a, len, cap, m, n, D, Pl, hcs, _, hl, hm, hmm, _, hx⟩
  · obtain rfl : v = .slice none 0 0 := by simpa using hcs
    exact ⟨none, 0, [], rfl, Nat.le_refl _, rfl, by simp, fun h => absurd h (by simp)⟩
  · obtain rfl : v = .slice (some a) len cap := by simpa using hcs
    have hlm : len ≤ m := by rw [hmm]; split <;> omega
    obtain ⟨xs, hxl, hxs⟩ := choose_below (p := fun i x => ∃ c, c.length = d.sz ∧ d.K w x c ∧ ∀ j u, c[j]? = some u → w.cell? (a.add (i * d.sz + j)) = some u) len (fun i hi => by
      obtain ⟨cs', h1, h2⟩ := hx i (by omega)
      obtain ⟨_, hlen, hc⟩ := World.cells?_some h1
      obtain ⟨x, hK⟩ := hel n cs' _ (by omega) h2
      refine ⟨x, cs', by omega, hK, fun j u hu => ?_⟩
      have hj : j < cs'.length := by
        rcases Nat.lt_or_ge j cs'.length with h | h
        · exact h
        · rw [List.getElem?_eq_none h] at hu; exact absurd hu (by simp)
      have := hc j (by omega)
      rw [hsz] at this
      rw [← hu, ← this]
      rw [Addr.add_add])
    have hmx : maxLen = 9223372036854775807 := rfl
    subst hxl
    exact ⟨some a, cap, xs, rfl, hl, rfl, by omega, fun _ => ⟨a, rfl, fun j p hp => hxs j p hp⟩⟩
end
end Go.Proofs.Ytnblmjkaieibhaa.HR

namespace Go.Proofs.Ytnblmjkaieibhaa.HR
open Go.RowKit Go.Joins Go.ChangeShapes Go.WideShapes Go.Deep Go.Proofs.Ytnblmjkaieibhaa.HK Go.Proofs.YtnblmjkaieibhaaW.PrintWords Go.Proofs.YtnblmjkaieibhaaW.PrintLast Go.Proofs.YtnblmjkaieibhaaW.PrintMore
set_option linter.unusedVariables false
section
variable {H : Type} {enc : TypeId × Value → H} {w : World} {sp : Nat → Bool} {held : Bool}
theorem cells_int : Try.prog.cellsOf 3 = 1 := by kernel_rfl
theorem cells_ints : Try.prog.cellsOf 28 = 1 := by kernel_rfl
theorem cells_ev : Try.prog.cellsOf 56 = 2 := by kernel_rfl
theorem open_ints_kd {n : Nat} {v : Value} {y : DataW H × List MemPlace} (h : DataW.trod enc Try.prog w 0 sp held n 28 [v] = some y) :
    ∃ A c xs, v = .slice A xs.length c ∧ xs.length ≤ c ∧ Kd.C (Kd.int .i64) w A xs.length xs :=
  open_kd (Kd.int .i64) Try.underlying28 cells_int (fun n cs y hl hy => by
    match cs, hl with
    | [u], _ =>
      obtain ⟨a, e, _⟩ := DataW.trod_int Try.underlying3 hy
      exact ⟨a, by rw [e]; rfl⟩) h
theorem trod_ev {n : Nat} {cs : List Value} {y : DataW H × List MemPlace} (hl : cs.length = 2) (h : DataW.trod enc Try.prog w 0 sp held n 56 cs = some y) : ∃ x, k56.K w x cs := by
  obtain ⟨ys, n, _, _, _, hlen, hg⟩ := DataW.trod_struct Try.underlying56 h
  match cs, hl with
  | [v0, v1], _ =>
    match ys, hlen with
    | [y0, y1], _ =>
      have g0 : DataW.trod enc Try.prog w 0 sp held n 3 [v0] = some y0 := by simpa [cells_int] using hg 0 _ rfl
      have g1 : DataW.trod enc Try.prog w 0 sp held n 28 [v1] = some y1 := by simpa [cells_ints] using hg 1 _ rfl
      obtain ⟨r, e0, _⟩ := DataW.trod_int Try.underlying3 g0
      obtain ⟨A, c, xs, rfl, hc, hr⟩ := open_ints_kd g1
      simp only [List.cons.injEq, and_true] at e0
      subst e0
      exact ⟨⟨r, xs⟩, k56_mk w ⟨r, xs⟩ hc hr⟩
theorem open_events {a : Option Addr} {len cap : Nat} {d : DataW H} {p : List MemPlace} (h : DataW.Trod enc Try.prog w 0 sp held 22 (.slice a len cap) d p) :
    ∃ xs : List S56, len = xs.length ∧ xs.length ≤ cap ∧ Kd.C k56 w a xs.length xs := by
  obtain ⟨fuel, hf⟩ := h
  have hf' : DataW.trod enc Try.prog w 0 sp held fuel 22 [.slice a len cap] = some (d, p) := hf
  obtain ⟨A, c, xs, e, h1, h2⟩ := open_kd k56 Try.underlying22 cells_ev (fun n cs y hl hy => trod_ev (by exact hl) hy) hf'
  injection e with e1 e2 e3
  subst e1 e2 e3
  exact ⟨xs, rfl, h1, h2⟩
theorem open_row {a : Option Addr} {len cap : Nat} {d : DataW H} {p : List MemPlace} (h : DataW.Trod enc Try.prog w 0 sp held 28 (.slice a len cap) d p) :
    ∃ xs : List Int, len = xs.length ∧ xs.length ≤ cap ∧ Kd.C (Kd.int .i64) w a xs.length xs := by
  obtain ⟨fuel, hf⟩ := h
  obtain ⟨A, c, xs, e, h1, h2⟩ := open_ints_kd (show DataW.trod enc Try.prog w 0 sp held fuel 28 [.slice a len cap] = some (d, p) from hf)
  injection e with e1 e2 e3
  subst e1 e2 e3
  exact ⟨xs, rfl, h1, h2⟩
end
end Go.Proofs.Ytnblmjkaieibhaa.HR

namespace Go.Proofs.Ytnblmjkaieibhaa.HO
open Go.Proofs.Ytnblmjkaieibhaa.HU Go.RowKit Go.Proofs.Ytnblmjkaieibhaa.HK Go.Proofs.Ytnblmjkaieibhaa.HP Go.Proofs.YtnblmjkaieibhaaW.PrintWords Go.Proofs.YtnblmjkaieibhaaW.PrintLast Go.Proofs.YtnblmjkaieibhaaW.PrintMore
set_option linter.unusedVariables false
set_option linter.unusedSimpArgs false
set_option maxRecDepth 100000 in
set_option maxHeartbeats 16000000 in
theorem orderOrder_calls (n : Int) (A : Option Addr) (c : Nat) (l : List Ev_) (a b d : Int) (w : World) (hr : Kd.C k56 w A l.length l) (hc : l.length ≤ c) :
    Calls Try.prog 7 #[.int .i64 n, .slice A l.length c, .int .i64 a, .int .i64 b, .int .i64 d] w fun e w' => e = .returned (.bool true) ∧ Below w.heap.size w w' := by
  have HR := Aside0.mk hr
  clear hr
  go_enter Try.func7, Try.ntmps7
  go_wp2_with fail
  refine (awake_c w).mono ?_
  rintro e w1 ⟨rfl, hb⟩
  have HB1 := Aside0.mk hb
  have HR1 := Aside0.mk (Kd.C_below HR.out hb)
  clear hb HR
  obtain ⟨gr, hgr, hgc⟩ := great_c A c l w1 HR1.out hc
  have HGC := Aside0.mk hgc
  have HGR := Aside0.mk hgr
  clear hgr hgc
  go_wp2_with fail
  refine HGC.out.mono ?_
  rintro e w2 ⟨rfl, n1, rfl⟩
  have HB2 := Aside0.mk (below_then HB1.out HB1.out.size (pw_below_drewN (Below.refl w1.heap.size w1) n1))
  have HR2 := Aside0.mk (Kd.C_below HR1.out (pw_below_drewN (Below.refl w1.heap.size w1) n1))
  generalize w1.drewN n1 = w2 at HB2 HR2 ⊢
  clear HB1 HR1
  cases gr with
  | true =>
    go_wp2
    go_ret
    exact ⟨rfl, HB2.out⟩
  | false =>
    have HS := Aside0.mk (HGR.out rfl)
    clear HGC HGR
    by_cases hz : l.length = 0
    · have dz : decide ((l.length : Int) = 0) = true := decide_eq_true (by omega)
      go_wp2
      go_ret
      exact ⟨rfl, HB2.out⟩
    · have dz : decide ((l.length : Int) = 0) = false := decide_eq_false (by omega)
      go_wp2_with fail
      refine (of_calls n A c l w2 HR2.out hc HS.out.le).mono ?_
      rintro e w3 ⟨hp, hb⟩
      have HB3 := Aside0.mk (below_then HB2.out HB2.out.size hb)
      have HR3 := Aside0.mk (Kd.C_below HR2.out hb)
      clear hb
      rcases his_is n l with ⟨hbad, hh⟩ | ⟨hok, N, ks, rfl, hh, hk⟩
      · rw [hh] at hp
        obtain rfl := hp
        clear hbad hh
        go_wp2
        go_ret
        exact ⟨rfl, HB3.out⟩
      · rw [hh] at hp
        obtain ⟨g, rfl, hro⟩ := hp
        have HRO := Aside0.mk hro
        have HK := Aside0.mk hk
        clear hok hh hro hk HB2 HR2
        have hl2 := HK.out.l2
        have hL : 0 < l.length := by omega
        have ea := pk_eq a hL hl2
        have eb := pk_eq b hL hl2
        have ed := pk_eq d hL hl2
        have la := pk_lt a hL
        have lb := pk_lt b hL
        have ld := pk_lt d hL
        have hnz : ¬ (l.length : Int) = 0 := by omega
        go_wp2_with fail
        go_region
        rw [ea, eb, ed]
        generalize pk a l.length = i at la ⊢
        generalize pk b l.length = k at lb ⊢
        generalize pk d l.length = j at ld ⊢
        clear ea eb ed
        have hbi : hasB ks (i : Int) = true := hasB_iff.2 ⟨by omega, by rw [HK.out.len]; omega⟩
        have hbk : hasB ks (k : Int) = true := hasB_iff.2 ⟨by omega, by rw [HK.out.len]; omega⟩
        have AII := Aside0.mk ((HK.out.ahead la la).trans (by cases hh : HH l i i with | false => rfl | true => exact absurd (H_lt HK.out.V la hh) (Nat.lt_irrefl _)))
        have AIK := Aside0.mk (HK.out.ahead la lb)
        have AKJ := Aside0.mk (HK.out.ahead lb ld)
        have AIJ := Aside0.mk (HK.out.ahead la ld)
        have HRO3 := Aside0.mk (HRO.out.below (below_drew (Below.refl _ _)))
        have HB4 := Aside0.mk (below_then HB3.out HB3.out.size (below_drew (Below.refl w3.heap.size w3)))
        have HR4 := Aside0.mk (Kd.C_below HR3.out (below_drew (Below.refl w3.heap.size w3)))
        generalize w3.drew = w4 at HRO3 HB4 HR4 ⊢
        clear HRO HB3 HR3
        go_wp2_with fail
        refine (depth_ok g ks i w4 HRO3.out hbi).mono ?_
        rintro e w5 ⟨rfl, rfl⟩
        go_wp2_with fail
        refine (depth_ok g ks k _ HRO3.out hbk).mono ?_
        rintro e w5 ⟨rfl, rfl⟩
        go_upto_region 12 with fail
        go_cut [115] (fun v115 wc => v115 = .bool false ∧ Aside0 (Below w4.heap.size w4 wc))
        case first =>
          go_wp2_with fail
          refine (ahead_c g ks i i w4 HRO3.out).mono ?_
          rintro e w5 ⟨rfl, hb⟩
          rw [AII.out]
          have HB5 := Aside0.mk hb
          have HRO5 := Aside0.mk (HRO3.out.below hb)
          clear hb
          go_wp2_with fail
          refine (ahead_c g ks i k w5 HRO5.out).mono ?_
          rintro e w6 ⟨rfl, hb⟩
          rw [AIK.out]
          have HB6 := Aside0.mk (below_then HB5.out HB5.out.size hb)
          have HRO6 := Aside0.mk (HRO5.out.below hb)
          clear hb
          cases hik : HH l k i with
          | true =>
            have hlt := H_lt HK.out.V lb hik
            have hdep := (HK.out.dep k lb).2.1 i hik
            have d1 : decide (k ≤ i) = false := decide_eq_false (by omega)
            have d2 : decide ((kat ks (k : Int)).f1 ≤ (kat ks (i : Int)).f1) = false := decide_eq_false (by omega)
            have HIK := Aside0.mk hik
            clear hik hlt hdep
            go_wp2_with fail
            refine (ahead_c g ks i k w6 HRO6.out).mono ?_
            rintro e w7 ⟨rfl, hb⟩
            rw [AIK.out, HIK.out]
            have HB7 := Aside0.mk (below_then HB6.out HB6.out.size hb)
            have HRO7 := Aside0.mk (HRO6.out.below hb)
            clear hb d1 d2
            go_wp2_with fail
            refine (ahead_c g ks k j w7 HRO7.out).mono ?_
            rintro e w8 ⟨rfl, hb⟩
            rw [AKJ.out]
            have HB8 := Aside0.mk (below_then HB7.out HB7.out.size hb)
            have HRO8 := Aside0.mk (HRO7.out.below hb)
            clear hb
            cases hkj : HH l j k with
            | true =>
              have HIJ := Aside0.mk (H_trans HK.out.V ld hkj HIK.out)
              clear hkj
              go_wp2_with fail
              refine (ahead_c g ks i j w8 HRO8.out).mono ?_
              rintro e w9 ⟨rfl, hb⟩
              rw [AIJ.out, HIJ.out]
              have HB9 := Aside0.mk (below_then HB8.out HB8.out.size hb)
              clear hb
              go_wp2_with fail
              go_meet
              exact ⟨rfl, HB9⟩
            | false =>
              clear hkj
              go_wp2_with fail
              go_meet
              exact ⟨rfl, HB8⟩
          | false =>
            have HIK := Aside0.mk hik
            clear hik
            go_wp2_with fail
            refine (ahead_c g ks i k w6 HRO6.out).mono ?_
            rintro e w7 ⟨rfl, hb⟩
            rw [AIK.out, HIK.out]
            have HB7 := Aside0.mk (below_then HB6.out HB6.out.size hb)
            clear hb
            go_wp2_with fail
            go_meet
            exact ⟨rfl, HB7⟩
        case rest =>
          obtain ⟨rfl, HBC⟩ := hcut
          have HRO5 := Aside0.mk (HRO3.out.below HBC.out)
          have HR5 := Aside0.mk (Kd.C_below HR4.out HBC.out)
          have HB5 := Aside0.mk (below_then HB4.out HB4.out.size HBC.out)
          clear HBC HRO3 HR4 HB4 AII AKJ AIJ
          obtain ⟨ad, A1, c1, rfl, e1, e2, hc1, hC1⟩ := ev_at HR5.out i la
          obtain ⟨ad2, A3, c3, he, e3, _, _, _⟩ := ev_at HR5.out k lb
          injection he with he
          subst he
          have HC1 := Aside0.mk hC1
          clear hC1
          have HQ : Aside0 (∀ p : Nat, p < l[i].f1.length → ∃ q : Nat, rd l[i].f1 (p : Int) = q ∧ ahB ks (q : Int) (i : Int) = true) := ⟨fun p hp => by
            have hm : rd l[i].f1 (p : Int) ∈ (ek l i).f1 := by rw [ek_eq la, rd_lt hp]; exact List.getElem_mem hp
            obtain ⟨q0, q1⟩ := HK.out.V i la _ hm
            obtain ⟨q, hq⟩ : ∃ q : Nat, rd l[i].f1 (p : Int) = q := ⟨(rd l[i].f1 (p : Int)).toNat, by omega⟩
            rw [hq] at hm q1
            exact ⟨q, hq, (HK.out.ahead (by omega) la).trans (H_base (.inr hm))⟩⟩
          have HSAME : Aside0 (i < k → l[i].f0 = l[k].f0 → ahB ks (i : Int) (k : Int) = true) := ⟨fun h1 h2 => AIK.out.trans (H_base (.inl ⟨h1, by unfold rk; rw [ek_eq la, ek_eq lb]; exact h2⟩))⟩
          clear AIK
          generalize l[i].f1 = af at HQ e2 hc1 HC1
          obtain ⟨wx, rfl⟩ : ∃ wx : World, wx = wc := ⟨_, rfl⟩
          go_upto_region 14 with fail
          go_cut [138] (fun v138 wd => v138 = .bool false ∧ Aside0 (Below wx.heap.size wx wd))
          case first =>
            have hii : (i : Int) < (l.length : Int) := by omega
            have hkk : (k : Int) < (l.length : Int) := by omega
            clear e2
            generalize l[i].f0 = ri at e1 HSAME
            generalize l[k].f0 = rj at e3 HSAME
            have HA := Aside0.mk (ahead_c g ks i k wx.drew (HRO5.out.below (below_drew (Below.refl _ _))))
            have E0 := Aside0.mk (And.intro e1 e3)
            by_cases hik : i < k
            · have d1 : decide (i < k) = true := decide_eq_true hik
              by_cases hrk : ri = rj
              · have HYES := Aside0.mk (HSAME.out hik hrk)
                subst hrk
                rw [HYES.out] at HA
                clear hik HYES HSAME HRO5 HB5 HR5 HC1 hc1 HQ
                go_region_held3 (fun W => W.cell? (ad.add (i * 2)) = some (.int .i64 ri) ∧ W.cell? (ad.add (k * 2)) = some (.int .i64 ri))
                  (first | exact ⟨y1, y3⟩ | exact ⟨e1, e3⟩)
                  ((go_at_call 17; refine HA.out.mono ?_; rintro e w5 ⟨rfl, hb⟩; have HB5 := Aside0.mk (below_of_drew hb); have y1 := pw_cell_below (below_of_drew hb) e1; have y3 := pw_cell_below (below_of_drew hb) e3; clear hb))
                all_goals (
                  apply_assumption
                  refine Met.intro ?_
                  apply_assumption
                  (repeat apply Exists.intro)
                  exact ⟨⟨rfl, HB5⟩, rfl⟩)
              · have d2 : (ri == rj) = false := by simpa using hrk
                clear hik HSAME HRO5 HB5 HR5 HC1 hc1 HQ HA
                go_quiet (fail)
                apply_assumption
                refine Met.intro ?_
                apply_assumption
                (repeat apply Exists.intro)
                exact ⟨⟨rfl, ⟨pw_below_drewN (Below.refl _ _) _⟩⟩, rfl⟩
            · have d1 : decide (i < k) = false := decide_eq_false hik
              clear hik HSAME HRO5 HB5 HR5 HC1 hc1 HQ HA
              go_quiet (fail)
              apply_assumption
              refine Met.intro ?_
              apply_assumption
              (repeat apply Exists.intro)
              exact ⟨⟨rfl, ⟨pw_below_drewN (Below.refl _ _) _⟩⟩, rfl⟩
          case rest =>
            obtain ⟨rfl, HBD⟩ := hcut
            have HROd := Aside0.mk (HRO5.out.below HBD.out)
            have HB6 := Aside0.mk (below_then HB5.out HB5.out.size HBD.out)
            have E2 := Aside0.mk (pw_cell_below HBD.out e2)
            have HCd := Aside0.mk (Kd.C_below HC1.out HBD.out)
            clear e1 e2 e3 HC1 HRO5 HB5 HBD HSAME HR5
            go_wp2_with fail
            go_loopw [21] (fun v21 wr => ∃ p : Nat, p ≤ af.length ∧ v21 = .int .i64 p ∧ Aside0 (Below wc.heap.size wc wr)) (fun v21 _ => af.length - (intOf v21).toNat)
            case atStart => exact ⟨0, by omega, rfl, ⟨Below.refl _ _⟩⟩
            case round =>
              obtain ⟨p, hp, rfl, HB⟩ := hrel
              obtain ⟨w6, rfl⟩ : ∃ w6 : World, w6 = wr := ⟨_, rfl⟩
              have e2 := pw_cell_below HB.out E2.out
              have hii : (i : Int) < (l.length : Int) := by omega
              by_cases hpl : p < af.length
              · obtain ⟨ad1, hA1, e3⟩ := Kd.at_int (Kd.C_below HCd.out HB.out) p (by omega) (by omega)
                rw [Int.toNat_natCast] at e3
                subst hA1
                obtain ⟨q, hq, hah⟩ := HQ.out p hpl
                rw [hq] at e3
                have HAH := Aside0.mk hah
                have hafl : af.length ≤ 9223372036854775807 := Kd.C_max HCd.out
                have hp64 : IntKind.i64.wrap ((p : Int) + 1) = (p : Int) + 1 := i64w (by omega) (by omega)
                clear hah hq
                go_wp2_with fail
                refine (ahead_c g ks q i w6 (HROd.out.below HB.out)).mono ?_
                rintro e w7 ⟨rfl, hb⟩
                rw [HAH.out]
                have HB7 := Aside0.mk (below_then HB.out HB.out.size hb)
                clear hb e2 e3
                go_wp2
                refine ⟨⟨p + 1, by omega, by go_num, HB7⟩, ?_⟩
                simp [intOf]
                omega
              · obtain rfl : p = af.length := by omega
                go_wp2
                go_ret
                exact ⟨rfl, below_then HB6.out HB6.out.size HB.out⟩
end Go.Proofs.Ytnblmjkaieibhaa.HO

namespace Go.Proofs.Ytnblmjkaieibhaa.orderOrder
open Go.ChangeShapes Go.WideShapes Go.ChangeAt Go.RowKit Go.Joins
open Go.ChangeMaps (open_string shut_string)
set_option linter.unusedVariables false
theorem own : ownKnob Try.prog.godebug = none := by kernel_rfl
theorem laidOut : laidOutB Try.prog = true := by kernel_rfl
set_option maxRecDepth 100000 in
theorem lifted (os : Os) (started : os.Started) (H : Type) (enc : TypeId × Value → H) :
    ReturnsInHanded {} Try.checked os 7 .any (Rows.orderOrderSpec.pre6 enc Try.prog Try.f7 Rows.orderOrderRow.domain false) (Rows.orderOrderSpec.post enc Try.prog Try.f7 false true false false) := by
  refine returnsInHanded_of_change_sized (C := Try.checked) own started (by kernel_rfl) Try.func7
    (ChangeSpec.witness6 (enc := enc) (C := Try.checked) false ⟨#[], #[.int .i64 0, .slice none 0 0, .int .i64 0, .int .i64 0, .int .i64 0], []⟩ 8 (by kernel_rfl) (by kernel_rfl) (by kernel_rfl) (by kernel_rfl)) ?_
  intro W base args ds gs before hval0 hW hcnd hsz0 _
  have hval : ∀ (j : Nat) t v, Try.f7.params[j]? = some t → args[j]? = some v → Value.okWide Try.prog W .any base t v := hval0
  have hW' := hW
  obtain ⟨p, q, hA0, hV, rfl, hfz, hnd⟩ := hW
  have hA : DataW.TrodAll enc Try.prog W 0 (fun _ => true) true Try.f7.params.toList args.toList ds p := hA0
  rw [Try.params7] at hA hval
  obtain ⟨v0, vs0, d0, ds0, p0, q0, hargs, rfl, rfl, h0, r0⟩ := trodAll_cons hA
  obtain ⟨v1, vs1, d1, ds1, p1, q1, rfl, rfl, rfl, h1, r1⟩ := trodAll_cons r0
  obtain ⟨v2, vs2, d2, ds2, p2, q2, rfl, rfl, rfl, h2, r2⟩ := trodAll_cons r1
  obtain ⟨v3, vs3, d3, ds3, p3, q3, rfl, rfl, rfl, h3, r3⟩ := trodAll_cons r2
  obtain ⟨v4, vs4, d4, ds4, p4, q4, rfl, rfl, rfl, h4, r4⟩ := trodAll_cons r3
  obtain ⟨rfl, rfl, rfl⟩ := trodAll_nil r4
  obtain rfl : args = #[v0, v1, v2, v3, v4] := by cases args; simp_all
  obtain ⟨rfl, rfl⟩ := trodVars_none hV
  have k0 := h0
  have lt0 : ∀ x ∈ p0, x.block < W.heap.size := by obtain ⟨m, hm⟩ := k0; exact DataW.trod_lt m _ _ _ hm
  have k1 := h1
  have lt1 : ∀ x ∈ p1, x.block < W.heap.size := by obtain ⟨m, hm⟩ := k1; exact DataW.trod_lt m _ _ _ hm
  have k2 := h2
  have lt2 : ∀ x ∈ p2, x.block < W.heap.size := by obtain ⟨m, hm⟩ := k2; exact DataW.trod_lt m _ _ _ hm
  have k3 := h3
  have lt3 : ∀ x ∈ p3, x.block < W.heap.size := by obtain ⟨m, hm⟩ := k3; exact DataW.trod_lt m _ _ _ hm
  have k4 := h4
  have lt4 : ∀ x ∈ p4, x.block < W.heap.size := by obtain ⟨m, hm⟩ := k4; exact DataW.trod_lt m _ _ _ hm
  obtain ⟨n0, rfl⟩ := okWide_int Try.underlying3 (hval 0 3 v0 rfl rfl)
  obtain ⟨a1, l1, c1, rfl⟩ := okWide_slice Try.underlying22 (hval 1 22 v1 rfl rfl)
  obtain ⟨xs1, rfl, hc1, hr1⟩ := HR.open_events h1
  obtain ⟨n2, rfl⟩ := okWide_int Try.underlying3 (hval 2 3 v2 rfl rfl)
  obtain ⟨n3, rfl⟩ := okWide_int Try.underlying3 (hval 3 3 v3 rfl rfl)
  obtain ⟨n4, rfl⟩ := okWide_int Try.underlying3 (hval 4 3 v4 rfl rfl)
  clear hA0 hval0 hsz0
  refine (HO.orderOrder_calls n0 a1 c1 xs1 n2 n3 n4 W hr1 hc1).mono fun e W' ⟨he, bel⟩ => ?_
  subst he
  exact ⟨_, rfl, _, _, _, [], _, [], hW', trodAll_mk1 (shut_bool Try.underlying4 _), (trodAll_cons_mk (Below.trod laidOut (by kernel_rfl) (of_decide_eq_true (by kernel_rfl)) k0 bel lt0) (trodAll_cons_mk (Below.trod laidOut (by kernel_rfl) (of_decide_eq_true (by kernel_rfl)) k1 bel lt1) (trodAll_cons_mk (Below.trod laidOut (by kernel_rfl) (of_decide_eq_true (by kernel_rfl)) k2 bel lt2) (trodAll_cons_mk (Below.trod laidOut (by kernel_rfl) (of_decide_eq_true (by kernel_rfl)) k3 bel lt3) (trodAll_cons_mk (Below.trod laidOut (by kernel_rfl) (of_decide_eq_true (by kernel_rfl)) k4 bel lt4) trodAll_mk0))))), rfl, bel.frame _, fun h => by cases h⟩
theorem over : Rows.orderOrderRow.holds Try.pinned (OpenSpec.ofChange Rows.orderOrderSpec) :=
  OpenClaim.holds_of_wide 7 Try.f7 rfl rfl rfl rfl rfl rfl rfl ⟨rfl, rfl, rfl, rfl, rfl⟩ rfl rfl rfl rfl rfl (by kernel_rfl) Try.func7 (by kernel_rfl)
    (of_decide_eq_true (by kernel_rfl)) (by unfold Func.isWrapper; first | (rw [if_pos (by decide +kernel)]; kernel_rfl) | (rw [if_neg (by decide +kernel)]; exact ⟨rfl, rfl⟩))
    (fun os started H enc _ => lifted os started H enc)
theorem proved : Rows.OrderOrderSaid := over
end Go.Proofs.Ytnblmjkaieibhaa.orderOrder
namespace Go.Proofs.Ytnblmjkaieibhaa
/-- The row, under a short name, for the claim. -/
theorem orderOrder_holds : Rows.OrderOrderSaid := orderOrder.proved
end Go.Proofs.Ytnblmjkaieibhaa
