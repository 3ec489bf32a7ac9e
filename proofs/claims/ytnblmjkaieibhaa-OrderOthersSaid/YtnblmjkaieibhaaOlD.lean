/-
  CONTRACTS BY HAND (orders, 14): the law OrderRows, walked: it answers true, and nothing that was there is changed.
-/
import Derived.Test.YtnblmjkaieibhaaOlB
import Derived.Test.YtnblmjkaieibhaaOfD
namespace Go.Proofs.Ytnblmjkaieibhaa.HO
open Go.Proofs.Ytnblmjkaieibhaa.HU Go.RowKit Go.Proofs.Ytnblmjkaieibhaa.HK Go.Proofs.Ytnblmjkaieibhaa.HP Go.Proofs.Ytnblmjkaieibhaa.Qobase Go.Proofs.YtnblmjkaieibhaaW.PrintWords Go.Proofs.YtnblmjkaieibhaaW.PrintLast Go.Proofs.YtnblmjkaieibhaaW.PrintMore
set_option linter.unusedVariables false
set_option linter.unusedSimpArgs false
theorem first_c (g : Nat) (ks : List Kn) (A : Option Addr) (c : Nat) (want : List Int) (w : World) (h : Ro w g ks) (hr : Kd.C (Kd.int .i64) w A want.length want) (hc : want.length ≤ c) (hb : BehOk ks) (hn : ks.length ≤ 2000) (hw : want.length ≤ 2000) :
    Calls Try.prog 21 #[.pointer (some ⟨g, 0, none⟩), .slice A want.length c] w fun e w' => (∃ v0_, e = .returned v0_ ∧ Kd.R (Kd.int .i64) 3 w' w.heap.size (fun _ => True) v0_ (firstB ks want)) ∧ Below w.heap.size w w' :=
  callsIn_wide.1 (first_in g ks A c want w h hr hc hb hn hw)
theorem rfirst_c (g2 : Nat) {l : List Ev_} {N : Nat} {ks : List Kn} (hk : Known l N ks) (A : Option Addr) (c : Nat) (want : List Int) (w : World) (h : Rr w g2 (N : Int) (l.map (·.f0)) ((rowsF l l.length).map (tab l.length))) (hr : Kd.C (Kd.int .i64) w A want.length want) (hc : want.length ≤ c) (hf : ∀ ad, A = some ad → 0 < want.length → ad.block ≠ g2) (hw : want.length ≤ 2000) :
    Calls Try.prog 22 #[.pointer (some ⟨g2, 0, none⟩), .slice A want.length c] w fun e w' => ∃ v0_ : Value, e = .returned v0_ ∧ Kd.R (Kd.int .i64) 3 w' w.heap.size (fun _ => True) v0_ (firstB ks want) ∧ Below w.heap.size w w' := by
  obtain ⟨k, hq⟩ := (refFirst hk (N : Int) hw).rounds
  exact (dispatcherref19_Order_First.calls k g2 _ _ _ A c want _ _ w w h (Below.refl _ _) hr hc hf hq).mono fun e w' ⟨v, h1, h2, _, h4, _⟩ => ⟨v, h1, h2, h4⟩
theorem ris_c (g2 : Nat) {l : List Ev_} {N : Nat} {ks : List Kn} (hk : Known l N ks) (A : Option Addr) (c : Nat) (row : List Int) (w : World) (h : Rr w g2 (N : Int) (l.map (·.f0)) ((rowsF l l.length).map (tab l.length))) (hr : Kd.C (Kd.int .i64) w A row.length row) (hc : row.length ≤ c) (hf : ∀ ad, A = some ad → 0 < row.length → ad.block ≠ g2) :
    Calls Try.prog 20 #[.pointer (some ⟨g2, 0, none⟩), .slice A row.length c] w fun e w' => e = .returned (.bool (isB ks row)) ∧ Below w.heap.size w w' := by
  obtain ⟨k, hq⟩ := (refIs hk (N : Int) row).rounds
  exact (dispatcherref19_Order_Is.calls k g2 _ _ _ A c row _ _ w w h (Below.refl _ _) hr hc hf hq).mono fun e w' ⟨h1, _, h4, _⟩ => ⟨h1, h4⟩
theorem firstG_len (ks : List Kn) (cs : List Int) : ∀ (r : Nat) (out ins : List Int), (firstG ks cs r out ins).length ≤ out.length + r
  | 0, out, ins => by simp [firstG]
  | r + 1, out, ins => by
    unfold firstG
    split
    · have := firstG_len ks cs r out ins; omega
    · exact Nat.le_trans (firstG_len ks cs r _ _) (by rw [List.length_append, List.length_singleton]; omega)
theorem C_old {w : World} {A : Option Addr} {xs : List Int} (h : Kd.C (Kd.int .i64) w A xs.length xs) : ∀ ad, A = some ad → 0 < xs.length → ad.block < w.heap.size := fun ad hA hp => by
  obtain ⟨ad2, h1, h2⟩ := Kd.at_int h 0 (by omega) (by omega)
  rw [hA] at h1
  injection h1 with h1
  subst h1
  obtain ⟨o, ho, _⟩ := cells_of_cell h2
  exact blk_lt ho
set_option maxRecDepth 100000 in
set_option maxHeartbeats 16000000 in
theorem orderRows_calls (n : Int) (A : Option Addr) (c : Nat) (l : List Ev_) (A2 : Option Addr) (c2 : Nat) (row : List Int) (w : World) (hr : Kd.C k56 w A l.length l) (hc : l.length ≤ c) (hr2 : Kd.C (Kd.int .i64) w A2 row.length row) (hc2 : row.length ≤ c2) :
    Calls Try.prog 5 #[.int .i64 n, .slice A l.length c, .slice A2 row.length c2] w fun e w' => e = .returned (.bool true) ∧ Below w.heap.size w w' := by
  have HR := Aside0.mk hr
  have HR2 := Aside0.mk hr2
  have HOLD := Aside0.mk (C_old hr2)
  obtain ⟨gr, hgr, hgc⟩ := great_c A c l w hr hc
  have HGC := Aside0.mk hgc
  have HGR := Aside0.mk hgr
  clear hr hgc hgr hr2
  go_enter Try.func5, Try.ntmps5
  go_wp2_with fail
  refine HGC.out.mono ?_
  rintro e w1 ⟨rfl, n1, rfl⟩
  cases gr with
  | true =>
    go_wp2
    go_ret
    exact ⟨rfl, pw_below_drewN (Below.refl _ _) _⟩
  | false =>
    have HS := Aside0.mk (HGR.out rfl)
    have HB1 := Aside0.mk (pw_below_drewN (Below.refl w.heap.size w) n1)
    generalize w.drewN n1 = w1 at HB1 ⊢
    clear HGC HGR
    by_cases hbig : (row.length : Int) > 200
    · have db : decide ((row.length : Int) > 200) = true := decide_eq_true hbig
      go_wp2
      go_ret
      exact ⟨rfl, HB1.out⟩
    · have db : decide ((row.length : Int) > 200) = false := decide_eq_false hbig
      have hsm : row.length ≤ 200 := by omega
      clear hbig
      go_wp2_with fail
      refine (begin_c n A c l w1 (Kd.C_below HR.out HB1.out) hc HS.out).mono ?_
      rintro e w3 ⟨hp, hb⟩
      have HB3 := Aside0.mk (below_then HB1.out HB1.out.size hb)
      clear hb
      rcases hp with rfl | ⟨g, g2, N, ks, rfl, rfl, hk, hro, hrr, hg2, hbo⟩
      · go_wp2
        go_ret
        exact ⟨rfl, HB3.out⟩
      · have HK := Aside0.mk hk
        have HRO3 := Aside0.mk hro
        have HRR3 := Aside0.mk hrr
        have HBO := Aside0.mk hbo
        have HF : Aside0 (∀ ad, A2 = some ad → 0 < row.length → ad.block ≠ g2) := ⟨fun ad hA hp => by
          have := HOLD.out ad hA hp
          have := HB1.out.size
          omega⟩
        have HKN : Aside0 (ks.length ≤ 2000) := ⟨by rw [hk.len]; exact hk.l2⟩
        clear hk hro hrr hbo hg2 HB1 HOLD
        have HR3 := Aside0.mk (Kd.C_below HR2.out HB3.out)
        have HN0 := Aside0.mk (R_none (Kd.int .i64) 3 w3 w3.heap.size (fun _ => True) (Nat.le_refl _) trivial)
        have HBA := Aside0.mk (below_alloc (Below.refl w3.heap.size w3) (.cells #[] 3))
        have hk8 : (([] : List Int).length + row.length) * 8 ≤ 140737488355328 := by simp; omega
        have hza : w3.heap.size ≤ (w3.alloc (.cells #[] 3)).heap.size := HBA.out.size
        clear db
        go_wp2_with (at_builtin; refine Kd.R_append_rows (Kd.int .i64) (w0 := w3) w3.heap.size rfl (.tmp 32) (.tmp 33) 28 3 (.int .i64 0) 8 rfl Try.underlying28 infoI rfl (by decide) (by decide) (.slice (some ⟨w3.heap.size, 0, none⟩) 0 0) [] row _ _ _ (fun _ => True) (fun _ => False) rfl rfl HN0.out (Kd.C_below HR3.out HBA.out) (fun _ _ h => h) (fun _ h => h.elim) (fun _ _ => trivial) HBA.out hza hk8 ?_; intro v1 w5 ho hbl hgr hat; rw [List.nil_append] at ho; obtain ⟨Am, cm, rfl, hcm, _⟩ := Kd.R_reads ho; have HM5 := Aside0.mk ho; have HB5 := Aside0.mk hbl; clear ho hbl hgr hat)
        refine (is_c g ks Am cm row w5 (HRO3.out.below HB5.out) (Kd.R_reads' HM5.out).2.2 hcm HBO.out HKN.out).mono ?_
        rintro e w6 ⟨rfl, hb⟩
        have HM6 := Aside0.mk (Kd.R_below HM5.out hb)
        have HB6 := Aside0.mk (below_then HB5.out HB5.out.size hb)
        clear hb HM5 hza
        go_wp2_with fail
        refine (ris_c g2 HK.out A2 c2 row w6 (HRR3.out.below HB6.out) (Kd.C_below HR3.out HB6.out) hc2 HF.out).mono ?_
        rintro e w7 ⟨rfl, hb⟩
        have HM7 := Aside0.mk (Kd.R_below HM6.out hb)
        have HB7 := Aside0.mk (below_then HB6.out HB6.out.size hb)
        clear hb HM6 HBA HN0 HB5 HB6
        generalize isB ks row = b
        have hbb : decide (b = b) = true := by simp
        go_wp2_with fail
        refine (first_c g ks Am cm row w7 (HRO3.out.below HB7.out) (Kd.R_reads' HM7.out).2.2 hcm HBO.out HKN.out (by omega)).mono ?_
        rintro e w8 ⟨⟨v8, rfl, hR⟩, hb⟩
        have HM8 := Aside0.mk (Kd.R_below HM7.out hb)
        have HB8 := Aside0.mk (below_then HB7.out HB7.out.size hb)
        obtain ⟨Af, cf, rfl, hcf, _⟩ := Kd.R_reads hR
        have HF8 := Aside0.mk hR
        clear hb hR HM7
        go_wp2_with fail
        refine (rfirst_c g2 HK.out A2 c2 row w8 (HRR3.out.below HB8.out) (Kd.C_below HR3.out HB8.out) hc2 HF.out (by omega)).mono ?_
        rintro e w9 ⟨v9, rfl, hR, hb⟩
        have HM9 := Aside0.mk (Kd.R_below HM8.out hb)
        have HB9 := Aside0.mk (below_then HB8.out HB8.out.size hb)
        have HF9 := Aside0.mk (Kd.R_below HF8.out hb)
        obtain ⟨Ag, cg, rfl, hcg, _⟩ := Kd.R_reads hR
        have HG9 := Aside0.mk hR
        clear hb hR HM8 HF8
        have HFL : Aside0 ((firstB ks row).length < 9223372036854775807) := ⟨by
          have := firstG_len ks (row ++ allL ks.length) ks.length [] (List.replicate ks.length 0)
          have := HKN.out
          unfold firstB
          simp only [List.length_nil] at *
          omega⟩
        go_wp2_with fail
        refine (ints_c Af cf (firstB ks row) Ag cg (firstB ks row) w9 (Kd.R_reads' HF9.out).2.2 hcf (Kd.R_reads' HG9.out).2.2 hcg HFL.out).mono ?_
        rintro e w10 ⟨rfl, hb⟩
        have HM10 := Aside0.mk (Kd.R_below HM9.out hb)
        have HB10 := Aside0.mk (below_then HB9.out HB9.out.size hb)
        clear hb HM9 HF9 HG9
        rw [decide_eq_true (rfl : firstB ks row = firstB ks row)]
        go_wp2_with fail
        refine (ints_c Am cm row A2 c2 row w10 (Kd.R_reads' HM10.out).2.2 hcm (Kd.C_below HR3.out HB10.out) hc2 (by omega)).mono ?_
        rintro e w11 ⟨rfl, hb⟩
        have HB11 := Aside0.mk (below_then HB10.out HB10.out.size hb)
        clear hb HM10
        rw [decide_eq_true (rfl : row = row)]
        go_wp2
        go_ret
        exact ⟨rfl, below_then HB3.out HB3.out.size HB11.out⟩
end Go.Proofs.Ytnblmjkaieibhaa.HO
