/-
  CONTRACTS BY HAND (orders, 4): the order of a history.
-/
import Derived.Test.YtnblmjkaieibhaaOdC
namespace Go.Proofs.Ytnblmjkaieibhaa.HO
open Go.Proofs.Ytnblmjkaieibhaa.HU Go.RowKit Go.Proofs.Ytnblmjkaieibhaa.HK Go.Proofs.Ytnblmjkaieibhaa.HP Go.Proofs.YtnblmjkaieibhaaW.PrintWords Go.Proofs.YtnblmjkaieibhaaW.PrintLast Go.Proofs.YtnblmjkaieibhaaW.PrintMore
set_option linter.unusedVariables false
set_option linter.unusedSimpArgs false
theorem add_any (base g : Nat) (vl v : Value) (last : List Int) (ks : List Kn) (r : Int) (Ae : Option Addr) (ce : Nat) (le : List Int) (w : World) (h : Mk w base g vl v last ks) (hb : base ≤ w.heap.size) (hs : Small last ks) (hn : ks.length < 2000)
    (hr : Kd.C (Kd.int .i64) w Ae le.length le) (hc : le.length ≤ ce) (hl : le.length ≤ 1000) :
    Calls Try.prog 35 #[.pointer (some ⟨g, 0, none⟩), .agg #[.int .i64 r, .slice Ae le.length ce]] w fun e w' => AddPost base g vl (addF (last, ks) ⟨r, le⟩) e w' ∧ Below base w w' := by
  by_cases h0 : 0 ≤ r
  · by_cases h1 : r < last.length
    · exact add_yes base g vl v last ks r Ae ce le w h hb h0 h1 hs hn hr hc hl
    · exact (add_no base g vl v last ks r Ae ce le w h (by omega) hs).mono fun e w' hh => ⟨hh.1, hh.2.mono hb⟩
  · exact (add_no base g vl v last ks r Ae ce le w h (by omega) hs).mono fun e w' hh => ⟨hh.1, hh.2.mono hb⟩
/-- events, one behind the other -/
def ofG : List Ev_ → List Int × List Kn → Option (List Int × List Kn)
  | [], s => some s
  | e :: t, s => (addF s e).bind (ofG t)
/-- the order of a history, if it is one -/
def hisF (n : Int) (l : List Ev_) : Option (List Kn) := if n < 1 ∨ 64 < n ∨ 2000 < l.length then none else (ofG l (List.replicate n.toNat 0, [])).map (·.2)
def OfPost (o : Option (List Kn)) (e : Ending) (W' : World) : Prop :=
  match o with
  | none => e = .returned (.tuple #[.pointer none, .int .i64 2])
  | some ks => ∃ g, e = .returned (.tuple #[.pointer (some ⟨g, 0, none⟩), .int .i64 0]) ∧ Ro W' g ks
theorem addF_len {last last' : List Int} {ks ks' : List Kn} {e : Ev_} (ha : addF (last, ks) e = some (last', ks')) : ks'.length = ks.length + 1 ∧ last'.length = last.length := by
  unfold addF at ha
  dsimp only at ha
  split at ha
  · cases ha
  · split at ha
    · cases ha
    · injection ha with ha
      injection ha with e1 e2
      subst e1 e2
      simp
theorem ev_at {w : World} {A : Option Addr} {l : List Ev_} (h : Kd.C k56 w A l.length l) (i : Nat) (hi : i < l.length) : ∃ ad A1 c1, A = some ad ∧ w.cell? (ad.add (i * 2)) = some (.int .i64 l[i].f0) ∧
    w.cell? ⟨(ad.add (i * 2)).block, (ad.add (i * 2)).off + 1, none⟩ = some (.slice A1 l[i].f1.length c1) ∧ l[i].f1.length ≤ c1 ∧ Kd.C (Kd.int .i64) w A1 l[i].f1.length l[i].f1 := by
  obtain ⟨ad, A1, c1, h0, h1, h2, h3, h4⟩ := at_T56 h (i : Int) (by omega) (by omega)
  have hrd : rd_T56 l (i : Int) = l[i] := by simp [rd_T56, hi]
  rw [hrd, Int.toNat_natCast] at h1 h2
  rw [hrd] at h3 h4
  exact ⟨ad, A1, c1, h0, h1, h2, h3, h4⟩
set_option maxHeartbeats 8000000 in
theorem of_calls (n : Int) (A : Option Addr) (c : Nat) (l : List Ev_) (w : World) (hr : Kd.C k56 w A l.length l) (hc : l.length ≤ c) (hl : l.length ≤ 2000 → ∀ e ∈ l, e.f1.length ≤ 1000) :
    Calls Try.prog 24 #[.int .i64 n, .slice A l.length c] w fun e w' => OfPost (hisF n l) e w' ∧ Below w.heap.size w w' := by
  have HR := Aside0.mk hr
  clear hr
  by_cases hn : n < 1 ∨ 64 < n
  · have hN : hisF n l = none := by unfold hisF; rw [if_pos (by omega)]
    rw [hN]
    go_enter Try.func24, Try.ntmps24
    go_wp2_with fail
    refine (new_no n w hn).mono ?_
    rintro e w1 ⟨v, rfl, hR, hb⟩
    have HB := Aside0.mk hb
    clear hR hb
    go_wp2
    go_ret2
    exact ⟨rfl, HB.out⟩
  · obtain ⟨m, rfl⟩ : ∃ m : Nat, n = m := ⟨n.toNat, by omega⟩
    have hm1 : 1 ≤ m := by omega
    have hm2 : m ≤ 64 := by omega
    by_cases h2 : 2000 < l.length
    · have hN : hisF (m : Int) l = none := by unfold hisF; rw [if_pos (by omega)]
      rw [hN]
      have d2 : decide ((2000 : Int) < (l.length : Int)) = true := decide_eq_true (by omega)
      clear hn
      go_enter Try.func24, Try.ntmps24
      go_wp2_with fail
      refine (new_c m w (by omega) (by omega)).mono ?_
      rintro e w1 ⟨v, rfl, hR, hb⟩
      have HB := Aside0.mk hb
      clear hR hb
      go_wp2
      go_ret2
      exact ⟨rfl, HB.out⟩
    · have hN : hisF (m : Int) l = (ofG l (List.replicate m 0, [])).map (·.2) := by unfold hisF; rw [if_neg (by omega), Int.toNat_natCast]
      rw [hN]
      have d2 : decide ((2000 : Int) < (l.length : Int)) = false := decide_eq_false (by omega)
      have hl' := Aside0.mk (hl (by omega))
      have hm8 : (m : Int).toNat * 8 ≤ 281474976710656 := by rw [Int.toNat_natCast]; omega
      have hm0 : (0 : Int) ≤ (m : Int) := by omega
      clear hn hl hN
      go_enter Try.func24, Try.ntmps24
      go_wp2_with fail
      refine (new_c m w (by omega) (by omega)).mono ?_
      rintro e w1 ⟨v, rfl, hR, hb⟩
      have HB := Aside0.mk hb
      clear hR hb
      go_wp2_with ((with_reducible refine gate_dst (N := 24) rfl ?_); refine Kd.R_make (Kd.int .i64) (w0 := w1) w1.heap.size 3 rfl (N := 24) rfl 28 _ _ rfl (m : Int) rfl rfl Try.underlying28 (.int .i64 0) 8 infoI rfl (by decide) (by decide) (0 : Int) (ok := fun _ => True) (okp := fun _ => True) rfl (fun _ hk => hk) trivial hm0 hm8 (Below.refl _ _) (Nat.le_refl _) ?_; intro vl w2 ho hbl hgr hnew; obtain ⟨Al, cl, rfl, hcl, _⟩ := Kd.R_reads ho; rw [Int.toNat_natCast] at ho hcl; rw [List.length_replicate] at ho hcl; have HO := Aside0.mk (Kd.R_lower ho HB.out.size); have HB2 := Aside0.mk (below_then HB.out HB.out.size hbl); clear ho hbl hgr hnew)
      have hb3 := below_alloc (Below.refl w2.heap.size w2) (.cells #[.slice Al m cl, .func (.func 33) #[] #[], .func (.func 34) #[] #[], .slice none 0 0] 78)
      have HM0 : Aside0 (Mk (w2.alloc (.cells #[.slice Al m cl, .func (.func 33) #[] #[], .func (.func 34) #[] #[], .slice none 0 0] 78)) w.heap.size w2.heap.size (.slice Al m cl) (.slice none 0 0) (List.replicate m 0) []) :=
        ⟨⟨blk_new w2 _, HB2.out.size, Kd.R_below HO.out hb3, Kd.R_nil _ _ _ _ _⟩⟩
      have HB3 := Aside0.mk (below_then HB2.out HB2.out.size hb3)
      have hlb : l.length ≤ 2000 := by omega
      clear hb3 HO
      go_loopw [29] (fun v29 wr => ∃ (i : Nat) (last : List Int) (ks : List Kn) (v : Value), i ≤ l.length ∧ v29 = .int .i64 i ∧ Aside0 (Mk wr w.heap.size w2.heap.size (.slice Al m cl) v last ks) ∧ Aside0 (ofG (l.drop i) (last, ks) = ofG l (List.replicate m 0, [])) ∧ Aside0 (Small last ks ∧ ks.length = i) ∧ Aside0 (Below w.heap.size w wr)) (fun v29 _ => l.length - (intOf v29).toNat)
      case atStart => exact ⟨0, _, _, _, by omega, rfl, HM0, ⟨by rw [List.drop_zero]⟩, ⟨⟨by simpa using hm1, by simpa using hm2, by simp, fun x hx => by rw [(List.mem_replicate.1 hx).2]; omega, fun x hx => absurd hx (by simp)⟩, rfl⟩, HB3⟩
      case round =>
        clear HM0 HB2 HB3
        obtain ⟨i, last, ks, v, hi, rfl, HM, HG, HS, HBr⟩ := hrel
        by_cases hlt : i < l.length
        · obtain ⟨ad, A1, c1, rfl, a0, a1, b0, b1⟩ := ev_at HR.out i hlt
          have a0 := pw_cell_below HBr.out a0
          have a1 := pw_cell_below HBr.out a1
          have HE := Aside0.mk (hl'.out l[i] (List.getElem_mem _))
          have HDR := Aside0.mk (List.drop_eq_getElem_cons hlt)
          have HC := Aside0.mk (Kd.C_below b1 HBr.out)
          clear b1
          generalize l[i] = ev at a0 a1 b0 HE HDR HC
          obtain ⟨r, le⟩ := ev
          dsimp only at a0 a1 b0 HE HDR HC
          go_wp2_with fail
          have hb4 := below_alloc (Below.refl wr.heap.size wr) (.cells #[.int .i64 r, .slice A1 le.length c1] 56)
          have hks : ks.length < 2000 := by rw [HS.out.2]; omega
          refine (add_any w.heap.size w2.heap.size (.slice Al m cl) v last ks r A1 c1 le _ (HM.out.below hb4) (Nat.le_trans HBr.out.size hb4.size) HS.out.1 hks (Kd.C_below HC.out hb4) b0 HE.out).mono ?_
          rintro e w5 ⟨⟨rfl, hpost⟩, hb5⟩
          have HB5 := Aside0.mk ((HBr.out.trans (hb4.mono HBr.out.size)).trans hb5)
          clear hb4 hb5 a0 a1 b0
          cases hadd : addF (last, ks) ⟨r, le⟩ with
          | none =>
            have HN : Aside0 (ofG l (List.replicate m 0, []) = none) := ⟨by rw [← HG.out, HDR.out]; unfold ofG; rw [hadd]; rfl⟩
            clear hadd hpost
            go_wp2
            go_ret2
            rw [HN.out]
            exact ⟨rfl, HB5.out⟩
          | some st =>
            obtain ⟨last', ks'⟩ := st
            obtain ⟨v', hm5⟩ := hpost last' ks' hadd
            have HM5 := Aside0.mk hm5
            have HN : Aside0 (ofG (l.drop (i + 1)) (last', ks') = ofG l (List.replicate m 0, [])) := ⟨by rw [← HG.out, HDR.out]; show _ = (addF (last, ks) ⟨r, le⟩).bind _; rw [hadd]; rfl⟩
            have HS5 : Aside0 (Small last' ks' ∧ ks'.length = i + 1) := ⟨HS.out.1.add hks hadd, by rw [(addF_len hadd).1, HS.out.2]⟩
            clear hadd hpost hm5
            go_wp2
            go_roundw
            case rel => exact ⟨i + 1, last', ks', v', by omega, by go_num, HM5, HN, HS5, HB5⟩
            case measure => simp [intOf]; omega
        · obtain rfl : i = l.length := by omega
          have HN : Aside0 (ofG l (List.replicate m 0, []) = some (last, ks)) := ⟨by rw [← HG.out, List.drop_length]; rfl⟩
          obtain ⟨Av, cv, rfl, hcv, _⟩ := Kd.R_reads HM.out.row
          have g3 := (blk_cell HM.out.blk 3).trans rfl
          go_wp2
          go_ret2
          rw [HN.out]
          refine ⟨⟨_, rfl, Av, cv, blk_new wr _, hcv, ?_⟩, below_alloc HBr.out _⟩
          exact (Kd.R_reads' (Kd.R_alloc HM.out.row _)).2.2
end Go.Proofs.Ytnblmjkaieibhaa.HO
