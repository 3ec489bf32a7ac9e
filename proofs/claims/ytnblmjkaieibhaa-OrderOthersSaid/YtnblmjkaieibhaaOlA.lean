/-
  CONTRACTS BY HAND (orders, 7): Great, begin: the program's order and the document's, of one history.
-/
import Derived.Test.YtnblmjkaieibhaaOrB
import Derived.Test.YtnblmjkaieibhaaOpC
import Derived.Test.YtnblmjkaieibhaaOdE
namespace Go.Proofs.Ytnblmjkaieibhaa.HO
open Go.Proofs.Ytnblmjkaieibhaa.HU Go.RowKit Go.Proofs.Ytnblmjkaieibhaa.HK Go.Proofs.Ytnblmjkaieibhaa.HP Go.Proofs.Ytnblmjkaieibhaa.Qobase Go.Proofs.YtnblmjkaieibhaaW.PrintWords Go.Proofs.YtnblmjkaieibhaaW.PrintLast Go.Proofs.YtnblmjkaieibhaaW.PrintMore
set_option linter.unusedVariables false
set_option linter.unusedSimpArgs false
/-- what it says that events are no more than are gone through -/
def SmallH (l : List Ev_) : Prop := l.length ≤ 2000 → l.length ≤ 120 ∧ ∀ q, q < l.length → (ek l q).f1.length ≤ 20
theorem great_l0 (l : List Ev_) : ∀ (d i : Nat), l.length - i = d → i ≤ l.length → (∀ q, q < i → (ek l q).f1.length ≤ 20) → ∃ r, Ev (fun k => dispatcherlaw19_Great.l0 k l (i : Int)) r ∧ (r = false → SmallH l) := by
  intro d
  induction d with
  | zero =>
    intro i hd hi hq
    obtain rfl : i = l.length := by omega
    by_cases h : 120 < l.length
    · refine ⟨decide ((l.length : Int) ≤ 2000), Ev.round (Ev.round (g := fun k => dispatcherlaw19_Great.j1 k l (l.length : Int) false) (f := fun _ => some _) (Ev.now _) (fun k => ?_)) (fun k => ?_), fun hr h2 => ?_⟩
      · rw [dispatcherlaw19_Great.j1, if_neg (by simp), if_pos (by omega)]
      · rw [dispatcherlaw19_Great.l0, if_neg (by omega)]
      · have := of_decide_eq_false hr
        omega
    · refine ⟨false, Ev.round (Ev.round (g := fun k => dispatcherlaw19_Great.j1 k l (l.length : Int) false) (f := fun _ => some _) (Ev.now _) (fun k => ?_)) (fun k => ?_), fun _ _ => ⟨by omega, hq⟩⟩
      · rw [dispatcherlaw19_Great.j1, if_neg (by simp), if_neg (by omega)]
      · rw [dispatcherlaw19_Great.l0, if_neg (by omega)]
  | succ d ih =>
    intro i hd hi hq
    have hlt : i < l.length := by omega
    by_cases h3 : i ≤ 2000
    · have hrd : rd_T56 l (i : Int) = ek l i := by simp [rd_T56, ek]
      have d3 : decide ((i : Int) ≤ 2000) = true := decide_eq_true (by omega)
      by_cases h4 : 20 < (ek l i).f1.length
      · refine ⟨true, Ev.round (Ev.round (g := fun k => dispatcherlaw19_Great.j1 k l (i : Int) (decide ((i : Int) ≤ 2000))) (f := fun _ => some _) (Ev.now _) (fun k => ?_)) (fun k => ?_), fun h => by cases h⟩
        · rw [dispatcherlaw19_Great.j1, d3, if_pos rfl, if_pos (by omega), if_pos (by omega), hrd, if_pos (by omega)]
        · rw [dispatcherlaw19_Great.l0, if_pos (by omega)]
      · obtain ⟨r, h5, h6⟩ := ih (i + 1) (by omega) (by omega) (fun q hq2 => by
          rcases Nat.lt_succ_iff_lt_or_eq.1 hq2 with h7 | h7
          · exact hq q h7
          · rw [h7]; omega)
        refine ⟨r, Ev.round (Ev.round (g := fun k => dispatcherlaw19_Great.j1 k l (i : Int) (decide ((i : Int) ≤ 2000))) h5 (fun k => ?_)) (fun k => ?_), h6⟩
        · rw [dispatcherlaw19_Great.j1, d3, if_pos rfl, if_pos (by omega), if_pos (by omega), hrd, if_neg (by omega), wrap64_nat i (by omega)]
        · rw [dispatcherlaw19_Great.l0, if_pos (by omega)]
    · have d3 : decide ((i : Int) ≤ 2000) = false := decide_eq_false (by omega)
      refine ⟨decide ((l.length : Int) ≤ 2000), Ev.round (Ev.round (g := fun k => dispatcherlaw19_Great.j1 k l (i : Int) (decide ((i : Int) ≤ 2000))) (f := fun _ => some _) (Ev.now _) (fun k => ?_)) (fun k => ?_), fun _ h2 => by omega⟩
      · rw [dispatcherlaw19_Great.j1, d3, if_neg (by simp), if_pos (by omega)]
      · rw [dispatcherlaw19_Great.l0, if_pos (by omega)]
theorem great_c (A : Option Addr) (c : Nat) (l : List Ev_) (w : World) (hr : Kd.C k56 w A l.length l) (hc : l.length ≤ c) :
    ∃ r : Bool, (r = false → SmallH l) ∧ Calls Try.prog 9 #[.slice A l.length c] w fun e w' => e = .returned (.bool r) ∧ ∃ n, w' = w.drewN n := by
  obtain ⟨r, h1, h2⟩ := great_l0 l l.length 0 (by omega) (by omega) (fun q hq => by omega)
  obtain ⟨k, hk⟩ := h1.rounds
  exact ⟨r, h2, (dispatcherlaw19_Great.calls k A c l r w hr hc hk).mono fun e w' h => ⟨h.1, h.2.out⟩⟩
theorem SmallH.le {l : List Ev_} (h : SmallH l) : l.length ≤ 2000 → ∀ e ∈ l, e.f1.length ≤ 1000 := fun h2 e he => by
  obtain ⟨i, hi, rfl⟩ := List.getElem_of_mem he
  have := (h h2).2 i hi
  rw [ek_eq hi] at this
  omega
theorem addF_f2 {s s2 : List Int × List Kn} {e : Ev_} (ha : addF s e = some s2) : ∀ k ∈ s2.2, k ∈ s.2 ∨ k.f2.length ≤ e.f1.length + 1 := by
  unfold addF at ha
  split at ha
  · cases ha
  · split at ha
    · cases ha
    · injection ha with ha
      subst ha
      intro k hk
      rcases List.mem_append.1 hk with hk | hk
      · exact .inl hk
      · right
        rw [List.mem_singleton.1 hk]
        unfold behindOf
        dsimp only
        rw [List.length_append]
        split <;> simp
theorem ofG_f2 {B : Nat} : ∀ (t : List Ev_) (s s2 : List Int × List Kn), ofG t s = some s2 → (∀ k ∈ s.2, k.f2.length ≤ B) → (∀ e ∈ t, e.f1.length + 1 ≤ B) → ∀ k ∈ s2.2, k.f2.length ≤ B
  | [], s, s2, h, hs, _ => by
    unfold ofG at h
    injection h with h
    subst h
    exact hs
  | e :: t, s, s2, h, hs, ht => by
    unfold ofG at h
    obtain ⟨s1, h1, h2⟩ := Option.bind_eq_some_iff.1 h
    refine ofG_f2 t s1 s2 h2 (fun k hk => ?_) (fun e he => ht e (List.mem_cons_of_mem _ he))
    rcases addF_f2 h1 k hk with h3 | h3
    · exact hs k h3
    · exact Nat.le_trans h3 (ht e (by simp))
theorem Known.behOk {n : Int} {l : List Ev_} {N : Nat} {ks : List Kn} (h : Known l N ks) (hh : hisF n l = some ks) (hl : ∀ e ∈ l, e.f1.length ≤ 1000) : BehOk ks := fun q h0 h1 => by
  obtain ⟨m, rfl⟩ : ∃ m : Nat, q = m := ⟨q.toNat, by omega⟩
  have hm : m < l.length := by rw [← h.len]; omega
  have hmk : m < ks.length := by omega
  refine ⟨?_, fun k hk => ?_⟩
  · unfold hisF at hh
    split at hh
    · cases hh
    · obtain ⟨s2, h2, h3⟩ := Option.map_eq_some_iff.1 hh
      subst h3
      have h4 := ofG_f2 (B := 1001) l _ s2 h2 (fun k hk => absurd hk (by simp)) (fun e he => by have := hl e he; omega) _ (List.getElem_mem hmk)
      have h5 : kat s2.2 (m : Int) = s2.2[m] := by simp [kat, rd_T64, hmk]
      rw [h5]
      omega
  · have := BH_rng h.V hm (h.beh m hm) hk
    have := h.len
    omega
/-- the two orders of one history, or none -/
def BegPost (B : Nat) (n : Int) (l : List Ev_) (e : Ending) (W' : World) : Prop :=
  e = .returned (.tuple #[.pointer none, .pointer none, .bool true]) ∨
  ∃ g g2 N ks, e = .returned (.tuple #[.pointer (some ⟨g, 0, none⟩), .pointer (some ⟨g2, 0, none⟩), .bool true]) ∧ n = (N : Nat) ∧ Known l N ks ∧ Ro W' g ks ∧ Rr W' g2 (N : Int) (l.map (·.f0)) ((rowsF l l.length).map (tab l.length)) ∧ (B ≤ g2 ∧ BehOk ks)
theorem begin_c (n : Int) (A : Option Addr) (c : Nat) (l : List Ev_) (w : World) (hr : Kd.C k56 w A l.length l) (hc : l.length ≤ c) (hs : SmallH l) :
    Calls Try.prog 10 #[.int .i64 n, .slice A l.length c] w fun e w' => BegPost w.heap.size n l e w' ∧ Below w.heap.size w w' := by
  have HR := Aside0.mk hr
  have HS := Aside0.mk hs
  clear hr hs
  go_enter Try.func10, Try.ntmps10
  go_wp2_with fail
  refine (of_calls n A c l w HR.out hc HS.out.le).mono ?_
  rintro e w1 ⟨hp, hb⟩
  have HB := Aside0.mk hb
  clear hb
  rcases his_is n l with ⟨hbad, hh⟩ | ⟨hok, N, ks, rfl, hh, hk⟩
  · rw [hh] at hp
    obtain rfl := hp
    have HBD := Aside0.mk hbad
    clear hbad hh
    go_wp2_with fail
    refine (refOf_calls n A c l w1 (Kd.C_below HR.out HB.out) hc HS.out.le).mono ?_
    rintro e w2 ⟨hp, hb⟩
    have HB2 := Aside0.mk (below_then HB.out HB.out.size hb)
    clear hb
    rcases hp with ⟨_, rfl⟩ | ⟨hnb, _⟩
    · go_wp2
      go_ret3
      exact ⟨.inl rfl, HB2.out⟩
    · exact absurd HBD.out hnb
  · rw [hh] at hp
    obtain ⟨g, rfl, hro⟩ := hp
    have HRO := Aside0.mk hro
    have HOK := Aside0.mk hok
    have HK := Aside0.mk hk
    have HBO := Aside0.mk (hk.behOk hh (HS.out.le hk.l2))
    clear hok hh hro hk
    go_wp2_with fail
    refine (refOf_calls N A c l w1 (Kd.C_below HR.out HB.out) hc HS.out.le).mono ?_
    rintro e w2 ⟨hp, hb⟩
    have HB2 := Aside0.mk (below_then HB.out HB.out.size hb)
    have HRO2 := Aside0.mk (HRO.out.below hb)
    clear hb
    rcases hp with ⟨hbd, _⟩ | ⟨_, g2, rfl, hg2, hrr⟩
    · exact absurd hbd HOK.out
    · have HRR := Aside0.mk hrr
      have HG2 := Aside0.mk (Nat.le_trans HB.out.size hg2)
      clear hrr hg2
      go_wp2
      go_ret3
      exact ⟨.inr ⟨g, g2, N, ks, rfl, rfl, HK.out, HRO2.out, HRR.out, HG2.out, HBO.out⟩, HB2.out⟩
end Go.Proofs.Ytnblmjkaieibhaa.HO
