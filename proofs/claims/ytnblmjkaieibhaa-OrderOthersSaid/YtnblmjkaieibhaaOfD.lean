/-
  First, said plainly: the program's row and the document's are one. No program is walked here.
-/
import Derived.Test.YtnblmjkaieibhaaOfC
import Derived.Test.YtnblmjkaieibhaaQobasex4
namespace Go.Proofs.Ytnblmjkaieibhaa.HO
open Go.Proofs.Ytnblmjkaieibhaa.HU Go.RowKit Go.Proofs.Ytnblmjkaieibhaa.HK Go.Proofs.Ytnblmjkaieibhaa.HP Go.Proofs.Ytnblmjkaieibhaa.Qobase Go.Proofs.YtnblmjkaieibhaaW.PrintWords Go.Proofs.YtnblmjkaieibhaaW.PrintLast Go.Proofs.YtnblmjkaieibhaaW.PrintMore
set_option linter.unusedVariables false
set_option linter.unusedSimpArgs false
set_option linter.unusedSectionVars false
/-- how the document's marks and the program's stand to each other -/
structure FR (l : List Ev_) (inb : List Bool) (ins out : List Int) : Prop where
  len : inb.length = l.length
  inr : InR l ins out
  bit : ∀ m : Nat, m < l.length → (rdOf false inb (m : Int) = true ↔ (m : Int) ∈ out)
  cnt : inb.countP id = out.length
  dn : ∀ x ∈ out, 0 ≤ x ∧ x < l.length ∧ ∀ m : Nat, HH l x.toNat m = true → (m : Int) ∈ out
theorem FR.outB {l : List Ev_} {inb : List Bool} {ins out : List Int} (f : FR l inb ins out) {m : Nat} (hm : m < l.length) : outB ins (m : Int) = true ↔ ¬ (m : Int) ∈ out := by
  obtain ⟨h0, h1⟩ := f.inr.2 m hm
  unfold HO.outB
  rw [← h1, beq_iff_eq]
  omega
section
variable {l : List Ev_} {N : Nat} {ks : List Kn} (h : Known l N ks)
include h
theorem rdyP_iff {inb : List Bool} {ins out : List Int} (f : FR l inb ins out) {i : Nat} (hi : i < l.length) : rdyP ks ins (i : Int) = true ↔ (¬ (i : Int) ∈ out ∧ ∀ m : Nat, HH l i m = true → (m : Int) ∈ out) := by
  have hb : hasB ks (i : Int) = true := hasB_iff.2 ⟨by omega, by rw [h.len]; omega⟩
  have ha : (kat ks (i : Int)).f2.any (HO.outB ins) = false ↔ ∀ k ∈ (kat ks (i : Int)).f2, k ∈ out := by
    rw [List.any_eq_false]
    constructor
    · intro hall k hk
      have hk0 := BH_rng h.V hi (h.beh i hi) hk
      obtain ⟨m, rfl⟩ : ∃ m : Nat, k = m := ⟨k.toNat, by omega⟩
      apply Classical.byContradiction
      intro hno
      exact hall _ hk ((f.outB (by omega)).2 hno)
    · intro hall k hk hz
      have hk0 := BH_rng h.V hi (h.beh i hi) hk
      obtain ⟨m, rfl⟩ : ∃ m : Nat, k = m := ⟨k.toNat, by omega⟩
      exact (f.outB (by omega)).1 hz (hall _ hk)
  unfold rdyP
  rw [hb, Bool.true_and, Bool.and_eq_true, f.outB hi, Bool.not_eq_true', ha]
  refine and_congr_right (fun _ => ?_)
  constructor
  · intro hall m hm
    obtain ⟨k, hk, hkm⟩ := (H_bh h.V hi (h.beh i hi) m).1 hm
    have hkp := hall _ hk
    rcases hkm with rfl | hkm
    · exact hkp
    · refine (f.dn _ hkp).2.2 m ?_
      rw [Int.toNat_natCast]
      exact hkm
  · intro hall k hk
    have hk0 := BH_rng h.V hi (h.beh i hi) hk
    obtain ⟨m, rfl⟩ : ∃ m : Nat, k = m := ⟨k.toNat, by omega⟩
    exact hall m ((H_bh h.V hi (h.beh i hi) m).2 ⟨m, hk, .inl rfl⟩)
theorem refReady_l0 {inb : List Bool} {ins out : List Int} (f : FR l inb ins out) (n : Int) {i : Nat} (hi : i < l.length) : ∀ (d m : Nat), l.length - m = d → m ≤ l.length → (∀ q : Nat, q < m → HH l i q = true → (q : Int) ∈ out) →
    Ev (fun k => dispatcherref19_Order_ready.l0 k inb (i : Int) (m : Int) n (l.map (·.f0)) ((rowsF l l.length).map (tab l.length))) (rdyP ks ins (i : Int), n)
  | 0, m, hd, hm, hq => by
    obtain rfl : m = l.length := by omega
    refine Ev.round (f := fun _ => some _) (Ev.now _) (fun k => ?_)
    rw [dispatcherref19_Order_ready.l0, if_neg (by rw [f.len]; omega), if_pos (by omega), if_pos (by rw [f.len]; omega)]
    congr 2
    rw [Bool.eq_iff_iff, rdyP_iff h f hi, Bool.not_eq_true', Bool.eq_false_iff, ne_eq, f.bit i hi]
    constructor
    · intro h1
      exact ⟨h1, fun m hm => hq m (by have := H_lt h.V hi hm; omega) hm⟩
    · exact fun h1 => h1.1
  | d + 1, m, hd, hm, hq => by
    have hml : m < l.length := by omega
    have hl2 := h.l2
    have hrows : ((rowsF l l.length).map (tab l.length)).length = l.length := by rw [List.length_map, rowsF_len]
    have hw : wrap64 ((m : Int) + 1) = ((m + 1 : Nat) : Int) := wrap64_nat m (by omega)
    have unf : ∀ k, dispatcherref19_Order_ready.l0 (k + 1) inb (i : Int) (m : Int) n (l.map (·.f0)) ((rowsF l l.length).map (tab l.length)) =
        if HH l i m = true then (if rdOf false inb (m : Int) = true then dispatcherref19_Order_ready.l0 k inb (i : Int) ((m + 1 : Nat) : Int) n (l.map (·.f0)) ((rowsF l l.length).map (tab l.length)) else some (false, n))
        else dispatcherref19_Order_ready.l0 k inb (i : Int) ((m + 1 : Nat) : Int) n (l.map (·.f0)) ((rowsF l l.length).map (tab l.length)) := fun k => by
      rw [dispatcherref19_Order_ready.l0, if_pos (by rw [f.len]; omega), if_pos (by omega), if_pos (by rw [hrows]; omega), if_pos (by omega), rdL_rows hi, tab_len, if_pos (by omega), tab_rd hml, hw]
    by_cases hH : HH l i m = true
    · by_cases hb : rdOf false inb (m : Int) = true
      · refine Ev.round (refReady_l0 f n hi d (m + 1) (by omega) (by omega) (fun q hq1 hq2 => ?_)) (fun k => by rw [unf, if_pos hH, if_pos hb])
        rcases Nat.lt_succ_iff_lt_or_eq.1 hq1 with h3 | h3
        · exact hq q h3 hq2
        · subst h3; exact (f.bit q hml).1 hb
      · refine Ev.round (f := fun _ => some _) (Ev.now _) (fun k => ?_)
        rw [unf, if_pos hH, if_neg hb]
        congr 2
        symm
        rw [Bool.eq_false_iff, ne_eq, rdyP_iff h f hi]
        exact fun hh => hb ((f.bit m hml).2 (hh.2 m hH))
    · refine Ev.round (refReady_l0 f n hi d (m + 1) (by omega) (by omega) (fun q hq1 hq2 => ?_)) (fun k => by rw [unf, if_neg hH])
      rcases Nat.lt_succ_iff_lt_or_eq.1 hq1 with h3 | h3
      · exact hq q h3 hq2
      · subst h3; exact absurd hq2 hH
theorem refReady {inb : List Bool} {ins out : List Int} (f : FR l inb ins out) (n : Int) {i : Nat} (hi : i < l.length) : Ev (fun k => dispatcherref19_Order_ready.f k n (l.map (·.f0)) ((rowsF l l.length).map (tab l.length)) inb (i : Int)) (rdyP ks ins (i : Int), n) :=
  Ev.same (refReady_l0 h f n hi l.length 0 (by omega) (by omega) (fun q hq => by omega)) (fun k => by rw [dispatcherref19_Order_ready.f]; rfl)
/-- one more is in -/
theorem FR.step {inb : List Bool} {ins out : List Int} (f : FR l inb ins out) {v : Nat} (hv : v < l.length) (hr : rdyP ks ins (v : Int) = true) : FR l (inb.set v true) (ins.set v (rd ins (v : Int) + 1)) (out ++ [(v : Int)]) := by
  obtain ⟨r1, r2⟩ := (rdyP_iff h f hv).1 hr
  have hvb : v < inb.length := by rw [f.len]; exact hv
  have hb0 : inb[v] = false := by
    have h1 : ¬ rdOf false inb (v : Int) = true := fun hh => r1 ((f.bit v hv).1 hh)
    simpa [rdOf, hvb] using h1
  refine ⟨by rw [List.length_set]; exact f.len, f.inr.set hv (by have := (f.inr.2 v hv).1; omega), fun m hm => ?_, ?_, fun x hx => ?_⟩
  · have hmb : m < inb.length := by rw [f.len]; exact hm
    have h2 := f.bit m hm
    rw [List.mem_append, List.mem_singleton]
    by_cases hvm : v = m
    · subst hvm
      simp [rdOf, hvb]
    · have : rdOf false (inb.set v true) (m : Int) = rdOf false inb (m : Int) := by simp [rdOf, List.getElem?_set, hvm]
      rw [this, h2]
      constructor
      · exact .inl
      · rintro (h3 | h3)
        · exact h3
        · omega
  · rw [List.countP_set hvb, f.cnt, hb0, List.length_append]
    simp
  · rcases List.mem_append.1 hx with hx | hx
    · exact ⟨(f.dn x hx).1, (f.dn x hx).2.1, fun m hm => List.mem_append_left _ ((f.dn x hx).2.2 m hm)⟩
    · rw [List.mem_singleton.1 hx]
      refine ⟨by omega, by omega, fun m hm => List.mem_append_left _ (r2 m ?_)⟩
      rw [Int.toNat_natCast] at hm
      exact hm
/-- as long as one is out, one is ready -/
theorem some_ready {inb : List Bool} {ins out : List Int} (f : FR l inb ins out) (hl : out.length < l.length) : ∃ v : Nat, v < l.length ∧ rdyP ks ins (v : Int) = true := by
  have hex : ∃ m : Nat, m < l.length ∧ ¬ (m : Int) ∈ out := by
    apply Classical.byContradiction
    intro hno
    have hall : ∀ m : Nat, m < l.length → (m : Int) ∈ out := fun m hm => Classical.byContradiction (fun hh => hno ⟨m, hm, hh⟩)
    have : inb.countP id = inb.length := by
      rw [List.countP_eq_length]
      intro b hb
      obtain ⟨m, hm, rfl⟩ := List.getElem_of_mem hb
      have h1 := (f.bit m (by rw [← f.len]; exact hm)).2 (hall m (by rw [← f.len]; exact hm))
      simpa [rdOf, hm] using h1
    rw [f.cnt, f.len] at this
    omega
  obtain ⟨m, hm⟩ := hex
  induction m using Nat.strongRecOn with
  | ind m ih =>
    by_cases hr : rdyP ks ins (m : Int) = true
    · exact ⟨m, hm.1, hr⟩
    · have h1 : ¬ ∀ q : Nat, HH l m q = true → (q : Int) ∈ out := fun hh => hr ((rdyP_iff h f hm.1).2 ⟨hm.2, hh⟩)
      obtain ⟨q, hq⟩ := Classical.not_forall.1 h1
      obtain ⟨hq1, hq2⟩ := Classical.not_imp.1 hq
      have := H_lt h.V hm.1 hq1
      exact ih q this ⟨by omega, hq2⟩
section
variable {inb : List Bool} {ins out want : List Int} (f : FR l inb ins out) (n : Int) {v : Nat} (hv : v < l.length) (hol : out.length ≤ 2000) {r : List Int × Int}
  (hr : Ev (fun k => dispatcherref19_Order_First.l0 k want (inb.set v true) (out ++ [(v : Int)]) n (l.map (·.f0)) ((rowsF l l.length).map (tab l.length))) r)
include f hv hol hr
theorem pick_l2 (x9 : Int) : Ev (fun k => dispatcherref19_Order_First.l2 k want inb out (v : Int) x9 n (l.map (·.f0)) ((rowsF l l.length).map (tab l.length))) r := by
  have hj : Ev (fun k => dispatcherref19_Order_First.j4 k want inb out (v : Int) x9 false n (l.map (·.f0)) ((rowsF l l.length).map (tab l.length))) r :=
    Ev.round hr (fun k => by rw [dispatcherref19_Order_First.j4, if_neg (by simp), if_pos (by omega), if_pos (by rw [f.len]; omega), if_pos (by omega), Int.toNat_natCast])
  refine Ev.round hj (fun k => ?_)
  rw [dispatcherref19_Order_First.l2, show decide ((v : Int) < 0) = false from decide_eq_false (by omega), ite_self]
theorem pick_l1 (x8 : Int) : Ev (fun k => dispatcherref19_Order_First.l1 k want inb out (v : Int) x8 n (l.map (·.f0)) ((rowsF l l.length).map (tab l.length))) r := by
  have hj : Ev (fun k => dispatcherref19_Order_First.j2 k want inb out (v : Int) x8 false n (l.map (·.f0)) ((rowsF l l.length).map (tab l.length))) r :=
    Ev.round (pick_l2 h f n hv hol hr 0) (fun k => by rw [dispatcherref19_Order_First.j2, if_neg (by simp)])
  refine Ev.round hj (fun k => ?_)
  rw [dispatcherref19_Order_First.l1, show decide ((v : Int) < 0) = false from decide_eq_false (by omega), ite_self]
theorem seek_l2 (hy : rdyP ks ins (v : Int) = true) (hn : ∀ q : Nat, q < v → rdyP ks ins (q : Int) = false) : ∀ (d m : Nat), v - m = d → m ≤ v → Ev (fun k => dispatcherref19_Order_First.l2 k want inb out (-1) (m : Int) n (l.map (·.f0)) ((rowsF l l.length).map (tab l.length))) r := by
  intro d
  induction d with
  | zero =>
    intro m hd hm
    obtain rfl : m = v := by omega
    have hR := refReady h f n hv
    rw [hy] at hR
    have hj : Ev (fun k => dispatcherref19_Order_First.j4 k want inb out (-1) (m : Int) true n (l.map (·.f0)) ((rowsF l l.length).map (tab l.length))) r := by
      refine Ev.round (Ev.bind_of hR (f := fun k bt152 => if bt152.1 = true then (dispatcherref19_Order_First.l2 k want inb out (m : Int) (wrap64 ((m : Int) + 1)) bt152.2 (l.map (·.f0)) ((rowsF l l.length).map (tab l.length))) else (dispatcherref19_Order_First.l2 k want inb out (-1) (wrap64 ((m : Int) + 1)) bt152.2 (l.map (·.f0)) ((rowsF l l.length).map (tab l.length)))) (Ev.same (pick_l2 h f n hv hol hr (wrap64 ((m : Int) + 1))) (fun k => by rw [if_pos rfl]))) (fun k => by rw [dispatcherref19_Order_First.j4, if_pos rfl])
    refine Ev.round hj (fun k => ?_)
    rw [dispatcherref19_Order_First.l2, if_pos (by rw [f.len]; omega)]
    rfl
  | succ d ih =>
    intro m hd hm
    have hl2 := h.l2
    have hml : m < l.length := by omega
    have hR := refReady h f n hml
    rw [hn m (by omega)] at hR
    have hw : wrap64 ((m : Int) + 1) = ((m + 1 : Nat) : Int) := wrap64_nat m (by omega)
    have hj : Ev (fun k => dispatcherref19_Order_First.j4 k want inb out (-1) (m : Int) true n (l.map (·.f0)) ((rowsF l l.length).map (tab l.length))) r := by
      refine Ev.round (Ev.bind_of hR (f := fun k bt152 => if bt152.1 = true then (dispatcherref19_Order_First.l2 k want inb out (m : Int) (wrap64 ((m : Int) + 1)) bt152.2 (l.map (·.f0)) ((rowsF l l.length).map (tab l.length))) else (dispatcherref19_Order_First.l2 k want inb out (-1) (wrap64 ((m : Int) + 1)) bt152.2 (l.map (·.f0)) ((rowsF l l.length).map (tab l.length)))) (Ev.same (ih (m + 1) (by omega) (by omega)) (fun k => by rw [if_neg (by simp), hw]))) (fun k => by rw [dispatcherref19_Order_First.j4, if_pos rfl])
    refine Ev.round hj (fun k => ?_)
    rw [dispatcherref19_Order_First.l2, if_pos (by rw [f.len]; omega)]
    rfl
theorem seek_l1 (hwl : want.length ≤ 2000) : ∀ (d m : Nat), want.length - m = d → m ≤ want.length → (want.drop m ++ allL l.length).find? (rdyP ks ins) = some (v : Int) → Ev (fun k => dispatcherref19_Order_First.l1 k want inb out (-1) (m : Int) n (l.map (·.f0)) ((rowsF l l.length).map (tab l.length))) r := by
  intro d
  induction d with
  | zero =>
    intro m hd hm hfd
    obtain rfl : m = want.length := by omega
    rw [List.drop_length, List.nil_append, allL, List.find?_map] at hfd
    obtain ⟨q, hq, hqv⟩ := Option.map_eq_some_iff.1 hfd
    obtain rfl : q = v := by omega
    rw [List.find?_range_eq_some] at hq
    have hj : Ev (fun k => dispatcherref19_Order_First.j2 k want inb out (-1) (want.length : Int) false n (l.map (·.f0)) ((rowsF l l.length).map (tab l.length))) r :=
      Ev.round (seek_l2 h f n hv hol hr hq.1 (fun j hj => by simpa using hq.2.2 j hj) q 0 (by omega) (by omega)) (fun k => by rw [dispatcherref19_Order_First.j2, if_neg (by simp)]; rfl)
    refine Ev.round hj (fun k => ?_)
    rw [dispatcherref19_Order_First.l1, if_neg (by omega)]
  | succ d ih =>
    intro m hd hm hfd
    have hml : m < want.length := by omega
    have hw : wrap64 ((m : Int) + 1) = ((m + 1 : Nat) : Int) := wrap64_nat m (by omega)
    rw [List.drop_eq_getElem_cons hml, List.cons_append, List.find?_cons] at hfd
    obtain ⟨x, hx⟩ : ∃ x, rd want (m : Int) = x := ⟨_, rfl⟩
    rw [← rd_lt hml, hx] at hfd
    have hj : Ev (fun k => dispatcherref19_Order_First.j2 k want inb out (-1) (m : Int) true n (l.map (·.f0)) ((rowsF l l.length).map (tab l.length))) r := by
      have unf : ∀ k, dispatcherref19_Order_First.j2 (k + 1) want inb out (-1) (m : Int) true n (l.map (·.f0)) ((rowsF l l.length).map (tab l.length)) =
          (if x ≥ 0 then (if x < (l.length : Int) then ((dispatcherref19_Order_ready.f k n (l.map (·.f0)) ((rowsF l l.length).map (tab l.length)) inb x).bind fun bt149 => (if bt149.1 = true then (dispatcherref19_Order_First.l1 k want inb out x ((m + 1 : Nat) : Int) bt149.2 (l.map (·.f0)) ((rowsF l l.length).map (tab l.length))) else (dispatcherref19_Order_First.l1 k want inb out (-1) ((m + 1 : Nat) : Int) bt149.2 (l.map (·.f0)) ((rowsF l l.length).map (tab l.length))))) else (dispatcherref19_Order_First.l1 k want inb out (-1) ((m + 1 : Nat) : Int) n (l.map (·.f0)) ((rowsF l l.length).map (tab l.length)))) else (dispatcherref19_Order_First.l1 k want inb out (-1) ((m + 1 : Nat) : Int) n (l.map (·.f0)) ((rowsF l l.length).map (tab l.length)))) := fun k => by
        rw [dispatcherref19_Order_First.j2, if_pos rfl, if_pos (by omega), if_pos (by omega), hx, hw, f.len]
      by_cases hx0 : x ≥ 0
      · by_cases hx1 : x < (l.length : Int)
        · obtain ⟨q, rfl⟩ : ∃ q : Nat, x = q := ⟨x.toNat, by omega⟩
          have hR := refReady h f n (show q < l.length by omega)
          cases hp : rdyP ks ins (q : Int) with
          | true =>
            rw [hp] at hR hfd
            have hqv : (q : Int) = (v : Int) := by simpa using hfd
            obtain rfl : q = v := by omega
            refine Ev.round (Ev.bind_of hR (f := fun k bt149 => if bt149.1 = true then (dispatcherref19_Order_First.l1 k want inb out (q : Int) ((m + 1 : Nat) : Int) bt149.2 (l.map (·.f0)) ((rowsF l l.length).map (tab l.length))) else (dispatcherref19_Order_First.l1 k want inb out (-1) ((m + 1 : Nat) : Int) bt149.2 (l.map (·.f0)) ((rowsF l l.length).map (tab l.length)))) (Ev.same (pick_l1 h f n hv hol hr ((m + 1 : Nat) : Int)) (fun k => by rw [if_pos rfl]))) (fun k => by rw [unf, if_pos hx0, if_pos hx1])
          | false =>
            rw [hp] at hR hfd
            refine Ev.round (Ev.bind_of hR (f := fun k bt149 => if bt149.1 = true then (dispatcherref19_Order_First.l1 k want inb out (q : Int) ((m + 1 : Nat) : Int) bt149.2 (l.map (·.f0)) ((rowsF l l.length).map (tab l.length))) else (dispatcherref19_Order_First.l1 k want inb out (-1) ((m + 1 : Nat) : Int) bt149.2 (l.map (·.f0)) ((rowsF l l.length).map (tab l.length)))) (Ev.same (ih (m + 1) (by omega) (by omega) hfd) (fun k => by rw [if_neg (by simp)]))) (fun k => by rw [unf, if_pos hx0, if_pos hx1])
        · have hp : rdyP ks ins x = false := by
            have : hasB ks x = false := by unfold hasB; rw [h.len, decide_eq_false hx1, Bool.and_false]
            unfold rdyP
            rw [this]
            rfl
          rw [hp] at hfd
          exact Ev.round (ih (m + 1) (by omega) (by omega) hfd) (fun k => by rw [unf, if_pos hx0, if_neg hx1])
      · have hp : rdyP ks ins x = false := by
          have : hasB ks x = false := by unfold hasB; rw [decide_eq_false (show ¬ 0 ≤ x from hx0), Bool.false_and]
          unfold rdyP
          rw [this]
          rfl
        rw [hp] at hfd
        exact Ev.round (ih (m + 1) (by omega) (by omega) hfd) (fun k => by rw [unf, if_neg hx0])
    refine Ev.round hj (fun k => ?_)
    rw [dispatcherref19_Order_First.l1, if_pos (by omega)]
    rfl
end
/-- what a search finds is an event's number -/
theorem find_num {inb : List Bool} {ins out want : List Int} (f : FR l inb ins out) (hl : out.length < l.length) : ∃ v : Nat, v < l.length ∧ (want ++ allL l.length).find? (rdyP ks ins) = some (v : Int) ∧ rdyP ks ins (v : Int) = true := by
  obtain ⟨v0, hv0, hr0⟩ := some_ready h f hl
  cases hf : (want ++ allL l.length).find? (rdyP ks ins) with
  | none =>
    have := List.find?_eq_none.1 hf (v0 : Int) (List.mem_append_right _ (by unfold allL; exact List.mem_map.2 ⟨v0, by simpa using hv0, rfl⟩))
    exact absurd hr0 this
  | some x =>
    have hp := List.find?_some hf
    have hb : hasB ks x = true := by
      unfold rdyP at hp
      rw [Bool.and_eq_true, Bool.and_eq_true] at hp
      exact hp.1.1
    obtain ⟨h0, h1⟩ := hasB_iff.1 hb
    rw [h.len] at h1
    obtain ⟨q, rfl⟩ : ∃ q : Nat, x = q := ⟨x.toNat, by omega⟩
    exact ⟨q, by omega, rfl, hp⟩
theorem refFirst_l0 (n : Int) {want : List Int} (hwl : want.length ≤ 2000) : ∀ (d : Nat) (inb : List Bool) (ins out : List Int), FR l inb ins out → l.length - out.length = d → out.length ≤ l.length →
    Ev (fun k => dispatcherref19_Order_First.l0 k want inb out n (l.map (·.f0)) ((rowsF l l.length).map (tab l.length))) (firstG ks (want ++ allL l.length) d out ins, n)
  | 0, inb, ins, out, f, hd, ho => by
    refine Ev.round (f := fun _ => some _) (Ev.now _) (fun k => ?_)
    rw [dispatcherref19_Order_First.l0, if_neg (by rw [f.len]; omega)]
    rfl
  | d + 1, inb, ins, out, f, hd, ho => by
    have hl2 := h.l2
    obtain ⟨v, hv, hfd, hy⟩ := find_num h (want := want) f (by omega)
    have ih := refFirst_l0 n hwl d _ _ _ (f.step h hv hy) (by rw [List.length_append, List.length_singleton]; omega) (by rw [List.length_append, List.length_singleton]; omega)
    rw [firstG_some hfd, Int.toNat_natCast]
    refine Ev.round (seek_l1 h f n hv (by omega) ih hwl want.length 0 (by omega) (by omega) (by rw [List.drop_zero]; exact hfd)) (fun k => ?_)
    rw [dispatcherref19_Order_First.l0, if_pos (by rw [f.len]; omega)]
    rfl
theorem refFirst (n : Int) {want : List Int} (hwl : want.length ≤ 2000) : Ev (fun k => dispatcherref19_Order_First.f k n (l.map (·.f0)) ((rowsF l l.length).map (tab l.length)) want) (firstB ks want, n) := by
  have hl2 := h.l2
  have f0 : FR l (List.replicate l.length false) (List.replicate l.length 0) [] := ⟨by simp, ⟨by simp, fun m hm => by rw [rd_lt (by simpa using hm)]; simp⟩, fun m hm => by simp [rdOf, hm], by simp [List.countP_replicate], by simp⟩
  refine Ev.eq (Ev.same (refFirst_l0 h n hwl l.length _ _ _ f0 (by simp) (by simp)) (fun k => ?_)) (by unfold firstB; rw [h.len])
  rw [dispatcherref19_Order_First.f, List.length_map, if_pos (by omega), if_pos (by omega), Int.toNat_natCast]
/-- the document's Is -/
theorem refIs_l1 (n : Int) {row : List Int} {a : Nat} (hrl : row.length = l.length) (ha : a < row.length) (hrng : ∀ q : Nat, q ≤ a → 0 ≤ rd row (q : Int) ∧ rd row (q : Int) < (l.length : Int)) {b : Bool}
    (hok : Ev (fun k => dispatcherref19_Order_Is.l0 k row ((a + 1 : Nat) : Int) n (l.map (·.f0)) ((rowsF l l.length).map (tab l.length))) (b, n)) : ∀ (d m : Nat), a - m = d → m ≤ a →
    ∃ b2 : Bool, Ev (fun k => dispatcherref19_Order_Is.l1 k row (a : Int) (m : Int) n (l.map (·.f0)) ((rowsF l l.length).map (tab l.length))) (b2, n) ∧
      (b2 = true ↔ (∀ q : Nat, m ≤ q → q < a → rd row (q : Int) ≠ rd row (a : Int) ∧ HH l (rd row (q : Int)).toNat (rd row (a : Int)).toNat = false) ∧ b = true)
  | 0, m, hd, hm => by
    obtain rfl : m = a := by omega
    have hl2 := h.l2
    refine ⟨b, Ev.round hok (fun k => ?_), ⟨fun hb => ⟨fun q h1 h2 => by omega, hb⟩, fun hb => hb.2⟩⟩
    rw [dispatcherref19_Order_Is.l1, if_neg (by omega), wrap64_nat m (by omega)]
  | d + 1, m, hd, hm => by
    have hl2 := h.l2
    have hma : m < a := by omega
    have hrows : ((rowsF l l.length).map (tab l.length)).length = l.length := by rw [List.length_map, rowsF_len]
    have hw : wrap64 ((m : Int) + 1) = ((m + 1 : Nat) : Int) := wrap64_nat m (by omega)
    obtain ⟨b2, ih, ihb⟩ := refIs_l1 n hrl ha hrng hok d (m + 1) (by omega) (by omega)
    obtain ⟨x, hx⟩ : ∃ x : Nat, rd row (m : Int) = x := ⟨(rd row (m : Int)).toNat, by have := hrng m (by omega); omega⟩
    obtain ⟨y, hy⟩ : ∃ y : Nat, rd row (a : Int) = y := ⟨(rd row (a : Int)).toNat, by have := hrng a (by omega); omega⟩
    have hx1 : x < l.length := by have := hrng m (by omega); omega
    have hy1 : y < l.length := by have := hrng a (by omega); omega
    by_cases he : (x : Int) = (y : Int)
    · refine ⟨false, Ev.round (f := fun _ => some _) (Ev.now _) (fun k => ?_), ⟨fun hb => absurd hb (by simp), fun hb => absurd (by rw [hx, hy]; exact he) (hb.1 m (Nat.le_refl _) hma).1⟩⟩
      rw [dispatcherref19_Order_Is.l1, if_pos (by omega), if_pos (by omega), if_pos (by omega), if_pos (by omega), if_pos (by omega), hx, hy, if_pos he]
    · by_cases hH : HH l x y = true
      · refine ⟨false, Ev.round (f := fun _ => some _) (Ev.now _) (fun k => ?_), ⟨fun hb => absurd hb (by simp), fun hb => ?_⟩⟩
        · rw [dispatcherref19_Order_Is.l1, if_pos (by omega), if_pos (by omega), if_pos (by omega), if_pos (by omega), if_pos (by omega), hx, hy, if_neg he, if_pos (by omega), hrows, if_pos (by omega), if_pos (by omega), rdL_rows hx1, tab_len, if_pos (by omega), tab_rd hy1, if_pos hH]
        · have := (hb.1 m (Nat.le_refl _) hma).2
          rw [hx, hy, Int.toNat_natCast, Int.toNat_natCast, hH] at this
          cases this
      · refine ⟨b2, Ev.round ih (fun k => ?_), ?_⟩
        · rw [dispatcherref19_Order_Is.l1, if_pos (by omega), if_pos (by omega), if_pos (by omega), if_pos (by omega), if_pos (by omega), hx, hy, if_neg he, if_pos (by omega), hrows, if_pos (by omega), if_pos (by omega), rdL_rows hx1, tab_len, if_pos (by omega), tab_rd hy1, if_neg hH, hw]
        · rw [ihb]
          have hH2 : HH l x y = false := by simpa using hH
          refine and_congr_left (fun _ => ⟨fun hh q h1 h2 => ?_, fun hh q h1 h2 => hh q (by omega) h2⟩)
          rcases Nat.lt_or_eq_of_le h1 with h3 | h3
          · exact hh q (by omega) h2
          · subst h3
            rw [hx, hy, Int.toNat_natCast, Int.toNat_natCast]
            exact ⟨he, hH2⟩
theorem refIs_l0 (n : Int) {row : List Int} (hrl : row.length = l.length) : ∀ (d a : Nat), row.length - a = d → a ≤ row.length → (∀ q : Nat, q < a → 0 ≤ rd row (q : Int) ∧ rd row (q : Int) < (l.length : Int)) →
    ∃ b : Bool, Ev (fun k => dispatcherref19_Order_Is.l0 k row (a : Int) n (l.map (·.f0)) ((rowsF l l.length).map (tab l.length))) (b, n) ∧ (b = true ↔ DocR l (row.take a) (row.drop a))
  | 0, a, hd, ha, hq => by
    obtain rfl : a = row.length := by omega
    refine ⟨true, Ev.round (f := fun _ => some _) (Ev.now _) (fun k => ?_), by rw [List.drop_length]; simp [DocR]⟩
    rw [dispatcherref19_Order_Is.l0, if_neg (by omega)]
  | d + 1, a, hd, ha, hq => by
    have hl2 := h.l2
    have hal : a < row.length := by omega
    rw [List.drop_eq_getElem_cons hal]
    unfold DocR
    have hx := rd_lt hal
    rw [← hx]
    have hj : ∀ (t : Bool), (t = true → ¬ (0 ≤ rd row (a : Int) ∧ rd row (a : Int) < (l.length : Int))) → (t = false → 0 ≤ rd row (a : Int) ∧ rd row (a : Int) < (l.length : Int)) →
        ∃ b : Bool, Ev (fun k => dispatcherref19_Order_Is.j1 k row (a : Int) t n (l.map (·.f0)) ((rowsF l l.length).map (tab l.length))) (b, n) ∧ (b = true ↔ (0 ≤ rd row (a : Int) ∧ rd row (a : Int) < (l.length : Int) ∧ ∀ x ∈ row.take a, x ≠ rd row (a : Int) ∧ HH l x.toNat (rd row (a : Int)).toNat = false) ∧ DocR l (row.take a ++ [rd row (a : Int)]) (row.drop (a + 1))) := by
      intro t h1 h2
      cases t with
      | true =>
        refine ⟨false, Ev.round (f := fun _ => some _) (Ev.now _) (fun k => by rw [dispatcherref19_Order_Is.j1, if_pos rfl]), ⟨fun hb => absurd hb (by simp), fun hb => absurd ⟨hb.1.1, hb.1.2.1⟩ (h1 rfl)⟩⟩
      | false =>
        obtain ⟨r0, r1⟩ := h2 rfl
        have hq2 : ∀ q : Nat, q ≤ a → 0 ≤ rd row (q : Int) ∧ rd row (q : Int) < (l.length : Int) := fun q hqa => by
          rcases Nat.lt_or_eq_of_le hqa with h3 | h3
          · exact hq q h3
          · subst h3; exact ⟨r0, r1⟩
        obtain ⟨b, hb, hbi⟩ := refIs_l0 n hrl d (a + 1) (by omega) (by omega) (fun q hqa => hq2 q (by omega))
        obtain ⟨b2, hb2, hbi2⟩ := refIs_l1 h n hrl hal hq2 hb a 0 (by omega) (by omega)
        refine ⟨b2, Ev.round hb2 (fun k => by rw [dispatcherref19_Order_Is.j1, if_neg (by simp)]; rfl), ?_⟩
        rw [hbi2, hbi, List.take_succ_eq_append_getElem hal, ← hx]
        refine and_congr_left (fun _ => ?_)
        constructor
        · intro hh
          refine ⟨r0, r1, fun x hxm => ?_⟩
          obtain ⟨q, hql, rfl⟩ := List.getElem_of_mem hxm
          rw [List.length_take] at hql
          have := hh q (by omega) (by omega)
          rw [rd_lt (show q < row.length by omega)] at this
          rw [List.getElem_take]
          exact this
        · rintro ⟨_, _, hh⟩ q _ hqa
          rw [rd_lt (show q < row.length by omega)]
          exact hh _ (List.mem_take_iff_getElem.2 ⟨q, by omega, rfl⟩)
    by_cases hn : rd row (a : Int) < 0
    · obtain ⟨b, hb, hbi⟩ := hj true (fun _ hh => by omega) (fun hh => absurd hh (by simp))
      refine ⟨b, Ev.round hb (fun k => ?_), hbi⟩
      rw [dispatcherref19_Order_Is.l0, if_pos (by omega), if_pos (by omega), if_pos hn]
    · obtain ⟨b, hb, hbi⟩ := hj (decide (rd row (a : Int) ≥ (row.length : Int))) (fun hh hh2 => by have := of_decide_eq_true hh; omega) (fun hh => by have := of_decide_eq_false hh; omega)
      refine ⟨b, Ev.round hb (fun k => ?_), hbi⟩
      rw [dispatcherref19_Order_Is.l0, if_pos (by omega), if_pos (by omega), if_neg hn]
theorem refIs (n : Int) (row : List Int) : Ev (fun k => dispatcherref19_Order_Is.f k n (l.map (·.f0)) ((rowsF l l.length).map (tab l.length)) row) (isB ks row, n) := by
  by_cases hrl : row.length = l.length
  · obtain ⟨b, hb, hbi⟩ := refIs_l0 h n hrl row.length 0 (by omega) (by omega) (fun q hq => by omega)
    refine Ev.eq (Ev.same hb (fun k => ?_)) ?_
    · rw [dispatcherref19_Order_Is.f, List.length_map, if_pos (by omega)]
      rfl
    · congr 1
      rw [List.take_zero, List.drop_zero] at hbi
      rw [Bool.eq_iff_iff, hbi, isB_iff h]
      exact ⟨fun hh => ⟨hrl, hh⟩, fun hh => hh.2⟩
  · have : isB ks row = false := by
      rw [Bool.eq_false_iff, ne_eq, isB_iff h]
      exact fun hh => hrl hh.1
    rw [this]
    refine Ev.same (Ev.now (false, n)) (fun k => ?_)
    rw [dispatcherref19_Order_Is.f, List.length_map, if_neg (by omega)]
end
end Go.Proofs.Ytnblmjkaieibhaa.HO
