/-
  THE PROGRAM'S ORDER IS THE DOCUMENT'S: of each event its clock, its depth, those that stand just ahead of it. No program is walked here.
-/
import Derived.Test.YtnblmjkaieibhaaOpA
namespace Go.Proofs.Ytnblmjkaieibhaa.HO
open Go.Proofs.Ytnblmjkaieibhaa.HU Go.RowKit Go.Proofs.Ytnblmjkaieibhaa.HK Go.Proofs.Ytnblmjkaieibhaa.HP Go.Proofs.YtnblmjkaieibhaaW.PrintWords Go.Proofs.YtnblmjkaieibhaaW.PrintLast Go.Proofs.YtnblmjkaieibhaaW.PrintMore
set_option linter.unusedVariables false
set_option linter.unusedSimpArgs false
/-- a clock of N ranks -/
def ck (N : Nat) (c : Nat → Nat) : List Int := (List.range N).map (fun r => (c r : Int))
theorem ck_len (N : Nat) (c : Nat → Nat) : (ck N c).length = N := by simp [ck]
theorem ck_rd {N r : Nat} {c : Nat → Nat} (h : r < N) : rd (ck N c) (r : Int) = c r := by simp [rd, ck, h]
theorem ck_congr {N : Nat} {c d : Nat → Nat} (h : ∀ r, r < N → c r = d r) : ck N c = ck N d := by
  unfold ck
  exact List.map_congr_left (fun r hr => by rw [h r (by simpa using hr)])
theorem ck_may {N : Nat} {c : Nat → Nat} (h1 : 1 ≤ N) (h2 : N ≤ 64) (hc : ∀ r, r < N → c r ≤ 100000) : HD.mayB (ck N c) = true := by
  unfold HD.mayB
  rw [ck_len]
  simp only [Bool.and_eq_true, decide_eq_true_eq, Bool.not_eq_true', List.any_eq_false]
  refine ⟨⟨h1, h2⟩, fun x hx => ?_⟩
  unfold ck at hx
  obtain ⟨r, hr, rfl⟩ := List.mem_map.1 hx
  have := hc r (by simpa using hr)
  unfold HD.odd
  simp
  omega
theorem ck_fit {N : Nat} {c d : Nat → Nat} (h1 : 1 ≤ N) (h2 : N ≤ 64) (hc : ∀ r, r < N → c r ≤ 100000) (hd : ∀ r, r < N → d r ≤ 100000) : HD.fitB (ck N c) (ck N d) = true := by
  unfold HD.fitB
  rw [ck_may h1 h2 hc, ck_may h1 h2 hd, ck_len, ck_len]
  simp
theorem ck_zip (N : Nat) (c d : Nat → Nat) : (ck N c).zip (ck N d) = (List.range N).map (fun r => ((c r : Int), (d r : Int))) := by
  unfold ck
  rw [List.zip_map', ]
theorem ck_merge {N : Nat} {c d : Nat → Nat} (h1 : 1 ≤ N) (h2 : N ≤ 64) (hc : ∀ r, r < N → c r ≤ 100000) (hd : ∀ r, r < N → d r ≤ 100000) : mergeF (ck N c) (ck N d) = ck N (fun r => max (c r) (d r)) := by
  unfold mergeF
  rw [if_pos (ck_fit h1 h2 hc hd), ck_zip]
  unfold HD.merged ck
  rw [List.map_map]
  refine List.map_congr_left (fun r hr => ?_)
  show max (c r : Int) (d r : Int) = ((max (c r) (d r) : Nat) : Int)
  omega
theorem ck_tick {N r0 : Nat} {c : Nat → Nat} (h1 : 1 ≤ N) (h2 : N ≤ 64) (hr : r0 < N) (hc : ∀ r, r < N → c r ≤ 100000) : tickF (ck N c) (r0 : Int) = (ck N (fun r => c r + (if r = r0 then 1 else 0)), 0) := by
  unfold tickF
  have h3 := hc r0 hr
  rw [if_pos ⟨ck_may h1 h2 hc, by omega, by rw [ck_len]; omega, by rw [ck_rd hr]; omega⟩, ck_rd hr, Int.toNat_natCast]
  congr 1
  apply List.ext_getElem
  · simp [ck]
  · intro m a b
    simp only [ck, List.getElem_set, List.getElem_map, List.getElem_range]
    by_cases h : r0 = m
    · subst h; simp
    · simp [h, Ne.symm h]
theorem ck_zero (N : Nat) : List.replicate N (0 : Int) = ck N (fun _ => 0) := by
  unfold ck
  induction N with
  | zero => rfl
  | succ n ih => rw [List.replicate_succ', List.range_succ, List.map_append, ← ih]; rfl
/-- the greatest of some numbers and a first one -/
def mxF {α : Type} (v : α → Nat) (l : List α) (c : Nat) : Nat := l.foldl (fun c x => max c (v x)) c
theorem mxF_ge {α : Type} {v : α → Nat} : ∀ (l : List α) (c : Nat), c ≤ mxF v l c ∧ ∀ x ∈ l, v x ≤ mxF v l c
  | [], c => ⟨Nat.le_refl _, fun _ h => absurd h (by simp)⟩
  | a :: t, c => by
    obtain ⟨h1, h2⟩ := mxF_ge (v := v) t (max c (v a))
    have e : mxF v (a :: t) c = mxF v t (max c (v a)) := rfl
    rw [e]
    refine ⟨by omega, fun x hx => ?_⟩
    rcases List.mem_cons.1 hx with rfl | hx
    · omega
    · exact h2 x hx
theorem mxF_is {α : Type} {v : α → Nat} : ∀ (l : List α) (c : Nat), mxF v l c = c ∨ ∃ x ∈ l, mxF v l c = v x
  | [], c => .inl rfl
  | a :: t, c => by
    have e : mxF v (a :: t) c = mxF v t (max c (v a)) := rfl
    rw [e]
    rcases mxF_is (v := v) t (max c (v a)) with h | ⟨x, hx, h⟩
    · rcases Nat.le_total c (v a) with h1 | h1
      · exact .inr ⟨a, by simp, by omega⟩
      · exact .inl (by omega)
    · exact .inr ⟨x, by simp [hx], h⟩
/-- an event's depth, of some events -/
def dpt (ks : List Kn) (q : Nat) : Nat := (kat ks (q : Int)).f1.toNat
/-- what is known behind those that stand just ahead -/
theorem goB_is {l : List Ev_} {N : Nat} (h1 : 1 ≤ N) (h2 : N ≤ 64) (hl : l.length ≤ 2000) {ks : List Kn} (hk : ∀ q : Nat, q < ks.length → (kat ks (q : Int)).f0 = ck N (fun r => cn l (PP l q) r) ∧ 0 ≤ (kat ks (q : Int)).f1) :
    ∀ (bh : List Int) (c : Nat → Nat) (d : Nat), (∀ x ∈ bh, 0 ≤ x ∧ x < (ks.length : Int)) → (∀ r, r < N → c r ≤ 100000) →
      goB ks bh (ck N c, (d : Int)) = some (ck N (fun r => mxF (fun x : Int => cn l (PP l x.toNat) r) bh (c r)), ((mxF (fun x : Int => dpt ks x.toNat) bh d : Nat) : Int))
  | [], c, d, _, _ => rfl
  | x :: t, c, d, hx, hc => by
    have hx0 := hx x (by simp)
    obtain ⟨q, rfl⟩ : ∃ q : Nat, x = q := ⟨x.toNat, by omega⟩
    obtain ⟨e1, e2⟩ := hk q (by omega)
    have hcn : ∀ r : Nat, cn l (PP l q) (r : Int) ≤ 2000 := fun r => Nat.le_trans (cn_le _ _) hl
    unfold goB
    rw [if_neg (by omega)]
    dsimp only
    have hd : max (d : Int) (kat ks (q : Int)).f1 = ((max d (dpt ks q) : Nat) : Int) := by unfold dpt; omega
    rw [e1, ck_merge h1 h2 hc (fun r _ => by have := hcn r; omega), hd]
    have ih := goB_is h1 h2 hl hk t (fun r => max (c r) (cn l (PP l q) r)) (max d (dpt ks q)) (fun y hy => hx y (by simp [hy])) (fun r hr => by
      have := hc r hr
      have := hcn r
      show max (c r) (cn l (PP l q) (r : Int)) ≤ 100000
      omega)
    rw [ih]
    rfl
theorem goB_bad {ks : List Kn} : ∀ (bh : List Int) (s : List Int × Int), (∃ x ∈ bh, x < 0 ∨ (ks.length : Int) ≤ x) → goB ks bh s = none
  | [], _, ⟨x, hx, _⟩ => absurd hx (by simp)
  | y :: t, s, ⟨x, hx, hb⟩ => by
    unfold goB
    by_cases h : y < 0 ∨ (ks.length : Int) ≤ y
    · rw [if_pos h]
    · rw [if_neg h]
      refine goB_bad t _ ⟨x, ?_, hb⟩
      rcases List.mem_cons.1 hx with rfl | hx
      · exact absurd hb h
      · exact hx
/-- the last one of a rank, and 1 -/
def LastOf (l : List Ev_) (i : Nat) (r x : Int) : Prop := (x = 0 ∧ ∀ m, m < i → rk l m ≠ r) ∨ ∃ p : Nat, x = (p : Int) + 1 ∧ p < i ∧ rk l p = r ∧ ∀ m, p < m → m < i → rk l m ≠ r
/-- what a maker has made of the first i events -/
structure Inv (l : List Ev_) (N i : Nat) (last : List Int) (ks : List Kn) : Prop where
  len : ks.length = i
  lst : last.length = N
  lo : ∀ r : Nat, r < N → LastOf l i r (rd last r)
  clk : ∀ q, q < i → (kat ks (q : Int)).f0 = ck N (fun r => cn l (PP l q) r)
  beh : ∀ q, q < i → BH l q (kat ks (q : Int)).f2
  dep : ∀ q, q < i → 1 ≤ (kat ks (q : Int)).f1 ∧ (∀ m, HH l q m = true → (kat ks (m : Int)).f1 < (kat ks (q : Int)).f1) ∧ ((kat ks (q : Int)).f1 = 1 ∨ ∃ m, HH l q m = true ∧ (kat ks (q : Int)).f1 = (kat ks (m : Int)).f1 + 1)
theorem kat_app {ks : List Kn} {x : Kn} {q : Nat} (h : q < ks.length) : kat (ks ++ [x]) (q : Int) = kat ks (q : Int) := by
  rw [kat_nat q (by simp; omega), kat_nat q h, List.getElem_append_left h]
theorem kat_new {ks : List Kn} {x : Kn} : kat (ks ++ [x]) (ks.length : Int) = x := by
  rw [kat_nat ks.length (by simp)]
  simp
theorem behind_is {l : List Ev_} {N i : Nat} {last : List Int} (hi : i < l.length) (hlo : LastOf l i (rk l i) (rd last (rk l i))) : BH l i (behindOf last (ek l i)) := by
  intro x
  unfold behindOf
  rw [List.mem_append]
  refine or_congr Iff.rfl ?_
  rcases hlo with ⟨h1, h2⟩ | ⟨p, h1, h2, h3, h4⟩
  · rw [h1, if_neg (by omega)]
    constructor
    · intro h; exact absurd h (by simp)
    · rintro ⟨p, _, h3, h4, _⟩; exact absurd h4 (h2 p h3)
  · rw [h1, if_pos (by omega)]
    rw [List.mem_singleton]
    constructor
    · intro h; exact ⟨p, by omega, h2, h3, h4⟩
    · rintro ⟨p', rfl, h5, h6, h7⟩
      rcases Nat.lt_trichotomy p p' with h8 | h8 | h8
      · exact absurd h6 (h4 p' h8 h5)
      · subst h8; omega
      · exact absurd h3 (h7 p h8 h2)
theorem inv_add {l : List Ev_} (hv : Vld l) {N i : Nat} (h1 : 1 ≤ N) (h2 : N ≤ 64) (hl : l.length ≤ 2000) (hi : i < l.length) (hr0 : 0 ≤ rk l i) (hrN : rk l i < (N : Int)) {last : List Int} {ks : List Kn} (h : Inv l N i last ks) :
    ∃ last' ks', addF (last, ks) (ek l i) = some (last', ks') ∧ Inv l N (i + 1) last' ks' := by
  obtain ⟨r0, hr⟩ : ∃ r0 : Nat, rk l i = r0 := ⟨(rk l i).toNat, by omega⟩
  have hrN' : r0 < N := by omega
  have hbh : BH l i (behindOf last (ek l i)) := behind_is (N := N) hi (by rw [hr]; exact h.lo r0 hrN')
  have hg := goB_is (l := l) h1 h2 hl (ks := ks) (fun q hq => ⟨h.clk q (by rw [h.len] at hq; exact hq), by have := (h.dep q (by rw [h.len] at hq; exact hq)).1; omega⟩) (behindOf last (ek l i)) (fun _ => 0) 0 (fun x hx => by rw [h.len]; exact BH_rng hv hi hbh hx) (fun _ _ => by omega)
  have hcn := cn_bh hv hi hbh
  have hmx : ∀ r : Nat, mxF (fun x : Int => cn l (PP l x.toNat) r) (behindOf last (ek l i)) 0 = cn l (HH l i) r := fun r => by
    obtain ⟨a1, a2⟩ := hcn r
    have b1 := (mxF_ge (v := fun x : Int => cn l (PP l x.toNat) r) (behindOf last (ek l i)) 0).2
    refine Nat.le_antisymm ?_ ?_
    · rcases mxF_is (v := fun x : Int => cn l (PP l x.toNat) r) (behindOf last (ek l i)) 0 with h3 | ⟨x, hx, h3⟩
      · rw [h3]; omega
      · rw [h3]
        have hx0 := BH_rng hv hi hbh hx
        refine a1 x.toNat ?_
        rw [Int.toNat_of_nonneg hx0.1]
        exact hx
    · rcases a2 with a2 | ⟨q, hq, a2⟩
      · omega
      · have := b1 _ hq
        rw [Int.toNat_natCast] at this
        omega
  have hcl : (fun r : Nat => mxF (fun x : Int => cn l (PP l x.toNat) (r : Int)) (behindOf last (ek l i)) 0) = (fun r : Nat => cn l (HH l i) (r : Int)) := funext hmx
  rw [show ((fun _ : Nat => 0) : Nat → Nat) = fun _ => 0 from rfl, hcl] at hg
  have hadd : addF (last, ks) (ek l i) = some (last.set r0 ((ks.length : Int) + 1), ks ++ [⟨ck N (fun r => cn l (HH l i) r + (if r = r0 then 1 else 0)), ((mxF (fun x : Int => dpt ks x.toNat) (behindOf last (ek l i)) 0 : Nat) : Int) + 1, behindOf last (ek l i)⟩]) := by
    unfold addF
    dsimp only
    rw [show (ek l i).f0 = (r0 : Int) from hr, h.lst, if_neg (by omega), ck_zero, show ((0 : Int)) = ((0 : Nat) : Int) from rfl, hg]
    dsimp only
    rw [ck_tick h1 h2 hrN' (fun r _ => Nat.le_trans (cn_le _ _) (by omega)), Int.toNat_natCast]
  refine ⟨_, _, hadd, ?_⟩
  have hlen := h.len
  have hself : ∀ r : Nat, cn l (HH l i) (r : Int) + (if r = r0 then 1 else 0) = cn l (PP l i) (r : Int) := fun r => by
    rw [cn_self hv hi, hr]
    congr 1
    by_cases hq : r = r0
    · rw [if_pos hq, if_pos (by omega)]
    · rw [if_neg hq, if_neg (by omega)]
  refine ⟨by rw [List.length_append, hlen]; rfl, by rw [List.length_set]; exact h.lst, ?_, ?_, ?_, ?_⟩
  · intro r hrr
    have hs : rd (last.set r0 ((ks.length : Int) + 1)) (r : Int) = if r0 = r then (ks.length : Int) + 1 else rd last (r : Int) := by
      rw [rd_lt (by rw [List.length_set, h.lst]; exact hrr), List.getElem_set]
      split
      · rfl
      · rw [rd_lt (by rw [h.lst]; exact hrr)]
    rw [hs]
    by_cases hq : r0 = r
    · rw [if_pos hq]
      refine .inr ⟨i, by rw [hlen], by omega, by rw [hr, hq], fun m h3 h4 => by omega⟩
    · rw [if_neg hq]
      rcases h.lo r hrr with ⟨h3, h4⟩ | ⟨p, h3, h4, h5, h6⟩
      · refine .inl ⟨h3, fun m hm => ?_⟩
        rcases Nat.lt_succ_iff_lt_or_eq.1 hm with h7 | h7
        · exact h4 m h7
        · subst h7; rw [hr]; omega
      · refine .inr ⟨p, h3, by omega, h5, fun m h7 h8 => ?_⟩
        rcases Nat.lt_succ_iff_lt_or_eq.1 h8 with h9 | h9
        · exact h6 m h7 h9
        · subst h9; rw [hr]; omega
  · intro q hq
    rcases Nat.lt_succ_iff_lt_or_eq.1 hq with h3 | h3
    · rw [kat_app (by omega)]
      exact h.clk q h3
    · subst h3
      rw [show ((q : Nat) : Int) = (ks.length : Int) by rw [hlen], kat_new]
      exact ck_congr (fun r _ => hself r)
  · intro q hq
    rcases Nat.lt_succ_iff_lt_or_eq.1 hq with h3 | h3
    · rw [kat_app (by omega)]
      exact h.beh q h3
    · subst h3
      rw [show ((q : Nat) : Int) = (ks.length : Int) by rw [hlen], kat_new]
      exact hbh
  · intro q hq
    rcases Nat.lt_succ_iff_lt_or_eq.1 hq with h3 | h3
    · rw [kat_app (by omega)]
      obtain ⟨d1, d2, d3⟩ := h.dep q h3
      refine ⟨d1, fun m hm => ?_, ?_⟩
      · rw [kat_app (by have := H_lt hv (by omega) hm; omega)]
        exact d2 m hm
      · rcases d3 with d3 | ⟨m, hm, d3⟩
        · exact .inl d3
        · exact .inr ⟨m, hm, by rw [kat_app (by have := H_lt hv (by omega) hm; omega)]; exact d3⟩
    · subst h3
      rw [show ((q : Nat) : Int) = (ks.length : Int) by rw [hlen], kat_new]
      dsimp only
      have hge := (mxF_ge (v := fun x : Int => dpt ks x.toNat) (behindOf last (ek l q)) 0).2
      refine ⟨by omega, fun m hm => ?_, ?_⟩
      · rw [kat_app (by have := H_lt hv hi hm; omega)]
        obtain ⟨p, hp, hpm⟩ := (H_bh hv hi hbh m).1 hm
        have hp0 := BH_rng hv hi hbh hp
        have h4 := hge _ hp
        rw [Int.toNat_natCast] at h4
        have e4 : dpt ks p = (kat ks (p : Int)).f1.toNat := rfl
        have h5 := (h.dep p (by omega)).1
        rcases hpm with rfl | hpm
        · omega
        · have h6 := (h.dep p (by omega)).2.1 m hpm
          omega
      · rcases mxF_is (v := fun x : Int => dpt ks x.toNat) (behindOf last (ek l q)) 0 with h4 | ⟨x, hx, h4⟩
        · left; omega
        · right
          have hx0 := BH_rng hv hi hbh hx
          obtain ⟨p, rfl⟩ : ∃ p : Nat, x = p := ⟨x.toNat, by omega⟩
          refine ⟨p, (H_bh hv hi hbh p).2 ⟨p, hx, .inl rfl⟩, ?_⟩
          rw [kat_app (by omega)]
          have h5 := (h.dep p (by omega)).1
          rw [Int.toNat_natCast] at h4
          have e4 : dpt ks p = (kat ks (p : Int)).f1.toNat := rfl
          omega
theorem addF_bad {last : List Int} {ks : List Kn} {e : Ev_} (h : e.f0 < 0 ∨ (last.length : Int) ≤ e.f0 ∨ ∃ a ∈ e.f1, a < 0 ∨ (ks.length : Int) ≤ a) : addF (last, ks) e = none := by
  unfold addF
  dsimp only
  by_cases h0 : e.f0 < 0 ∨ (last.length : Int) ≤ e.f0
  · rw [if_pos h0]
  · rw [if_neg h0]
    have h1 : ∃ a ∈ e.f1, a < 0 ∨ (ks.length : Int) ≤ a := by
      rcases h with h | h | h
      · exact absurd (.inl h) h0
      · exact absurd (.inr h) h0
      · exact h
    obtain ⟨a, ha, hb⟩ := h1
    rw [goB_bad _ _ ⟨a, by unfold behindOf; exact List.mem_append_left _ ha, hb⟩]
theorem vld_iff {l : List Ev_} {n : Int} {i : Nat} : vldE l n i = true ↔ (0 ≤ rk l i ∧ rk l i < n) ∧ ∀ a ∈ (ek l i).f1, 0 ≤ a ∧ a < (i : Int) := by
  unfold vldE
  simp [List.all_eq_true]
theorem bad_add {l : List Ev_} {N i : Nat} (hb : vldE l N i = false) {last : List Int} {ks : List Kn} (hlen : ks.length = i ∧ last.length = N) : addF (last, ks) (ek l i) = none := by
  apply addF_bad
  rw [hlen.1, hlen.2]
  by_cases c1 : rk l i < 0
  · exact .inl c1
  · by_cases c2 : (N : Int) ≤ rk l i
    · exact .inr (.inl c2)
    · refine .inr (.inr ?_)
      apply Classical.byContradiction
      intro c3
      have : vldE l N i = true := vld_iff.2 ⟨⟨by omega, by omega⟩, fun a ha => by
        apply Classical.byContradiction
        intro c4
        exact c3 ⟨a, ha, by omega⟩⟩
      rw [hb] at this
      cases this
theorem ofG_bad {l : List Ev_} {N k : Nat} (hk : k < l.length) (hb : vldE l N k = false) : ∀ (d i : Nat) (last : List Int) (ks : List Kn), k - i = d → i ≤ k → (ks.length = i ∧ last.length = N) → ofG (l.drop i) (last, ks) = none
  | 0, i, last, ks, hd, hi, hlen => by
    obtain rfl : i = k := by omega
    rw [List.drop_eq_getElem_cons hk, ← ek_eq hk]
    show (addF (last, ks) (ek l i)).bind _ = none
    rw [bad_add hb hlen]
    rfl
  | d + 1, i, last, ks, hd, hi, hlen => by
    have hil : i < l.length := by omega
    rw [List.drop_eq_getElem_cons hil, ← ek_eq hil]
    show (addF (last, ks) (ek l i)).bind _ = none
    cases ha : addF (last, ks) (ek l i) with
    | none => rfl
    | some st =>
      obtain ⟨last', ks'⟩ := st
      obtain ⟨e1, e2⟩ := addF_len ha
      exact ofG_bad hk hb d (i + 1) last' ks' (by omega) (by omega) ⟨by rw [e1, hlen.1], by rw [e2, hlen.2]⟩
theorem ofG_ok {l : List Ev_} {N : Nat} (h1 : 1 ≤ N) (h2 : N ≤ 64) (hl : l.length ≤ 2000) (hv : ∀ k, k < l.length → vldE l N k = true) : ∀ (d i : Nat) (last : List Int) (ks : List Kn), l.length - i = d → i ≤ l.length → Inv l N i last ks → ∃ last' ks', ofG (l.drop i) (last, ks) = some (last', ks') ∧ Inv l N l.length last' ks'
  | 0, i, last, ks, hd, hi, hI => by
    obtain rfl : i = l.length := by omega
    exact ⟨last, ks, by rw [List.drop_length]; rfl, hI⟩
  | d + 1, i, last, ks, hd, hi, hI => by
    have hil : i < l.length := by omega
    have hV : Vld l := fun q hq => (vld_iff.1 (hv q hq)).2
    obtain ⟨⟨b1, b2⟩, _⟩ := vld_iff.1 (hv i hil)
    obtain ⟨last', ks', h3, h4⟩ := inv_add hV h1 h2 hl hil b1 b2 hI
    obtain ⟨l2, k2, h5, h6⟩ := ofG_ok h1 h2 hl hv d (i + 1) last' ks' (by omega) (by omega) h4
    refine ⟨l2, k2, ?_, h6⟩
    rw [List.drop_eq_getElem_cons hil, ← ek_eq hil]
    show (addF (last, ks) (ek l i)).bind _ = _
    rw [h3]
    exact h5
/-- what the program's history is -/
structure Known (l : List Ev_) (N : Nat) (ks : List Kn) : Prop where
  n1 : 1 ≤ N
  n2 : N ≤ 64
  l2 : l.length ≤ 2000
  vld : ∀ k, k < l.length → vldE l N k = true
  len : ks.length = l.length
  clk : ∀ q, q < l.length → (kat ks (q : Int)).f0 = ck N (fun r => cn l (PP l q) r)
  beh : ∀ q, q < l.length → BH l q (kat ks (q : Int)).f2
  dep : ∀ q, q < l.length → 1 ≤ (kat ks (q : Int)).f1 ∧ (∀ m, HH l q m = true → (kat ks (m : Int)).f1 < (kat ks (q : Int)).f1) ∧ ((kat ks (q : Int)).f1 = 1 ∨ ∃ m, HH l q m = true ∧ (kat ks (q : Int)).f1 = (kat ks (m : Int)).f1 + 1)
theorem Known.V {l : List Ev_} {N : Nat} {ks : List Kn} (h : Known l N ks) : Vld l := fun q hq => (vld_iff.1 (h.vld q hq)).2
theorem Known.rkb {l : List Ev_} {N : Nat} {ks : List Kn} (h : Known l N ks) {q : Nat} (hq : q < l.length) : 0 ≤ rk l q ∧ rk l q < N := (vld_iff.1 (h.vld q hq)).1
/-- the program's history, or none, just as the document says -/
theorem his_is (n : Int) (l : List Ev_) : (badH n l ∧ hisF n l = none) ∨ (¬ badH n l ∧ ∃ (N : Nat) (ks : List Kn), n = N ∧ hisF n l = some ks ∧ Known l N ks) := by
  unfold hisF
  by_cases h0 : n < 1 ∨ 64 < n ∨ 2000 < l.length
  · left
    refine ⟨?_, by rw [if_pos h0]⟩
    rcases h0 with h | h | h
    · exact .inl h
    · exact .inr (.inl h)
    · exact .inr (.inr (.inl h))
  · rw [if_neg h0]
    obtain ⟨N, rfl⟩ : ∃ N : Nat, n = N := ⟨n.toNat, by omega⟩
    rw [Int.toNat_natCast]
    have hd : l = l.drop 0 := (List.drop_zero).symm
    by_cases hb : ∃ k, k < l.length ∧ vldE l N k = false
    · left
      refine ⟨.inr (.inr (.inr hb)), ?_⟩
      obtain ⟨k, hk, hb⟩ := hb
      have := ofG_bad hk hb k 0 (List.replicate N 0) [] (by omega) (by omega) ⟨rfl, by simp⟩
      rw [← hd] at this
      rw [this]
      rfl
    · right
      have hv : ∀ k, k < l.length → vldE l N k = true := fun k hk => by
        cases hh : vldE l N k with
        | true => rfl
        | false => exact absurd ⟨k, hk, hh⟩ hb
      have hI : Inv l N 0 (List.replicate N 0) [] := by
        refine ⟨rfl, by simp, fun r hr => .inl ⟨?_, fun m hm => by omega⟩, fun q hq => by omega, fun q hq => by omega, fun q hq => by omega⟩
        rw [rd_lt (by simpa using hr)]
        simp
      obtain ⟨l2, ks, h3, h4⟩ := ofG_ok (by omega) (by omega) (by omega) hv l.length 0 _ _ (by omega) (by omega) hI
      rw [← hd] at h3
      refine ⟨?_, N, ks, rfl, by rw [h3]; rfl, ⟨by omega, by omega, by omega, hv, h4.len, h4.clk, h4.beh, h4.dep⟩⟩
      rintro (h | h | h | h)
      · omega
      · omega
      · omega
      · exact hb h
end Go.Proofs.Ytnblmjkaieibhaa.HO
