/-
  ROWS THAT ARE ORDERS, said plainly: the program's test and the document's are one. No program is walked here.
-/
import Derived.Test.YtnblmjkaieibhaaOpC
namespace Go.Proofs.Ytnblmjkaieibhaa.HO
open Go.Proofs.Ytnblmjkaieibhaa.HU Go.RowKit Go.Proofs.Ytnblmjkaieibhaa.HK Go.Proofs.Ytnblmjkaieibhaa.HP Go.Proofs.Ytnblmjkaieibhaa.Qobase Go.Proofs.YtnblmjkaieibhaaW.PrintWords Go.Proofs.YtnblmjkaieibhaaW.PrintLast Go.Proofs.YtnblmjkaieibhaaW.PrintMore
set_option linter.unusedVariables false
set_option linter.unusedSimpArgs false
/-- no more unlike numbers below L than L -/
theorem pigeon : ∀ (L : Nat) (s : List Int), s.Nodup → (∀ x ∈ s, 0 ≤ x ∧ x < (L : Int)) → s.length ≤ L
  | 0, s, _, h => by
    cases s with
    | nil => simp
    | cons x t => have := h x (by simp); omega
  | L + 1, s, hn, h => by
    by_cases hm : (L : Int) ∈ s
    · have h1 := pigeon L (s.erase (L : Int)) (hn.erase _) (fun x hx => by
        have h2 := (hn.mem_erase_iff).1 hx
        have := h x h2.2
        omega)
      rw [List.length_erase_of_mem hm] at h1
      omega
    · have h1 := pigeon L s hn (fun x hx => by
        have := h x hx
        have : x ≠ L := fun he => hm (he ▸ hx)
        omega)
      omega
theorem all_in {L : Nat} {s : List Int} (hn : s.Nodup) (h : ∀ x ∈ s, 0 ≤ x ∧ x < (L : Int)) (hl : s.length = L) {m : Nat} (hm : m < L) : (m : Int) ∈ s := by
  apply Classical.byContradiction
  intro hc
  have := pigeon L ((m : Int) :: s) (List.nodup_cons.2 ⟨hc, hn⟩) (fun x hx => by
    rcases List.mem_cons.1 hx with rfl | hx
    · omega
    · exact h x hx)
  simp at this
  omega
/-- the program's test: each one's nearest are in -/
def isG (ks : List Kn) : List Int → Nat → List Int → Bool
  | [], _, _ => true
  | i :: t, a, ins => if hasB ks i = true ∧ ¬ 0 < rd ins i then (if (kat ks i).f2.any (fun k => decide (rd (ins.set i.toNat ((a : Int) + 1)) k = 0)) = true then false else isG ks t (a + 1) (ins.set i.toNat ((a : Int) + 1))) else false
def isB (ks : List Kn) (row : List Int) : Bool := decide (row.length = ks.length) && isG ks row 0 (List.replicate row.length 0)
section
variable {l : List Ev_} {N : Nat} {ks : List Kn} (h : Known l N ks)
/-- what that says -/
def GoodR (l : List Ev_) (ks : List Kn) : List Int → List Int → Prop
  | _, [] => True
  | p, q :: t => (0 ≤ q ∧ q < l.length ∧ q ∉ p ∧ ∀ k ∈ (kat ks q).f2, k ∈ p) ∧ GoodR l ks (p ++ [q]) t
/-- and the document's -/
def DocR (l : List Ev_) : List Int → List Int → Prop
  | _, [] => True
  | p, q :: t => (0 ≤ q ∧ q < l.length ∧ ∀ x ∈ p, x ≠ q ∧ HH l x.toNat q.toNat = false) ∧ DocR l (p ++ [q]) t
def InR (l : List Ev_) (ins p : List Int) : Prop := ins.length = l.length ∧ ∀ m : Nat, m < l.length → 0 ≤ rd ins (m : Int) ∧ (0 < rd ins (m : Int) ↔ (m : Int) ∈ p)
theorem rd_set {ins : List Int} {i m : Nat} (hm : m < ins.length) (x : Int) : rd (ins.set i x) (m : Int) = if i = m then x else rd ins (m : Int) := by
  rw [rd_lt (by simpa using hm), List.getElem_set]
  split
  · rfl
  · rw [rd_lt hm]
theorem InR.set {ins p : List Int} (hi : InR l ins p) {q : Nat} (hq : q < l.length) {x : Int} (hx : 0 < x) : InR l (ins.set q x) (p ++ [(q : Int)]) := by
  obtain ⟨h1, h2⟩ := hi
  refine ⟨by simpa using h1, fun m hm => ?_⟩
  obtain ⟨h3, h4⟩ := h2 m hm
  rw [rd_set (by omega)]
  by_cases hqm : q = m
  · subst hqm
    rw [if_pos rfl]
    exact ⟨by omega, by simp [hx]⟩
  · rw [if_neg hqm, List.mem_append, List.mem_singleton]
    exact ⟨h3, h4.trans ⟨.inl, fun h => h.resolve_right (by omega)⟩⟩
include h
theorem isG_iff : ∀ (t p ins : List Int), InR l ins p → (isG ks t p.length ins = true ↔ GoodR l ks p t)
  | [], p, ins, _ => by simp [isG, GoodR]
  | q :: t, p, ins, hi => by
    unfold isG GoodR
    by_cases hq : hasB ks q = true
    · obtain ⟨q0, q1⟩ := hasB_iff.1 hq
      rw [h.len] at q1
      obtain ⟨n, rfl⟩ : ∃ n : Nat, q = n := ⟨q.toNat, by omega⟩
      have hn : n < l.length := by omega
      rw [Int.toNat_natCast]
      by_cases hp : 0 < rd ins (n : Int)
      · rw [if_neg (fun hh => hh.2 hp)]
        have := ((hi.2 n hn).2).1 hp
        simp [this]
      · rw [if_pos ⟨hq, hp⟩]
        have hnp : ¬ (n : Int) ∈ p := fun hh => hp (((hi.2 n hn).2).2 hh)
        have hi2 := hi.set (q := n) hn (x := ((p.length : Nat) : Int) + 1) (by omega)
        have ih := isG_iff t (p ++ [(n : Int)]) _ hi2
        rw [List.length_append, List.length_singleton] at ih
        have hbb : (kat ks (n : Int)).f2.any (fun k => decide (rd (ins.set n ((p.length : Int) + 1)) k = 0)) = true ↔ ¬ ∀ k ∈ (kat ks (n : Int)).f2, k ∈ p := by
          rw [List.any_eq_true]
          constructor
          · rintro ⟨k, hk, hz⟩ hall
            have hk0 := BH_rng h.V hn (h.beh n hn) hk
            obtain ⟨m, rfl⟩ : ∃ m : Nat, k = m := ⟨k.toNat, by omega⟩
            have := ((hi2.2 m (by omega)).2).2 (List.mem_append_left _ (hall _ hk))
            have := of_decide_eq_true hz
            omega
          · intro hall
            apply Classical.byContradiction
            intro hno
            apply hall
            intro k hk
            have hk0 := BH_rng h.V hn (h.beh n hn) hk
            obtain ⟨m, rfl⟩ : ∃ m : Nat, k = m := ⟨k.toNat, by omega⟩
            have hz : ¬ rd (ins.set n ((p.length : Int) + 1)) (m : Int) = 0 := fun hz => hno ⟨_, hk, decide_eq_true hz⟩
            have h3 := hi2.2 m (by omega)
            have h4 := h3.2.1 (by omega)
            rcases List.mem_append.1 h4 with h5 | h5
            · exact h5
            · have := List.mem_singleton.1 h5
              omega
        by_cases hb : (kat ks (n : Int)).f2.any (fun k => decide (rd (ins.set n ((p.length : Int) + 1)) k = 0)) = true
        · rw [if_pos hb]
          have := hbb.1 hb
          constructor
          · intro hh; cases hh
          · rintro ⟨⟨_, _, _, hh⟩, _⟩; exact absurd hh this
        · rw [if_neg hb]
          have hall : ∀ k ∈ (kat ks (n : Int)).f2, k ∈ p := by
            apply Classical.byContradiction
            intro hno
            exact hb (hbb.2 hno)
          rw [ih]
          constructor
          · intro hh; exact ⟨⟨by omega, by omega, hnp, hall⟩, hh⟩
          · intro hh; exact hh.2
    · rw [if_neg (fun hh => hq hh.1)]
      constructor
      · intro hh; cases hh
      · rintro ⟨⟨h1, h2, _⟩, _⟩
        exact absurd (hasB_iff.2 ⟨h1, by rw [h.len]; exact h2⟩) hq
theorem good_doc : ∀ (t p : List Int), (∀ x ∈ p, 0 ≤ x ∧ x < l.length ∧ ∀ m : Nat, HH l x.toNat m = true → (m : Int) ∈ p) → GoodR l ks p t → DocR l p t
  | [], _, _, _ => trivial
  | q :: t, p, hc, ⟨⟨h1, h2, h3, h4⟩, h5⟩ => by
    obtain ⟨n, rfl⟩ : ∃ n : Nat, q = n := ⟨q.toNat, by omega⟩
    have hn : n < l.length := by omega
    refine ⟨⟨h1, h2, fun x hx => ⟨fun he => h3 (he ▸ hx), ?_⟩⟩, good_doc t _ (fun x hx => ?_) h5⟩
    · rw [Int.toNat_natCast]
      cases hh : HH l x.toNat n with
      | false => rfl
      | true => exact absurd ((hc x hx).2.2 n hh) h3
    · rcases List.mem_append.1 hx with hx | hx
      · exact ⟨(hc x hx).1, (hc x hx).2.1, fun m hm => List.mem_append_left _ ((hc x hx).2.2 m hm)⟩
      · rw [List.mem_singleton.1 hx]
        refine ⟨by omega, by omega, fun m hm => List.mem_append_left _ ?_⟩
        rw [Int.toNat_natCast] at hm
        obtain ⟨k, hk, hkm⟩ := (H_bh h.V hn (h.beh n hn) m).1 hm
        have hkp := h4 _ hk
        rcases hkm with rfl | hkm
        · exact hkp
        · refine (hc _ hkp).2.2 m ?_
          rw [Int.toNat_natCast]
          exact hkm
omit h in
theorem doc_all : ∀ (t p : List Int), DocR l p t → (∀ k ∈ t, 0 ≤ k ∧ k < l.length ∧ ∀ x ∈ p, x ≠ k ∧ HH l x.toNat k.toNat = false) ∧ t.Nodup
  | [], _, _ => ⟨fun _ hk => absurd hk (by simp), List.nodup_nil⟩
  | q :: t, p, ⟨⟨h1, h2, h3⟩, h4⟩ => by
    obtain ⟨h5, h6⟩ := doc_all t _ h4
    refine ⟨fun k hk => ?_, List.nodup_cons.2 ⟨fun hq => (h5 q hq).2.2 q (by simp) |>.1 rfl, h6⟩⟩
    rcases List.mem_cons.1 hk with rfl | hk
    · exact ⟨h1, h2, h3⟩
    · exact ⟨(h5 k hk).1, (h5 k hk).2.1, fun x hx => (h5 k hk).2.2 x (List.mem_append_left _ hx)⟩
theorem doc_good : ∀ (t p : List Int), (∀ m : Nat, m < l.length → (m : Int) ∈ p ++ t) → DocR l p t → GoodR l ks p t
  | [], _, _, _ => trivial
  | q :: t, p, hall, hd => by
    obtain ⟨⟨h1, h2, h3⟩, h4⟩ := hd
    obtain ⟨n, rfl⟩ : ∃ n : Nat, q = n := ⟨q.toNat, by omega⟩
    have hn : n < l.length := by omega
    have h5 := (doc_all t _ h4).1
    refine ⟨⟨h1, h2, fun hq => (h3 _ hq).1 rfl, fun k hk => ?_⟩, doc_good t _ (fun m hm => by rw [List.append_assoc]; exact hall m hm) h4⟩
    have hk0 := BH_rng h.V hn (h.beh n hn) hk
    obtain ⟨m, rfl⟩ : ∃ m : Nat, k = m := ⟨k.toNat, by omega⟩
    rcases List.mem_append.1 (hall m (by omega)) with h6 | h6
    · exact h6
    · rcases List.mem_cons.1 h6 with h7 | h7
      · omega
      · have h8 := ((h5 _ h7).2.2 (n : Int) (by simp)).2
        rw [Int.toNat_natCast, Int.toNat_natCast] at h8
        have h9 : HH l n m = true := (H_bh h.V hn (h.beh n hn) m).2 ⟨m, hk, .inl rfl⟩
        rw [h8] at h9
        cases h9
/-- a row is an order, just if the document says so -/
theorem isB_iff (row : List Int) : isB ks row = true ↔ (row.length = l.length ∧ DocR l [] row) := by
  unfold isB
  rw [h.len]
  by_cases hl : row.length = l.length
  · rw [decide_eq_true hl, Bool.true_and]
    have h1 := isG_iff h row [] (List.replicate row.length 0) ⟨by simp [hl], fun m hm => by
      rw [rd_lt (by simp; omega)]
      simp⟩
    rw [List.length_nil] at h1
    rw [h1]
    constructor
    · intro h2
      exact ⟨hl, good_doc h row [] (fun x hx => absurd hx (by simp)) h2⟩
    · rintro ⟨_, h2⟩
      obtain ⟨h3, h4⟩ := doc_all row [] h2
      refine doc_good h row [] (fun m hm => ?_) h2
      rw [List.nil_append]
      exact all_in h4 (fun x hx => ⟨(h3 x hx).1, (h3 x hx).2.1⟩) hl hm
  · rw [decide_eq_false hl, Bool.false_and]
    constructor
    · intro hh; cases hh
    · intro hh; exact absurd hh.1 hl
end
end Go.Proofs.Ytnblmjkaieibhaa.HO
