/-
  WHAT AN ORDER TELLS, said plainly: clocks told of one another; the document's clocks and depths, as printed, come to the program's. No program is walked here.
-/
import Derived.Test.YtnblmjkaieibhaaOpB
import Derived.Test.YtnblmjkaieibhaaHP
namespace Go.Proofs.Ytnblmjkaieibhaa.HO
open Go.Proofs.Ytnblmjkaieibhaa.HU Go.RowKit Go.Proofs.Ytnblmjkaieibhaa.HK Go.Proofs.Ytnblmjkaieibhaa.HP Go.Proofs.Ytnblmjkaieibhaa.Qobase Go.Proofs.YtnblmjkaieibhaaW.PrintWords Go.Proofs.YtnblmjkaieibhaaW.PrintLast Go.Proofs.YtnblmjkaieibhaaW.PrintMore
set_option linter.unusedVariables false
set_option linter.unusedSimpArgs false
/-- what is told, out of two tests -/
def encT (a b : Bool) : Int := (bif a then 1 else 0) + (bif b then 2 else 0)
theorem tell_enc (a b : Bool) (x : Int × Int) : HD.tell (encT a b) x = encT (a || decide (x.1 < x.2)) (b || decide (x.2 < x.1)) := by
  have e1 : bits .or .u8 0 1 = 1 := by decide
  have e2 : bits .or .u8 1 1 = 1 := by decide
  have e3 : bits .or .u8 2 1 = 3 := by decide
  have e4 : bits .or .u8 3 1 = 3 := by decide
  have e5 : bits .or .u8 0 2 = 2 := by decide
  have e6 : bits .or .u8 1 2 = 3 := by decide
  have e7 : bits .or .u8 2 2 = 2 := by decide
  have e8 : bits .or .u8 3 2 = 3 := by decide
  unfold HD.tell
  by_cases h1 : x.1 < x.2
  · have h2 : ¬ x.2 < x.1 := by omega
    cases a <;> cases b <;> simp [encT, h1, h2, e1, e2, e3, e4]
  · by_cases h2 : x.2 < x.1
    · cases a <;> cases b <;> simp [encT, h1, h2, e5, e6, e7, e8]
    · cases a <;> cases b <;> simp [encT, h1, h2]
theorem tells_from (z : List (Int × Int)) : ∀ a b : Bool, z.foldl HD.tell (encT a b) = encT (a || z.any (fun x => decide (x.1 < x.2))) (b || z.any (fun x => decide (x.2 < x.1))) := by
  induction z with
  | nil => intro a b; simp
  | cons x z ih => intro a b; rw [List.foldl_cons, tell_enc, ih, List.any_cons, List.any_cons, Bool.or_assoc, Bool.or_assoc]
/-- is a number of the one below the other one's? -/
def lessAny (c d : List Int) : Bool := (c.zip d).any (fun x => decide (x.1 < x.2))
theorem any_swap (c d : List Int) : (c.zip d).any (fun x => decide (x.2 < x.1)) = lessAny d c := by
  unfold lessAny
  induction c generalizing d with
  | nil => cases d <;> simp
  | cons x c ih => cases d with
    | nil => simp
    | cons y d => simp only [List.zip_cons_cons, List.any_cons, ih]
theorem tells_eq (c d : List Int) : HD.tells (c.zip d) = encT (lessAny c d) (lessAny d c) := by
  have h := tells_from (c.zip d) false false
  rw [any_swap] at h
  rw [Bool.false_or, Bool.false_or] at h
  exact h
theorem ref11_ints_l0 (a b : List Int) (hl : a.length = b.length) (hm : a.length < 9223372036854775807) (d : Nat) : ∀ i : Nat, i ≤ a.length → a.length - i = d →
    Ev (fun k => dispatcherref11_Ints.l0 k a b i) (decide (a.drop i = b.drop i)) := by
  induction d with
  | zero =>
    intro i hi hd
    refine Ev.round (f := fun _ => some _) (Ev.now _) (fun k => ?_)
    rw [dispatcherref11_Ints.l0, if_neg (by omega)]
    simp [List.drop_of_length_le, show a.length ≤ i by omega, show b.length ≤ i by omega]
  | succ d ih =>
    intro i hi hd
    have h1 : i < a.length := by omega
    have h2 : i < b.length := by omega
    by_cases he : a[i] = b[i]
    · refine Ev.eq (Ev.round (ih (i + 1) (by omega) (by omega)) (fun k => ?_)) ?_
      · rw [dispatcherref11_Ints.l0, if_pos (by omega), if_pos (by omega), if_pos (by omega), if_pos (by rw [rd_lt h1, rd_lt h2]; exact he), wrap64_nat i (by omega)]
      · rw [drop_cons h1, drop_cons h2, he]; exact dec_cons_eq
    · refine Ev.eq (Ev.round (f := fun _ => some false) (Ev.now _) (fun k => ?_)) ?_
      · rw [dispatcherref11_Ints.l0, if_pos (by omega), if_pos (by omega), if_pos (by omega), if_neg (by rw [rd_lt h1, rd_lt h2]; exact he)]
      · rw [drop_cons h1, drop_cons h2]; exact dec_cons_ne he
theorem ref11_ints (a b : List Int) (hm : a.length < 9223372036854775807) : Ev (fun k => dispatcherref11_Ints.f k a b) (decide (a = b)) := by
  by_cases hl : a.length = b.length
  · refine Ev.eq (Ev.same (ref11_ints_l0 a b hl hm a.length 0 (by omega) (by omega)) (fun k => ?_)) (by simp)
    rw [dispatcherref11_Ints.f, if_pos (by omega)]; rfl
  · refine Ev.eq (Ev.same (f := fun _ => some false) (Ev.now _) (fun k => ?_)) ?_
    · rw [dispatcherref11_Ints.f, if_neg (by omega)]
    · symm; rw [decide_eq_false_iff_not]; intro h; exact hl (by rw [h])

theorem ref11_ints_same (a : List Int) (hm : a.length < 9223372036854775807) : Ev (fun k => dispatcherref11_Ints.f k a a) true := Ev.eq (ref11_ints a a hm) (by simp)
theorem less_ck (N : Nat) (c d : Nat → Nat) : lessAny (ck N c) (ck N d) = true ↔ ∃ r, r < N ∧ c r < d r := by
  unfold lessAny
  rw [ck_zip, List.any_eq_true]
  constructor
  · rintro ⟨x, hx, h⟩
    obtain ⟨r, hr, rfl⟩ := List.mem_map.1 hx
    have := of_decide_eq_true h
    exact ⟨r, by simpa using hr, by omega⟩
  · rintro ⟨r, hr, h⟩
    exact ⟨_, List.mem_map.2 ⟨r, by simpa using hr, rfl⟩, decide_eq_true (by show (c r : Int) < (d r : Int); omega)⟩
section
variable {l : List Ev_} {N : Nat} {ks : List Kn} (h : Known l N ks)
include h
theorem Known.cn2 (S : Nat → Bool) (r : Int) : cn l S r ≤ 100000 := by
  have := cn_le (l := l) S r
  have := h.l2
  omega
theorem Known.fit {i k : Nat} (hi : i < l.length) (hk : k < l.length) : HD.fitB (kat ks (i : Int)).f0 (kat ks (k : Int)).f0 = true := by
  rw [h.clk i hi, h.clk k hk]
  exact ck_fit h.n1 h.n2 (fun r _ => h.cn2 _ _) (fun r _ => h.cn2 _ _)
theorem Known.of_ {i k : Nat} (hi : i < l.length) (hk : k < l.length) : ofF (kat ks (i : Int)).f0 (kat ks (k : Int)).f0 = encT (lessAny (kat ks (i : Int)).f0 (kat ks (k : Int)).f0) (lessAny (kat ks (k : Int)).f0 (kat ks (i : Int)).f0) := by
  unfold ofF
  rw [if_pos (h.fit hi hk), tells_eq]
theorem Known.less_of {i k : Nat} (hi : i < l.length) (hk : k < l.length) (hn : lessAny (kat ks (k : Int)).f0 (kat ks (i : Int)).f0 = false) : i = k ∨ HH l k i = true := by
  refine H_of_cn h.V hi hk ?_
  rw [h.clk i hi, h.clk k hk] at hn
  obtain ⟨r0, hr⟩ : ∃ r0 : Nat, rk l i = r0 := ⟨(rk l i).toNat, by have := h.rkb hi; omega⟩
  have hrN : r0 < N := by have := h.rkb hi; omega
  rw [hr]
  rcases Nat.lt_or_ge (cn l (PP l k) (r0 : Int)) (cn l (PP l i) (r0 : Int)) with h1 | h1
  · have := (less_ck N (fun r => cn l (PP l k) r) (fun r => cn l (PP l i) r)).2 ⟨r0, hrN, h1⟩
    rw [hn] at this
    cases this
  · exact h1
/-- ahead, just if it happened ahead -/
theorem Known.ahead {i k : Nat} (hi : i < l.length) (hk : k < l.length) : ahB ks (i : Int) (k : Int) = HH l k i := by
  have hb1 : hasB ks (i : Int) = true := hasB_iff.2 ⟨by omega, by rw [h.len]; omega⟩
  have hb2 : hasB ks (k : Int) = true := hasB_iff.2 ⟨by omega, by rw [h.len]; omega⟩
  unfold ahB
  rw [hb1, hb2, h.of_ hi hk]
  cases hh : HH l k i with
  | true =>
    obtain ⟨c1, c2⟩ := cn_of_H h.V hi hk hh
    have e1 : lessAny (kat ks (i : Int)).f0 (kat ks (k : Int)).f0 = true := by
      rw [h.clk i hi, h.clk k hk, less_ck]
      obtain ⟨r0, hr⟩ : ∃ r0 : Nat, rk l k = r0 := ⟨(rk l k).toNat, by have := h.rkb hk; omega⟩
      rw [hr] at c2
      exact ⟨r0, by have := h.rkb hk; omega, c2⟩
    have e2 : lessAny (kat ks (k : Int)).f0 (kat ks (i : Int)).f0 = false := by
      cases hl : lessAny (kat ks (k : Int)).f0 (kat ks (i : Int)).f0 with
      | false => rfl
      | true =>
        rw [h.clk i hi, h.clk k hk, less_ck] at hl
        obtain ⟨r, _, hr⟩ := hl
        have := c1 r
        omega
    rw [e1, e2]
    rfl
  | false =>
    cases e2 : lessAny (kat ks (k : Int)).f0 (kat ks (i : Int)).f0 with
    | true =>
      cases lessAny (kat ks (i : Int)).f0 (kat ks (k : Int)).f0 <;> rfl
    | false =>
      rcases h.less_of hi hk e2 with h1 | h1
      · subst h1
        rw [e2]
        rfl
      · rw [h1] at hh
        cases hh
/-- unlike events have unlike clocks -/
theorem Known.same {i k : Nat} (hi : i < l.length) (hk : k < l.length) : ofF (kat ks (i : Int)).f0 (kat ks (k : Int)).f0 = 0 ↔ i = k := by
  rw [h.of_ hi hk]
  constructor
  · intro h0
    cases e1 : lessAny (kat ks (i : Int)).f0 (kat ks (k : Int)).f0 with
    | true => rw [e1] at h0; cases e2 : lessAny (kat ks (k : Int)).f0 (kat ks (i : Int)).f0 <;> rw [e2] at h0 <;> cases h0
    | false =>
      cases e2 : lessAny (kat ks (k : Int)).f0 (kat ks (i : Int)).f0 with
      | true => rw [e1, e2] at h0; cases h0
      | false =>
        rcases h.less_of hi hk e2 with h1 | h1
        · exact h1
        · rcases h.less_of hk hi e1 with h2 | h2
          · exact h2.symm
          · have := H_lt h.V hk h1
            have := H_lt h.V hi h2
            omega
  · intro h0
    subst h0
    have e : lessAny (kat ks (i : Int)).f0 (kat ks (i : Int)).f0 = false := by
      cases hl : lessAny (kat ks (i : Int)).f0 (kat ks (i : Int)).f0 with
      | false => rfl
      | true =>
        rw [h.clk i hi, less_ck] at hl
        obtain ⟨r, _, hr⟩ := hl
        omega
    rw [e]
    rfl
end
theorem rdL_rows {l : List Ev_} {L q : Nat} (h : q < L) : rd_L12 ((rowsF l L).map (tab l.length)) (q : Int) = tab l.length (HH l q) := by
  unfold rd_L12
  rw [Int.toNat_natCast, List.getD_eq_getElem?_getD, List.getElem?_map]
  have := rows_get (l := l) L q h
  rw [List.getD_eq_getElem?_getD] at this
  rw [List.getElem?_eq_getElem (by rw [rowsF_len]; exact h)] at this ⊢
  simp only [Option.map_some, Option.getD_some] at this ⊢
  rw [this]
/-- how many of the first m there are of a rank -/
def cnT (l : List Ev_) (S : Nat → Bool) (r : Int) (m : Nat) : Nat := (List.range m).countP (fun j => S j && decide (rk l j = r))
theorem cnT_succ (l : List Ev_) (S : Nat → Bool) (r : Int) (m : Nat) : cnT l S r (m + 1) = cnT l S r m + (if S m = true ∧ rk l m = r then 1 else 0) := by
  unfold cnT
  rw [List.range_succ, List.countP_append, List.countP_singleton]
  simp
section
variable {l : List Ev_} {N : Nat} {ks : List Kn} (h : Known l N ks)
include h
theorem refClock_l0 {i : Nat} (hi : i < l.length) (n : Int) : ∀ (d m : Nat), l.length - m = d → m ≤ l.length →
    Ev (fun k => dispatcherref19_Order_Clock.l0 k (i : Int) (ck N (fun r => cnT l (HH l i) r m + (if rk l i = (r : Int) then 1 else 0))) (m : Int) n (l.map (·.f0)) ((rowsF l l.length).map (tab l.length))) (ck N (fun r => cn l (PP l i) r), n)
  | 0, m, hd, hm => by
    obtain rfl : m = l.length := by omega
    refine Ev.round (f := fun _ => some _) (Ev.now _) (fun k => ?_)
    rw [dispatcherref19_Order_Clock.l0, if_neg (by simp)]
    congr 2
    refine ck_congr (fun r hr => ?_)
    rw [cn_self h.V hi]
    rfl
  | d + 1, m, hd, hm => by
    have hml : m < l.length := by omega
    have hl2 := h.l2
    have ih := refClock_l0 hi n d (m + 1) (by omega) (by omega)
    have hrows : ((rowsF l l.length).map (tab l.length)).length = l.length := by rw [List.length_map, rowsF_len]
    have hw : wrap64 ((m : Int) + 1) = ((m + 1 : Nat) : Int) := wrap64_nat m (by omega)
    obtain ⟨r0, hr⟩ : ∃ r0 : Nat, rk l m = r0 := ⟨(rk l m).toNat, by have := h.rkb hml; omega⟩
    have hrN : r0 < N := by have := h.rkb hml; omega
    have hrd : rd (l.map (·.f0)) (m : Int) = (r0 : Int) := by
      rw [rd_lt (by simpa using hml), List.getElem_map, ← ek_eq hml]
      exact hr
    refine Ev.round ih (fun k => ?_)
    rw [dispatcherref19_Order_Clock.l0, if_pos (by simp; omega), if_pos (by omega), if_pos (by rw [hrows]; omega), if_pos (by omega), rdL_rows hi, tab_len, if_pos (by omega), tab_rd hml, hrd]
    by_cases hH : HH l i m = true
    · rw [if_pos hH, if_pos (by omega), ck_len, if_pos (by omega), Int.toNat_natCast, ck_rd hrN, hw]
      have hb : cnT l (HH l i) (r0 : Int) m ≤ l.length := by
        unfold cnT
        exact Nat.le_trans List.countP_le_length (by simp; omega)
      have hset : (ck N (fun r => cnT l (HH l i) r m + (if rk l i = (r : Int) then 1 else 0))).set r0 (wrap64 (((cnT l (HH l i) (r0 : Int) m + (if rk l i = (r0 : Int) then 1 else 0) : Nat) : Int) + 1)) = ck N (fun r => cnT l (HH l i) r (m + 1) + (if rk l i = (r : Int) then 1 else 0)) := by
        rw [wrap64_nat _ (by split <;> omega)]
        apply List.ext_getElem
        · simp [ck]
        · intro q a b
          simp only [ck, List.getElem_set, List.getElem_map, List.getElem_range]
          rw [cnT_succ, hr]
          by_cases hq : r0 = q
          · subst hq
            simp [hH]
            omega
          · rw [if_neg hq, if_neg (by omega : ¬ (HH l i m = true ∧ (r0 : Int) = (q : Int)))]
            rfl
      rw [hset]
    · rw [if_neg hH, hw]
      congr 1
      refine ck_congr (fun r _ => ?_)
      have e : cnT l (HH l i) (r : Int) (m + 1) = cnT l (HH l i) (r : Int) m := by rw [cnT_succ, if_neg (fun hh => hH hh.1)]; rfl
      rw [e]
theorem refClock {i : Nat} (hi : i < l.length) : Ev (fun k => dispatcherref19_Order_Clock.f k (N : Int) (l.map (·.f0)) ((rowsF l l.length).map (tab l.length)) (i : Int)) ((kat ks (i : Int)).f0, (N : Int)) := by
  have hl2 := h.l2
  have hn2 := h.n2
  obtain ⟨r0, hr⟩ : ∃ r0 : Nat, rk l i = r0 := ⟨(rk l i).toNat, by have := h.rkb hi; omega⟩
  have hrN : r0 < N := by have := h.rkb hi; omega
  have hrd : rd (l.map (·.f0)) (i : Int) = (r0 : Int) := by
    rw [rd_lt (by simpa using hi), List.getElem_map, ← ek_eq hi]
    exact hr
  refine Ev.eq (Ev.same (refClock_l0 h hi (N : Int) l.length 0 (by omega) (by omega)) (fun k => ?_)) (by rw [h.clk i hi])
  rw [dispatcherref19_Order_Clock.f, if_pos (by omega), if_pos (by omega)]
  simp only [Option.bind_some]
  rw [if_pos (by omega), if_pos (by simp; omega), hrd, if_pos (by omega), if_pos (by simp; omega), Int.toNat_natCast, Int.toNat_natCast]
  congr 1
  rw [ck_zero]
  apply List.ext_getElem
  · simp [ck]
  · intro q a b
    simp only [ck, List.getElem_set, List.getElem_map, List.getElem_range]
    rw [hr]
    unfold cnT
    by_cases hq : r0 = q
    · subst hq; simp
    · have hq2 : ¬ ((r0 : Int) = (q : Int)) := by omega
      simp [hq, hq2]
/-- the document's depths -/
def deps (ks : List Kn) (m : Nat) : List Int := (List.range m).map (fun q : Nat => (kat ks (q : Int)).f1)
theorem Known.dep_le : ∀ (q : Nat), q < l.length → (kat ks (q : Int)).f1 ≤ (q : Int) + 1 := by
  intro q
  induction q using Nat.strongRecOn with
  | ind q ih =>
    intro hq
    rcases (h.dep q hq).2.2 with h1 | ⟨m, hm, h1⟩
    · omega
    · have h2 := H_lt h.V hq hm
      have := ih m h2 (by omega)
      omega
omit h in
theorem deps_len (m : Nat) : (deps ks m).length = m := by simp [deps]
omit h in
theorem deps_rd {m q : Nat} (hq : q < m) : rd (deps ks m) (q : Int) = (kat ks (q : Int)).f1 := by simp [rd, deps, hq]
omit h in
theorem deps_succ (m : Nat) : deps ks (m + 1) = deps ks m ++ [(kat ks (m : Int)).f1] := by simp [deps, List.range_succ]
theorem refDepths_l1 {i : Nat} (hi : i < l.length) (n : Int) (r : List Int × Int) (hr : Ev (fun k => dispatcherref19_Order_Depths.l0 k (deps ks (i + 1)) ((i + 1 : Nat) : Int) n (l.map (·.f0)) ((rowsF l l.length).map (tab l.length))) r) : ∀ (d m : Nat) (x : Int), i - m = d → m ≤ i → (∀ q, q < m → HH l i q = true → (kat ks (q : Int)).f1 ≤ x) → (x = 0 ∨ ∃ q, q < m ∧ HH l i q = true ∧ x = (kat ks (q : Int)).f1) →
    Ev (fun k => dispatcherref19_Order_Depths.l1 k (deps ks i) (i : Int) x (m : Int) n (l.map (·.f0)) ((rowsF l l.length).map (tab l.length))) r
  | 0, m, x, hd, hm, h1, h2 => by
    obtain rfl : m = i := by omega
    have hl2 := h.l2
    obtain ⟨d1, d2, d3⟩ := h.dep m hi
    have dl := h.dep_le m hi
    have hx : x + 1 = (kat ks (m : Int)).f1 := by
      rcases d3 with d3 | ⟨q, hq, d3⟩
      · rcases h2 with h2 | ⟨q, hq, hH, h2⟩
        · omega
        · have := d2 q hH
          have := (h.dep q (by omega)).1
          omega
      · have hqm := H_lt h.V hi hq
        have := h1 q hqm hq
        have := (h.dep q (by omega)).1
        rcases h2 with h2 | ⟨q', hq', hH, h2⟩
        · omega
        · have := d2 q' hH
          omega
    refine Ev.round hr (fun k => ?_)
    rw [dispatcherref19_Order_Depths.l1, if_neg (by omega), if_pos (by rw [deps_len]; omega), wrap64_nat m (by omega), wrap64_of (by omega) (by omega), hx, ← deps_succ]
  | d + 1, m, x, hd, hm, h1, h2 => by
    have e1 : i - (m + 1) = d := by clear h1 h2; omega
    have e2 : m + 1 ≤ i := by clear h1 h2; omega
    have e3 : ∀ q : Nat, q < m → q < m + 1 := fun q hq => by omega
    have hl2 := h.l2
    have hml : m < l.length := by clear h1 h2; omega
    have hrows : ((rowsF l l.length).map (tab l.length)).length = l.length := by rw [List.length_map, rowsF_len]
    have hw : wrap64 ((m : Int) + 1) = ((m + 1 : Nat) : Int) := wrap64_nat m (by omega)
    have unf : ∀ k, dispatcherref19_Order_Depths.l1 (k + 1) (deps ks i) (i : Int) x (m : Int) n (l.map (·.f0)) ((rowsF l l.length).map (tab l.length)) =
        if HH l i m = true then (if (kat ks (m : Int)).f1 > x then dispatcherref19_Order_Depths.l1 k (deps ks i) (i : Int) (kat ks (m : Int)).f1 ((m + 1 : Nat) : Int) n (l.map (·.f0)) ((rowsF l l.length).map (tab l.length)) else dispatcherref19_Order_Depths.l1 k (deps ks i) (i : Int) x ((m + 1 : Nat) : Int) n (l.map (·.f0)) ((rowsF l l.length).map (tab l.length)))
        else dispatcherref19_Order_Depths.l1 k (deps ks i) (i : Int) x ((m + 1 : Nat) : Int) n (l.map (·.f0)) ((rowsF l l.length).map (tab l.length)) := fun k => by
      rw [dispatcherref19_Order_Depths.l1, if_pos (by omega), if_pos (by omega), if_pos (by rw [hrows]; omega), if_pos (by omega), rdL_rows hi, tab_len, if_pos (by omega), tab_rd hml, hw, deps_len, if_pos (by omega : (m : Int) < (i : Int)), deps_rd (by omega)]
    by_cases hH : HH l i m = true
    · by_cases hx : (kat ks (m : Int)).f1 > x
      · refine Ev.round (refDepths_l1 hi n r hr d (m + 1) (kat ks (m : Int)).f1 e1 e2 (fun q hq hq2 => ?_) (.inr ⟨m, Nat.lt_succ_self m, hH, rfl⟩)) (fun k => by rw [unf, if_pos hH, if_pos hx])
        rcases Nat.lt_succ_iff_lt_or_eq.1 hq with h3 | h3
        · have := h1 q h3 hq2; omega
        · subst h3; omega
      · refine Ev.round (refDepths_l1 hi n r hr d (m + 1) x e1 e2 (fun q hq hq2 => ?_) (h2.imp id (fun ⟨q, a, b, c⟩ => ⟨q, e3 q a, b, c⟩))) (fun k => by rw [unf, if_pos hH, if_neg hx])
        rcases Nat.lt_succ_iff_lt_or_eq.1 hq with h3 | h3
        · exact h1 q h3 hq2
        · subst h3; omega
    · refine Ev.round (refDepths_l1 hi n r hr d (m + 1) x e1 e2 (fun q hq hq2 => ?_) (h2.imp id (fun ⟨q, a, b, c⟩ => ⟨q, e3 q a, b, c⟩))) (fun k => by rw [unf, if_neg hH])
      rcases Nat.lt_succ_iff_lt_or_eq.1 hq with h3 | h3
      · exact h1 q h3 hq2
      · subst h3; exact absurd hq2 hH
theorem refDepths_l0 (n : Int) : ∀ (d i : Nat), l.length - i = d → i ≤ l.length → Ev (fun k => dispatcherref19_Order_Depths.l0 k (deps ks i) (i : Int) n (l.map (·.f0)) ((rowsF l l.length).map (tab l.length))) (deps ks l.length, n)
  | 0, i, hd, hi => by
    obtain rfl : i = l.length := by omega
    refine Ev.round (f := fun _ => some _) (Ev.now _) (fun k => ?_)
    rw [dispatcherref19_Order_Depths.l0, if_neg (by simp)]
  | d + 1, i, hd, hi => by
    have hil : i < l.length := by omega
    refine Ev.round (refDepths_l1 h hil n _ (refDepths_l0 n d (i + 1) (by omega) (by omega)) i 0 0 (by omega) (by omega) (fun q hq => by omega) (.inl rfl)) (fun k => ?_)
    rw [dispatcherref19_Order_Depths.l0, if_pos (by simp; omega)]
    rfl
theorem refDepths (n : Int) : Ev (fun k => dispatcherref19_Order_Depths.f k n (l.map (·.f0)) ((rowsF l l.length).map (tab l.length))) (deps ks l.length, n) :=
  Ev.same (refDepths_l0 h n l.length 0 (by omega) (by omega)) (fun k => by rw [dispatcherref19_Order_Depths.f]; rfl)
end
end Go.Proofs.Ytnblmjkaieibhaa.HO
