/-
  CONTRACTS BY HAND (sign, 43): what two rows come to, joined (plain); Join.
-/
import Derived.Test.YtpkcnifchggbnaaSpJ
import Derived.Test.YtpkcnifchggbnaaSpT
import Derived.Test.YtpkcnifchggbnaaSpU
import Derived.Test.YtpkcnifchggbnaaSpV
namespace Go.Proofs.Ytpkcnifchggbnaa.HI
open Go.RowKit Go.Proofs.Ytpkcnifchggbnaa.HD Go.Proofs.Ytpkcnifchggbnaa.HK Go.Proofs.Ytpkcnifchggbnaa.HU Go.Proofs.YtpkcnifchggbnaaW.PrintWords Go.Proofs.YtpkcnifchggbnaaW.PrintLast Go.Proofs.YtpkcnifchggbnaaW.PrintMore
set_option linter.unusedVariables false
set_option linter.unusedSimpArgs false
theorem agree_iff {a b : List Cho} : agreeB a b = true ↔ mayL a = true ∧ mayL b = true ∧ ∀ x ∈ a, ∀ y ∈ b, (x.f0 = y.f0 ∧ x.f1 = y.f1) → x = y := by
  rw [agree_eq, Bool.and_eq_true, Bool.and_eq_true, List.all_eq_true]
  constructor
  · rintro ⟨⟨ha, hb⟩, h⟩
    refine ⟨ha, hb, fun x hx y hy he => ?_⟩
    have hf : findC b x.f0 x.f1 = some y := by rw [he.1, he.2]; exact findC_of (mayL_iff.1 hb).2 hy
    have := h x hx
    rw [agP_some hf] at this
    exact (eqC_iff.1 this).symm
  · rintro ⟨ha, hb, h⟩
    refine ⟨⟨ha, hb⟩, fun x hx => ?_⟩
    cases hf : findC b x.f0 x.f1 with
    | none => exact agP_none hf
    | some y =>
      obtain ⟨h1, h2, h3⟩ := findC_some hf
      rw [agP_some hf]
      exact eqC_iff.2 (h x hx y h1 ⟨h2.symm, h3.symm⟩).symm
theorem within_iff {a b : List Cho} : withinB a b = true ↔ mayL a = true ∧ mayL b = true ∧ ∀ x ∈ a, x ∈ b := by
  unfold withinB
  simp only [Bool.and_eq_true, Bool.not_eq_true', List.any_eq_false, Bool.not_eq_true, Bool.not_eq_false', List.any_eq_true]
  constructor
  · rintro ⟨⟨ha, hb⟩, h⟩
    refine ⟨ha, hb, fun x hx => ?_⟩
    obtain ⟨y, hy, he⟩ := by simpa using h x hx
    rw [eqC_iff.1 he]
    exact hy
  · rintro ⟨ha, hb, h⟩
    exact ⟨⟨ha, hb⟩, fun x hx => by simpa using ⟨x, h x hx, eqC_self x⟩⟩
structure Joined (a b r : List Cho) : Prop where
  rise : r.Pairwise Less
  mem : ∀ x, x ∈ r ↔ x ∈ a ∨ x ∈ b
theorem rise_nodup {l : List Cho} (h : l.Pairwise Less) : l.Nodup := by
  rw [List.nodup_iff_pairwise_ne]
  refine h.imp ?_
  intro x y hxy e
  subst e
  exact less_irr x hxy
theorem mem_same {r s : List Cho} (hr : r.Pairwise Less) (hs : s.Pairwise Less) (h : ∀ x, x ∈ r ↔ x ∈ s) : r = s :=
  rise_same r s ((List.perm_ext_iff_of_nodup (rise_nodup hr) (rise_nodup hs)).2 h) hr hs
theorem dp_len (l : List Cho) : ∀ m, (dp l m).length ≤ m
  | 0 => Nat.le_refl _
  | m + 1 => by
    have h := dp_len l m
    rw [dp]
    split
    · split
      · omega
      · rw [List.length_append, List.length_singleton]; omega
    · rw [List.length_append, List.length_take]
      omega
theorem dp_plain {l : List Cho} (hs : l.Pairwise (fun x y => ¬ Less y x)) (hp : ∀ x ∈ l, ∀ y ∈ l, (x.f0 = y.f0 ∧ x.f1 = y.f1) → x = y) : ∀ m, m ≤ l.length → (dp l m).Pairwise Less ∧ ∀ x, x ∈ dp l m ↔ x ∈ l.take m
  | 0, _ => ⟨List.Pairwise.nil, fun x => by simp [dp]⟩
  | m + 1, hm => by
    obtain ⟨h1, h2⟩ := dp_plain hs hp m (by omega)
    have hml : m < l.length := by omega
    have htk : l.take (m + 1) = l.take m ++ [l[m]] := List.take_succ_eq_append_getElem hml
    have hle : ∀ i (hi : i < m), ¬ Less l[m] (l[i]'(by omega)) := fun i hi => (List.pairwise_iff_getElem.1 hs) i m (by omega) hml hi
    by_cases h0 : 0 < m
    · by_cases he : l[m - 1]'(by omega) = l[m]
      · rw [dp_dup hml h0 he]
        refine ⟨h1, fun x => ?_⟩
        rw [h2, htk, List.mem_append, List.mem_singleton]
        constructor
        · exact .inl
        · rintro (h | rfl)
          · exact h
          · rw [← he]
            exact List.mem_take_iff_getElem.2 ⟨m - 1, by omega, rfl⟩
      · rw [dp_new hml h0 he]
        refine ⟨?_, fun x => ?_⟩
        · rw [List.pairwise_append]
          refine ⟨h1, List.pairwise_singleton _ _, fun x hx y hy => ?_⟩
          rw [List.mem_singleton.1 hy]
          obtain ⟨i, hi, rfl⟩ := List.mem_take_iff_getElem.1 ((h2 x).1 hx)
          have him : i < m := by omega
          rcases less_total (l[i]'(by omega)) l[m] with h | h | h
          · exact h
          · exfalso
            have hij : ¬ Less l[m] (l[m - 1]'(by omega)) := hle (m - 1) (by omega)
            have hik : i = m - 1 ∨ ¬ Less (l[m - 1]'(by omega)) (l[i]'(by omega)) := by
              rcases Nat.lt_or_ge i (m - 1) with hlt | hge
              · exact .inr ((List.pairwise_iff_getElem.1 hs) i (m - 1) (by omega) (by omega) hlt)
              · exact .inl (by omega)
            refine he (hp _ (List.getElem_mem _) _ (List.getElem_mem _) ?_)
            rcases hik with hik | hik
            · subst hik
              exact h
            · unfold Less at hij hik
              omega
          · exact absurd h (hle i him)
        · rw [htk, List.mem_append, List.mem_append, h2]
    · obtain rfl : m = 0 := by omega
      rw [dp_one]
      refine ⟨?_, fun x => Iff.rfl⟩
      cases l with
      | nil => exact List.Pairwise.nil
      | cons y t => exact List.pairwise_singleton _ _
theorem join_plain {a b ys : List Cho} (h : agreeB a b = true) (hp : ys.Perm (a ++ b)) (hs : ys.Pairwise (fun x y => ¬ Less y x)) : Joined a b (dp ys ys.length) := by
  obtain ⟨ha, hb, hab⟩ := agree_iff.1 h
  have hpt : ∀ x ∈ ys, ∀ y ∈ ys, (x.f0 = y.f0 ∧ x.f1 = y.f1) → x = y := fun x hx y hy he => by
    rcases List.mem_append.1 (hp.mem_iff.1 hx) with hx | hx <;> rcases List.mem_append.1 (hp.mem_iff.1 hy) with hy | hy
    · exact sorted_one (mayL_iff.1 ha).2 hx hy he
    · exact hab x hx y hy he
    · exact (hab y hy x hx ⟨he.1.symm, he.2.symm⟩).symm
    · exact sorted_one (mayL_iff.1 hb).2 hx hy he
  obtain ⟨h1, h2⟩ := dp_plain hs hpt ys.length (Nat.le_refl _)
  refine ⟨h1, fun x => ?_⟩
  rw [h2, List.take_length, hp.mem_iff, List.mem_append]
/-- how Join ends -/
def JPost (a b : List Cho) (w : World) (e : Ending) (w' : World) : Prop := ∃ v r, e = .returned (.tuple #[v, .int .i64 (if agreeB a b then 0 else 2)]) ∧ Kd.R k24 24 w' w.heap.size (fun _ => True) v r ∧ Below w.heap.size w w' ∧ (agreeB a b = true → Joined a b r ∧ r.length ≤ a.length + b.length) ∧ (agreeB a b = false → r = [])
theorem JPost.no {a b : List Cho} {w w' : World} (h : agreeB a b = false) (hb : Below w.heap.size w w') : JPost a b w (.returned (.tuple #[.slice none 0 0, .int .i64 2])) w' :=
  ⟨_, [], by rw [h]; rfl, Kd.R_nil _ _ _ _ _, hb, (fun e => by rw [h] at e; cases e), fun _ => rfl⟩
theorem JPost.yes {a b r : List Cho} {w w' : World} {v : Value} (h : agreeB a b = true) (hR : Kd.R k24 24 w' w.heap.size (fun _ => True) v r) (hb : Below w.heap.size w w') (hj : Joined a b r) (hl : r.length ≤ a.length + b.length) : JPost a b w (.returned (.tuple #[v, .int .i64 0])) w' :=
  ⟨v, r, by rw [h]; rfl, hR, hb, fun _ => ⟨hj, hl⟩, fun e => by rw [h] at e; cases e⟩
set_option maxHeartbeats 4000000 in
set_option maxRecDepth 100000 in
theorem join2_c (A0 : Option Addr) (c0 : Nat) (a : List Cho) (A1 : Option Addr) (c1 : Nat) (b : List Cho) (w : World) (h0 : Kd.C k24 w A0 a.length a) (hc0 : a.length ≤ c0) (h1 : Kd.C k24 w A1 b.length b) (hc1 : b.length ≤ c1) (hl0 : a.length ≤ 500) (hl1 : b.length ≤ 500) :
    Calls Try.prog 17 #[.slice A0 a.length c0, .slice A1 b.length c1] w (JPost a b w) := by
  have HA := Aside0.mk h0
  have HB := Aside0.mk h1
  have HAG := Aside0.mk (agree_calls A0 c0 a A1 c1 b w h0 hc0 h1 hc1)
  clear h0 h1
  cases hag : agreeB a b with
  | false =>
    rw [hag] at HAG
    have HG := Aside0.mk hag
    clear hag
    go_enter Try.func17, Try.ntmps17
    go_wp2_with fail
    refine HAG.out.mono ?_
    rintro e w1 ⟨rfl, hb⟩
    go_wp2
    go_ret2
    exact JPost.no HG.out hb
  | true =>
    rw [hag] at HAG
    have HG := Aside0.mk hag
    clear hag
    go_enter Try.func17, Try.ntmps17
    go_wp2_with fail
    refine HAG.out.mono ?_
    rintro e w1 ⟨rfl, hb⟩
    have HB1 := Aside0.mk hb
    have hba := below_alloc (Below.refl w1.heap.size w1) (.cells #[.slice A0 a.length c0, .slice A1 b.length c1] 22)
    have HC := Aside0.mk (concat_c w1.heap.size A0 c0 a A1 c1 b (w1.alloc (.cells #[.slice A0 a.length c0, .slice A1 b.length c1] 22)) (blk_new w1 _) (Kd.C_below (Kd.C_below HA.out hb) hba) (Kd.C_below (Kd.C_below HB.out hb) hba) hl0 hl1)
    have HB2 := Aside0.mk (below_then hb hb.size hba)
    clear hb hba HAG HB1
    go_wp2_with fail
    refine HC.out.mono ?_
    rintro e w2 ⟨v, rfl, hR, hb⟩
    have hR := Kd.R_lower hR HB2.out.size
    have HB3 := Aside0.mk (below_then HB2.out HB2.out.size hb)
    have HS := Aside0.mk (HT.sort_r hR (by rw [List.length_append]; omega))
    clear hR hb HC HB2
    go_wp2_with fail
    refine HS.out.mono ?_
    rintro e w3 ⟨rfl, ys, hp, hs, hR, hb⟩
    have hyl := hp.length_eq
    rw [List.length_append] at hyl
    have HB4 := Aside0.mk (HB3.out.trans hb)
    have HJ := Aside0.mk (join_plain HG.out hp hs)
    have HK := Aside0.mk (compact_c hR (by omega))
    have HL := Aside0.mk (show (dp ys ys.length).length ≤ a.length + b.length by have := dp_len ys ys.length; omega)
    clear hp hs hR hb hyl HS HB3
    go_wp2_with fail
    refine HK.out.mono ?_
    rintro e w4 ⟨v', rfl, hR, hb⟩
    go_wp2
    go_ret2
    exact JPost.yes HG.out hR (HB4.out.trans hb) HJ.out HL.out
end Go.Proofs.Ytpkcnifchggbnaa.HI
