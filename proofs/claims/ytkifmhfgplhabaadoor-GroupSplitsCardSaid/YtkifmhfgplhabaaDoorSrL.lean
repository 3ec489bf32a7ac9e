/-
  CONTRACTS BY HAND (the stable sort, 12): slices.SortStableFunc over a row of one's own.
-/
import Derived.Test.YtkifmhfgplhabaaDoorSrK
namespace Go.Proofs.YtkifmhfgplhabaaDoor.HS
open Go.Proofs Go.Shelf Go.RowKit Go.Lib Go.Sort Go.Proofs.YtkifmhfgplhabaaDoor.HU Go.Proofs.YtkifmhfgplhabaaDoor.HK Go.Proofs.YtkifmhfgplhabaaDoorW.PrintWords Go.Proofs.YtkifmhfgplhabaaDoorW.PrintLast Go.Proofs.YtkifmhfgplhabaaDoorW.PrintMore
set_option linter.unusedVariables false
set_option linter.unusedSimpArgs false
set_option linter.unusedSectionVars false
theorem put_kept (enc : El → List Value) (w : World) (blk off : Nat) (d : Array El) : Kept w (putRowK enc K3 w blk off d) (fun k => k = blk) := by
  refine ⟨by rw [size_putRowK]; exact Nat.le_refl _, fun i hi hn => ?_⟩
  unfold putRowK putRow mapBlock
  rw [Array.getElem?_modify, if_neg (fun h => hn h.symm)]
theorem swk_kept {enc : El → List Value} {w W : World} {blk off : Nat} {d : Array El} (h : SWK enc K3 w blk off d W) : Kept w W (fun k => k = blk) := by
  obtain ⟨n, os, rfl⟩ := h
  unfold sortWorldK
  have h1 := put_kept enc (Sort.ahead w n) blk off d
  have h2 : Kept w (putRowK enc K3 (Sort.ahead w n) blk off d) (fun k => k = blk) := h1
  refine ⟨by rw [size_grow]; exact Nat.le_trans h2.1 (Nat.le_add_right _ _), fun i hi hn => ?_⟩
  rw [heap_grow_old _ _ (Nat.lt_of_lt_of_le hi h2.1)]
  exact h2.2 i hi hn
theorem swk_below {enc : El → List Value} {w W : World} {blk off B : Nat} {d : Array El} (h : SWK enc K3 w blk off d W) (hB : B ≤ blk) (hb : blk < w.heap.size) : Below B w W := by
  have hk := swk_kept h
  obtain ⟨n, os, rfl⟩ := h
  exact ⟨rfl, rfl, rfl, hk.1, fun k hkB => hk.2 k (by omega) (by omega)⟩
theorem holds_of_R {e base g n cap : Nat} {ok : Nat → Prop} {W : World} {xs : List Asd} (h : Kd.R k67 e W base ok (.slice (some ⟨g, 0, none⟩) n cap) xs) : HoldsK encE K3 W g 0 (els xs).toArray := by
  have hC := (Kd.R_reads' h).2.2
  have hn := (Kd.R_reads' h).1
  obtain ⟨cells, hb⟩ := Kd.R_typed h g rfl
  intro t ht
  rw [size_flatK, List.size_toArray, els_len] at ht
  refine ⟨?_, blk_frozen hb _⟩
  have k3 : K3 = 3 := rfl
  rw [get_flatK _ _ _ _ (by rw [List.size_toArray, els_len]; exact ht)]
  rw [k3] at ht ⊢
  have hi : t / 3 < xs.length := by omega
  obtain ⟨ad, cs, he, hl, hK, hc⟩ := Kd.C_get hC z67 ((t / 3 : Nat) : Int) (by omega) (by omega)
  injection he with he
  subst he
  rw [Int.toNat_natCast] at hc hK
  have hx : xs.getD (t / 3) z67 = xs[t / 3] := by simp [hi]
  rw [hx] at hK
  obtain rfl := k67_open hK
  have hg : ((els xs).toArray)[t / 3]! = toEl xs[t / 3] (t / 3) := by
    rw [getElem!_pos _ _ (by rw [List.size_toArray, els_len]; exact hi), List.getElem_toArray, els_get hi]
  rw [hg]
  have hm : t % 3 < 3 := Nat.mod_lt _ (by omega)
  have h2 := hc (t % 3) ((encE (toEl xs[t / 3] (t / 3)))[t % 3]!) (by
    rcases (by omega : t % 3 = 0 ∨ t % 3 = 1 ∨ t % 3 = 2) with h | h | h <;> rw [h] <;> rfl)
  have h3 : t / 3 * 3 + t % 3 = t := by omega
  have h4 : (⟨g, 0, none⟩ : Addr).add (t / 3 * (k67).sz + t % 3) = ⟨g, 0 + t, none⟩ := by
    rw [add_plain]
    show (⟨g, t / 3 * 3 + t % 3, none⟩ : Addr) = _
    rw [h3, Nat.zero_add]
  rw [h4] at h2
  exact h2
theorem reads_of_holds {g : Nat} {W : World} {l : List El} (h : HoldsK encE K3 W g 0 l.toArray) (hm : l.length ≤ maxLen) : Kd.C k67 W (some ⟨g, 0, none⟩) l.length (l.map ofEl) := by
  refine ⟨by simp, hm, fun _ => ⟨_, rfl, fun j p hj => ?_⟩⟩
  obtain ⟨x, hx, rfl⟩ : ∃ x, l[j]? = some x ∧ p = ofEl x := by
    rw [List.getElem?_map] at hj
    cases hl : l[j]? with
    | none => rw [hl] at hj; cases hj
    | some x => rw [hl] at hj; exact ⟨x, rfl, (Option.some.inj hj).symm⟩
  have hjl : j < l.length := by
    rcases Nat.lt_or_ge j l.length with h | h
    · exact h
    · rw [List.getElem?_eq_none h] at hx; cases hx
  refine ⟨[.int .i64 x.c, .int .i64 x.k, .int .i64 x.r], rfl, k67_mk W (ofEl x), fun i u hu => ?_⟩
  have hi : i < 3 := by
    rcases Nat.lt_or_ge i 3 with h | h
    · exact h
    · rw [List.getElem?_eq_none (by simpa using h)] at hu; cases hu
  have hc := (HoldsK.cell h (i := j) (c := i) (by simpa using hjl) hi).1
  have hg : (l.toArray)[j]! = x := by
    rw [getElem!_pos _ _ (by simpa using hjl), List.getElem_toArray]
    rw [List.getElem?_eq_getElem hjl] at hx
    exact Option.some.inj hx
  rw [hg] at hc
  have h4 : (⟨g, 0, none⟩ : Addr).add (j * (k67).sz + i) = ⟨g, 0 + j * K3 + i, none⟩ := by
    rw [add_plain, Nat.zero_add]
    rfl
  show W.cell? ((⟨g, 0, none⟩ : Addr).add (j * (k67).sz + i)) = some u
  rw [h4, hc]
  congr 1
  rcases (by omega : i = 0 ∨ i = 1 ∨ i = 2) with h | h | h <;> subst h <;> exact (Option.some.inj hu)
theorem encE_one (x : El) : ∀ v ∈ encE x, v.oneCell' = true := by
  intro v hv
  simp only [encE, List.mem_cons, List.not_mem_nil, or_false] at hv
  rcases hv with rfl | rfl | rfl <;> rfl
theorem els_lt (xs : List Asd) : ∀ p q, p < q → q < (els xs).toArray.size → El.i ((els xs).toArray)[p]! < El.i ((els xs).toArray)[q]! := by
  intro p q hpq hq
  have hq' : q < xs.length := by rw [List.size_toArray, els_len] at hq; exact hq
  have e : ∀ t, t < xs.length → El.i ((els xs).toArray)[t]! = t := fun t ht => by
    rw [getElem!_pos (els xs).toArray t (by rw [List.size_toArray, els_len]; exact ht), List.getElem_toArray, els_get ht]
    rfl
  rw [e p (by omega), e q hq']
  exact hpq
set_option maxHeartbeats 4000000 in
/-- the sort -/
theorem sort_c {e base n cap : Nat} {ok : Nat → Prop} {A : Option Addr} {xs : List Asd} {w : World} (h : Kd.R k67 e w base ok (.slice A n cap) xs) (hp : 0 < xs.length) (hl : xs.length < 1000000) :
    Calls Tryd.prog 29 #[.slice A n cap, .func (.func 30) #[] #[]] w fun e w' => e = .returned (.tuple #[]) ∧ Kd.C k67 w' A n (sortA xs) ∧ Kept w w' (fun k => some k = Value.ownBlock (.slice A n cap)) ∧ ∀ B, (∀ k, Value.ownBlock (.slice A n cap) = some k → B ≤ k) → Below B w w' := by
  obtain ⟨g, cu, hv, _, hgl, _⟩ := Kd.R_form h hp
  injection hv with h1 h2 h3
  subst h1 h2 h3
  have hm := Kd.C_max (Kd.R_reads' h).2.2
  have hH := holds_of_R h
  have R : RowK encE K3 w g 0 (els xs).toArray := ⟨fun x => rfl, encE_one, hH, hgl⟩
  have hst := stable_c (idx := El.i) ltI_swo agrE 30 #[] g 0 cap (els xs).toArray w (enters_of Tryd.func30 (by kernel_rfl) rfl) (fun _ _ _ _ x y => closure_c x y _) R (by rw [List.size_toArray, els_len]; exact hl) (els_lt xs)
  rw [List.size_toArray, els_len] at hst
  have HST := Aside0.mk hst
  have HM := Aside0.mk hm
  have HH := Aside0.mk hH
  have HG := Aside0.mk hgl
  clear hst R hH h hm hgl
  go_enter Tryd.func29, Tryd.ntmps29
  go_wp2_with fail
  refine HST.out.mono ?_
  rintro e w1 ⟨rfl, d', hpm, hso, hS⟩
  go_wp2
  go_end0
  have e1 : d'.toList = isort (els xs) := sorted_is (by rw [els_len]; exact hpm) (by rw [els_len]; exact hso)
  have e2 : d' = (isort (els xs)).toArray := by rw [← e1]
  have hl2 : (isort (els xs)).length = xs.length := by rw [(isort_perm _).length_eq, els_len]
  have hC := reads_of_holds (g := g) (W := w1) (l := isort (els xs)) (by rw [← e2]; exact hS.holds HG.out HH.out hpm.1) (by rw [hl2]; exact HM.out)
  rw [hl2] at hC
  exact ⟨rfl, hC, (swk_kept hS).mono (fun k hk => by rw [hk]; rfl), fun B hB => swk_below hS (hB g rfl) HG.out⟩
end Go.Proofs.YtkifmhfgplhabaaDoor.HS
