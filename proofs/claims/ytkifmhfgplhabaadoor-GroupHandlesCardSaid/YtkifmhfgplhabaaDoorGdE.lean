/-
  CONTRACTS BY HAND (splits, 5): the chapter's example.
-/
import Derived.Test.YtkifmhfgplhabaaDoorGdB
import Derived.Test.YtkifmhfgplhabaaDoorGdD
import Derived.Test.YtkifmhfgplhabaaDoorQgnbasex1
namespace Go.Proofs.YtkifmhfgplhabaaDoor.HQ
open Go.Proofs.YtkifmhfgplhabaaDoor.HU Go.RowKit Go.Proofs.YtkifmhfgplhabaaDoor.HK Go.Proofs.YtkifmhfgplhabaaDoor.HP Go.Proofs.YtkifmhfgplhabaaDoorW.PrintWords Go.Proofs.YtkifmhfgplhabaaDoorW.PrintLast Go.Proofs.YtkifmhfgplhabaaDoorW.PrintMore
set_option linter.unusedVariables false
set_option linter.unusedSimpArgs false
def e0 : ByteArray := ⟨#[]⟩
theorem dec_small {n : Nat} (h : n < 10) : Lib.decDigits n = [UInt8.ofNat (48 + n)] := by rw [Lib.decDigits, dif_pos h]
theorem dec_big {n : Nat} (h : ¬ n < 10) : Lib.decDigits n = Lib.decDigits (n / 10) ++ Lib.decDigits (n % 10) := by
  rw [Lib.decDigits, dif_neg h, dec_small (Nat.mod_lt _ (by omega))]
theorem ito0 : itoB 0 = ⟨#[48]⟩ := by
  unfold itoB Lib.itoa
  rw [if_neg (by decide), show (0 : Int).toNat = 0 from rfl, dec_small (by decide)]
  rfl
theorem ito1 : itoB 1 = ⟨#[49]⟩ := by
  unfold itoB Lib.itoa
  rw [if_neg (by decide), show (1 : Int).toNat = 1 from rfl, dec_small (by decide)]
  rfl
theorem ito12 : itoB 12 = ⟨#[49, 50]⟩ := by
  unfold itoB Lib.itoa
  rw [if_neg (by decide), show (12 : Int).toNat = 12 from rfl, dec_big (by decide), show 12 / 10 = 1 from rfl, show 12 % 10 = 2 from rfl, dec_small (by decide), dec_small (by decide)]
  rfl
theorem key0 : keyG e0 0 0 = ⟨#[46, 48, 58, 48]⟩ := by unfold keyG childB; rw [ito0]; rfl
theorem key1 : keyG e0 0 1 = ⟨#[46, 48, 58, 49]⟩ := by unfold keyG childB; rw [ito0, ito1]; rfl
theorem chi12 : childB e0 12 = ⟨#[46, 49, 50]⟩ := by unfold childB; rw [ito12]; rfl
def exA : List Ask_ := [⟨1, 5⟩, ⟨0, 0⟩, ⟨1, 2⟩, ⟨-1, 0⟩]
def exR : List Int := [0, 1, 2, 3]
theorem ex_pick : pick exA exR exA.length = [⟨⟨1, 5⟩, 0⟩, ⟨⟨0, 0⟩, 1⟩, ⟨⟨1, 2⟩, 2⟩] := by rfl
theorem ex_sort : HS.sortA [(⟨⟨1, 5⟩, 0⟩ : Asd), ⟨⟨0, 0⟩, 1⟩, ⟨⟨1, 2⟩, 2⟩] = [⟨⟨0, 0⟩, 1⟩, ⟨⟨1, 2⟩, 2⟩, ⟨⟨1, 5⟩, 0⟩] := by rfl
theorem ex_split : splitG e0 0 exR exA = [⟨⟨#[46, 48, 58, 48]⟩, [1]⟩, ⟨⟨#[46, 48, 58, 49]⟩, [2, 0]⟩] := by
  unfold splitG
  rw [ex_pick, ex_sort, ← key0, ← key1]
  rfl
theorem asks_C {W : World} {b : Nat} (hb : W.heap[b]? = some (.cells #[.int .i64 1, .int .i64 5, .int .i64 0, .int .i64 0, .int .i64 1, .int .i64 2, .int .i64 (-1), .int .i64 0] 40)) : Kd.C k40 W (some ⟨b, 0, none⟩) 4 exA := by
  refine ⟨rfl, by decide, fun _ => ⟨_, rfl, fun j p hj => ?_⟩⟩
  have hc : ∀ i : Nat, W.cell? ((⟨b, 0, none⟩ : Addr).add i) = (#[(.int .i64 1 : Value), .int .i64 5, .int .i64 0, .int .i64 0, .int .i64 1, .int .i64 2, .int .i64 (-1), .int .i64 0])[i]? := fun i => by rw [add_plain]; exact blk_cell hb i
  have hj4 : j < 4 := by
    rcases Nat.lt_or_ge j 4 with h | h
    · exact h
    · rw [List.getElem?_eq_none (by simpa [exA] using h)] at hj; cases hj
  refine ⟨[.int .i64 p.f0, .int .i64 p.f1], rfl, k40_mk W p, fun i u hu => ?_⟩
  have hi2 : i < 2 := by
    rcases Nat.lt_or_ge i 2 with h | h
    · exact h
    · rw [List.getElem?_eq_none (by simpa using h)] at hu; cases hu
  rw [hc]
  rcases (by omega : j = 0 ∨ j = 1 ∨ j = 2 ∨ j = 3) with rfl | rfl | rfl | rfl <;> (obtain rfl := (Option.some.inj hj)) <;> rcases (by omega : i = 0 ∨ i = 1) with rfl | rfl <;> exact hu
theorem ints_C {W : World} {b : Nat} {l : List Int} (hb : W.heap[b]? = some (.cells (l.map (fun x => Value.int .i64 x)).toArray 3)) (hl : l.length ≤ maxLen) : Kd.C (Kd.int .i64) W (some ⟨b, 0, none⟩) l.length l := by
  refine ⟨rfl, hl, fun _ => ⟨_, rfl, fun j p hj => ⟨[.int .i64 p], rfl, rfl, fun i u hu => ?_⟩⟩⟩
  have hi : i = 0 := by
    rcases Nat.eq_zero_or_pos i with h | h
    · exact h
    · rw [List.getElem?_eq_none (show [Value.int .i64 p].length ≤ i from h)] at hu; cases hu
  subst hi
  have hc : W.cell? ((⟨b, 0, none⟩ : Addr).add j) = ((l.map (fun x => Value.int .i64 x)).toArray)[j]? := by rw [add_plain]; exact blk_cell hb j
  have hsz : j * (Kd.int .i64).sz + 0 = j := by show j * 1 + 0 = j; omega
  rw [hsz, hc, ← hu]
  simp [hj]
theorem world4 : Qgnbase.group_World.f 20 4 = some (e0, exR, 0) := by kernel_rfl
theorem world65 : Qgnbase.group_World.f 20 65 = some (e0, [], 2) := by rfl
theorem same_c (s : ByteArray) (A : Option Addr) (c : Nat) (l : List Int) (A2 : Option Addr) (c2 : Nat) (w : World) (hr : Kd.C (Kd.int .i64) w A l.length l) (hc : l.length ≤ c) (hr2 : Kd.C (Kd.int .i64) w A2 l.length l) (hc2 : l.length ≤ c2) (hi : Qgnbase.dispatcherref11_Ints.f 9 l l = some true) :
    Calls Tryd.prog 15 #[.agg #[.string s, .slice A l.length c], .agg #[.string s, .slice A2 l.length c2]] w fun e w' => e = .returned (.bool true) ∧ Below w.heap.size w w' :=
  Qgnbase.dispatcherref11_Same.calls 9 s A c l s A2 c2 l true w hr hc hr2 hc2 (by unfold Qgnbase.dispatcherref11_Same.f; rw [if_pos rfl, hi]; rfl)
set_option maxRecDepth 100000 in
set_option maxHeartbeats 8000000 in
theorem awake_c (w : World) (ht : Tab w) : Calls Tryd.prog 16 #[] w fun e w' => e = .returned (.bool true) ∧ Below w.heap.size w w' := by
  have HT := Aside0.mk ht
  clear ht
  go_enter Tryd.func16, Tryd.ntmps16
  go_wp2_with fail
  refine (Qgnbase.group_World.calls 20 4 e0 exR 0 w world4).mono ?_
  rintro e w1 ⟨v1, rfl, hR, hb⟩
  obtain ⟨A, c, rfl, hc, hC⟩ := Kd.R_reads hR
  have HC1 := Aside0.mk hC
  have HB1 := Aside0.mk hb
  have HT1 := Aside0.mk (HT.out.after hb)
  clear hR hb hC HT
  go_upto_region 2 with fail
  have hba := below_alloc (Below.refl w1.heap.size w1) (.cells #[.string e0, .slice A exR.length c] 24)
  have b0 := blk_new w1 (.cells #[.string e0, .slice A exR.length c] 24)
  have p0 : (w1.alloc (.cells #[.string e0, .slice A exR.length c] 24)).cell? ⟨w1.heap.size, 0, none⟩ = some (.string e0) := (blk_cell b0 0).trans rfl
  have p1 : (w1.alloc (.cells #[.string e0, .slice A exR.length c] 24)).cell? ⟨w1.heap.size, 1, none⟩ = some (.slice A exR.length c) := (blk_cell b0 1).trans rfl
  have HB2 := Aside0.mk (below_then HB1.out HB1.out.size hba)
  have HC2 := Aside0.mk (Kd.C_below HC1.out hba)
  have HT2 := Aside0.mk (HT1.out.after hba)
  clear hba b0 HB1 HC1 HT1
  generalize w1.alloc (.cells #[.string e0, .slice A exR.length c] 24) = w2 at p0 p1 HB2 HC2 HT2 ⊢
  generalize w1.heap.size = bw at p0 p1 ⊢
  have hb2 := below_alloc (Below.refl w2.heap.size w2) (.cells #[.int .i64 1, .int .i64 5, .int .i64 0, .int .i64 0, .int .i64 1, .int .i64 2, .int .i64 (-1), .int .i64 0] 40)
  have hSP := split_c e0 A c exR 0 (some ⟨w2.heap.size, 0, none⟩) 4 exA _ (Kd.C_below HC2.out hb2) hc (asks_C (blk_new w2 _)) (Nat.le_refl _) (HT2.out.after hb2) (by decide) (by decide) (by decide) (by unfold Rng; decide) (by intro x hx; simp [exA] at hx; rcases hx with rfl | rfl | rfl | rfl <;> (unfold Rng; decide)) rfl (by decide)
  rw [ex_split] at hSP
  have HSP := Aside0.mk hSP
  have HB3 := Aside0.mk (below_then HB2.out HB2.out.size hb2)
  have HC3 := Aside0.mk (Kd.C_below HC2.out hb2)
  have HT3 := Aside0.mk (HT2.out.after hb2)
  have q0 := pw_cell_below hb2 p0
  have q1 := pw_cell_below hb2 p1
  clear hSP hb2 HB2 HC2 HT2
  go_wp2_with fail
  refine HSP.out.mono ?_
  rintro e w3 ⟨Av, cv, rfl, hcv, hCv, hb⟩
  have HB4 := Aside0.mk (below_then HB3.out HB3.out.size hb)
  have HC4 := Aside0.mk (Kd.C_below HC3.out hb)
  have HT4 := Aside0.mk (HT3.out.after hb)
  have r0 := pw_cell_below hb q0
  have r1 := pw_cell_below hb q1
  have HCV := Aside0.mk hCv
  clear hb HSP HB3 HC3 HT3 q0 q1 p0 p1 hCv
  go_wp2_with fail
  refine (Qgnbase.group_World.calls 20 65 e0 [] 2 w3 world65).mono ?_
  rintro e w4 ⟨v4, rfl, hR, hb⟩
  obtain ⟨A4, c4, rfl, hc4, _⟩ := Kd.R_reads hR
  have hba := below_alloc (Below.refl w4.heap.size w4) (.cells #[.string e0, .slice A4 0 c4] 24)
  have hbb := hb.trans (hba.mono hb.size)
  have HB5 := Aside0.mk (below_then HB4.out HB4.out.size hbb)
  have HC5 := Aside0.mk (Kd.C_below HC4.out hbb)
  have HT5 := Aside0.mk (HT4.out.after hbb)
  have HV5 := Aside0.mk (Kd.C_below HCV.out hbb)
  have s0 := pw_cell_below hbb r0
  have s1 := pw_cell_below hbb r1
  clear hb hR hba hbb HB4 HC4 HT4 HCV r0 r1
  go_upto_region 4 with fail
  generalize w4.alloc (.cells #[.string e0, .slice A4 0 c4] 24) = w5 at HB5 HC5 HT5 HV5 s0 s1 ⊢
  have hdp := dup_c e0 A c exR 12 w5 HC5.out hc HT5.out (by decide) (by decide) (by decide) (by unfold Rng; decide) (by decide)
  rw [chi12] at hdp
  have HDP := Aside0.mk hdp
  clear hdp
  go_wp2_with fail
  refine HDP.out.mono ?_
  rintro e w6 ⟨u6, rfl, hR, hb⟩
  obtain ⟨A6, c6, rfl, hc6, _⟩ := Kd.R_reads hR
  have hba := below_alloc (Below.refl w6.heap.size w6) (.cells #[.string ⟨#[46, 49, 50]⟩, .slice A6 exR.length c6] 24)
  have b7 := blk_new w6 (.cells #[.string ⟨#[46, 49, 50]⟩, .slice A6 exR.length c6] 24)
  have d0 : (w6.alloc (.cells #[.string ⟨#[46, 49, 50]⟩, .slice A6 exR.length c6] 24)).cell? ⟨w6.heap.size, 0, none⟩ = some (.string ⟨#[46, 49, 50]⟩) := (blk_cell b7 0).trans rfl
  have hbb := hb.trans (hba.mono hb.size)
  have HB7 := Aside0.mk (below_then HB5.out HB5.out.size hbb)
  have HV7 := Aside0.mk (Kd.C_below HV5.out hbb)
  clear hb hR hba hbb HB5 HC5 HT5 HV5 s0 s1 b7 HDP
  go_upto_region 5 with fail
  generalize w6.alloc (.cells #[.string ⟨#[46, 49, 50]⟩, .slice A6 exR.length c6] 24) = w7 at HB7 HV7 d0 ⊢
  generalize w6.heap.size = bd at d0 ⊢
  obtain ⟨aV, B0, cB0, hAV, k0, k1, hcB0, HCB0⟩ := at_T24 HV7.out (0 : Int) (by decide) (by decide)
  obtain ⟨aV', B1, cB1, hAV', m0, m1, hcB1, HCB1⟩ := at_T24 HV7.out (1 : Int) (by decide) (by decide)
  obtain rfl : aV = aV' := by rw [hAV] at hAV'; exact Option.some.inj hAV'
  subst hAV
  replace k0 : w7.cell? (aV.add 0) = some (.string ⟨#[46, 48, 58, 48]⟩) := k0
  replace k1 : w7.cell? ⟨(aV.add 0).block, (aV.add 0).off + 1, none⟩ = some (.slice B0 1 cB0) := k1
  replace m0 : w7.cell? (aV.add 2) = some (.string ⟨#[46, 48, 58, 49]⟩) := m0
  replace m1 : w7.cell? ⟨(aV.add 2).block, (aV.add 2).off + 1, none⟩ = some (.slice B1 2 cB1) := m1
  rw [Addr.add_zero'] at k0 k1
  replace m0 : w7.cell? ⟨aV.block, aV.off + 2, none⟩ = some (.string ⟨#[46, 48, 58, 49]⟩) := m0
  replace m1 : w7.cell? ⟨aV.block, aV.off + 2 + 1, none⟩ = some (.slice B1 2 cB1) := by
    have := m1
    simpa [Addr.add] using this
  replace hcB0 : 1 ≤ cB0 := hcB0
  replace hcB1 : 2 ≤ cB1 := hcB1
  have hb8 := below_alloc (Below.refl w7.heap.size w7) (.cells #[.int .i64 1] 3)
  have HSM1 := Aside0.mk (same_c ⟨#[46, 48, 58, 48]⟩ B0 cB0 [1] (some ⟨w7.heap.size, 0, none⟩) 1 _ (Kd.C_below HCB0 hb8) hcB0 (ints_C (l := [1]) (blk_new w7 _) (by decide)) (Nat.le_refl _) (by kernel_rfl))
  have HC1 := Aside0.mk (Kd.C_below HCB1 hb8)
  have HB8 := Aside0.mk (below_then HB7.out HB7.out.size hb8)
  have n0 := pw_cell_below hb8 m0
  have n1 := pw_cell_below hb8 m1
  clear hAV' HCB0 HCB1 hb8 HV7 HB7 m0 m1
  go_wp2_with fail
  refine HSM1.out.mono ?_
  rintro e w9 ⟨rfl, hb⟩
  have HB9 := Aside0.mk (below_then HB8.out HB8.out.size hb)
  have o0 := pw_cell_below hb n0
  have o1 := pw_cell_below hb n1
  have hb10 := below_alloc (Below.refl w9.heap.size w9) (.cells #[.int .i64 2, .int .i64 0] 3)
  have HSM2 := Aside0.mk (same_c ⟨#[46, 48, 58, 49]⟩ B1 cB1 [2, 0] (some ⟨w9.heap.size, 0, none⟩) 2 _ (Kd.C_below (Kd.C_below HC1.out hb) hb10) hcB1 (ints_C (l := [2, 0]) (blk_new w9 _) (by decide)) (Nat.le_refl _) (by kernel_rfl))
  have HB10 := Aside0.mk (below_then HB9.out HB9.out.size hb10)
  clear hb hb10 HSM1 HC1 HB8 HB9 n0 n1 k0 k1
  go_wp2_with fail
  refine HSM2.out.mono ?_
  rintro e w10 ⟨rfl, hb⟩
  have HB11 := Aside0.mk (below_then HB10.out HB10.out.size hb)
  clear hb HSM2 HB10
  go_wp2
  go_ret
  exact ⟨rfl, HB11.out⟩
end Go.Proofs.YtkifmhfgplhabaaDoor.HQ
