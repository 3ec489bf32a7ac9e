/-
  MERGED (by wip/merge.py) of OaA OaB.
-/
import Derived.Test.YtnblmjkaieibhaaOfC
import Derived.Test.YtnblmjkaieibhaaOlB
import Derived.Test.YtnblmjkaieibhaaOlD
-- The chapter's example (orders): what the plain functions answer there. No program is walked here.
namespace Go.Proofs.Ytnblmjkaieibhaa.HO
open Go.Proofs.Ytnblmjkaieibhaa.HU Go.RowKit Go.Proofs.Ytnblmjkaieibhaa.HK Go.Proofs.Ytnblmjkaieibhaa.HP Go.Proofs.YtnblmjkaieibhaaW.PrintWords Go.Proofs.YtnblmjkaieibhaaW.PrintLast Go.Proofs.YtnblmjkaieibhaaW.PrintMore
set_option linter.unusedVariables false
def lA : List Ev_ := [⟨0, []⟩, ⟨1, []⟩, ⟨1, [0]⟩]
def lB : List Ev_ := [⟨0, [0]⟩]
def kA : List Kn := [⟨[1, 0], 1, []⟩, ⟨[0, 1], 1, []⟩, ⟨[1, 2], 2, [0, 1]⟩]
theorem hisA : hisF 2 lA = some kA := by kernel_rfl
theorem hisB : hisF 2 lB = none := by decide
theorem aheadA1 : ahB kA 0 1 = false := by decide
theorem aheadA2 : ahB kA 1 0 = false := by decide
theorem aheadA3 : ahB kA 0 2 = true := by decide
theorem aheadA4 : ahB kA 1 2 = true := by decide
theorem firstA : firstB kA [1] = [1, 0, 2] := by decide
theorem pastA : pastL kA 2 kA.length = [0, 1] := by decide
theorem isA : isB kA [0, 2, 1] = false := by decide
theorem behA : BehOk kA := by
  intro q h0 h1
  have h1 : q < 3 := h1
  obtain rfl | rfl | rfl : q = 0 ∨ q = 1 ∨ q = 2 := by omega
  all_goals decide
theorem lA_small : lA.length ≤ 2000 → ∀ e ∈ lA, e.f1.length ≤ 1000 := by decide
theorem lB_small : lB.length ≤ 2000 → ∀ e ∈ lB, e.f1.length ≤ 1000 := by decide
end Go.Proofs.Ytnblmjkaieibhaa.HO

-- CONTRACTS BY HAND (orders, 15): awake: the chapter's example.
namespace Go.Proofs.Ytnblmjkaieibhaa.HO
open Go.Proofs.Ytnblmjkaieibhaa.HU Go.RowKit Go.Proofs.Ytnblmjkaieibhaa.HK Go.Proofs.Ytnblmjkaieibhaa.HP Go.Proofs.YtnblmjkaieibhaaW.PrintWords Go.Proofs.YtnblmjkaieibhaaW.PrintLast Go.Proofs.YtnblmjkaieibhaaW.PrintMore
set_option linter.unusedVariables false
set_option linter.unusedSimpArgs false
theorem add0 (b k : Nat) : (⟨b, 0, none⟩ : Addr).add k = ⟨b, k, none⟩ := by
  simp [Addr.add]
  omega
theorem below_lit {w w2 : World} {o : Obj} (hb : Below (w.alloc o).heap.size (w.alloc o) w2) : Below w.heap.size w w2 := below_then (below_alloc (Below.refl _ _) o) (by simp) hb
theorem C_ints {w : World} {b t : Nat} {cells : Array Value} {xs : List Int} (hb : w.heap[b]? = some (.cells cells t (0, 0))) (he : cells = (xs.map (Value.int .i64)).toArray) (hl : xs.length ≤ 1000) : Kd.C (Kd.int .i64) w (some ⟨b, 0, none⟩) xs.length xs :=
  ⟨rfl, by omega, fun _ => ⟨_, rfl, fun j p hj => ⟨[.int .i64 p], rfl, rfl, fun i u hu => by
    match i, hu with
    | 0, hu =>
      obtain rfl : Value.int .i64 p = u := by simpa using hu
      show w.cell? ((⟨b, 0, none⟩ : Addr).add (j * 1 + 0)) = _
      rw [add0, blk_cell hb, he]
      simp [hj]⟩⟩⟩
theorem C_nil0 (w : World) : Kd.C (Kd.int .i64) w none ([] : List Int).length [] := ⟨rfl, by simp, fun h => absurd h (by simp)⟩
theorem C_evA {w : World} {b b0 : Nat} (hb : w.heap[b]? = some (.cells #[.int .i64 0, .slice none 0 0, .int .i64 1, .slice none 0 0, .int .i64 1, .slice (some ⟨b0, 0, none⟩) 1 1] 56 (0, 0))) (h0 : Kd.C (Kd.int .i64) w (some ⟨b0, 0, none⟩) 1 [0]) : Kd.C k56 w (some ⟨b, 0, none⟩) lA.length lA :=
  ⟨rfl, by decide, fun _ => ⟨_, rfl, fun j p hj => by
    match j, hj with
    | 0, hj =>
      obtain rfl : (⟨0, []⟩ : Ev_) = p := by simpa [lA] using hj
      refine ⟨_, rfl, k56_mk w ⟨0, []⟩ (A1 := none) (c1 := 0) (by simp) (C_nil0 w), fun i u hu => ?_⟩
      show w.cell? ((⟨b, 0, none⟩ : Addr).add (0 * 2 + i)) = _
      rw [add0, blk_cell hb]
      match i, hu with
      | 0, hu => exact hu
      | 1, hu => exact hu
    | 1, hj =>
      obtain rfl : (⟨1, []⟩ : Ev_) = p := by simpa [lA] using hj
      refine ⟨_, rfl, k56_mk w ⟨1, []⟩ (A1 := none) (c1 := 0) (by simp) (C_nil0 w), fun i u hu => ?_⟩
      show w.cell? ((⟨b, 0, none⟩ : Addr).add (1 * 2 + i)) = _
      rw [add0, blk_cell hb]
      match i, hu with
      | 0, hu => exact hu
      | 1, hu => exact hu
    | 2, hj =>
      obtain rfl : (⟨1, [0]⟩ : Ev_) = p := by simpa [lA] using hj
      refine ⟨_, rfl, k56_mk w ⟨1, [0]⟩ (A1 := some ⟨b0, 0, none⟩) (c1 := 1) (by simp) h0, fun i u hu => ?_⟩
      show w.cell? ((⟨b, 0, none⟩ : Addr).add (2 * 2 + i)) = _
      rw [add0, blk_cell hb]
      match i, hu with
      | 0, hu => exact hu
      | 1, hu => exact hu
    | j + 3, hj => simp [lA] at hj⟩⟩
theorem C_evB {w : World} {b b0 : Nat} (hb : w.heap[b]? = some (.cells #[.int .i64 0, .slice (some ⟨b0, 0, none⟩) 1 1] 56 (0, 0))) (h0 : Kd.C (Kd.int .i64) w (some ⟨b0, 0, none⟩) 1 [0]) : Kd.C k56 w (some ⟨b, 0, none⟩) lB.length lB :=
  ⟨rfl, by decide, fun _ => ⟨_, rfl, fun j p hj => by
    match j, hj with
    | 0, hj =>
      obtain rfl : (⟨0, [0]⟩ : Ev_) = p := by simpa [lB] using hj
      refine ⟨_, rfl, k56_mk w ⟨0, [0]⟩ (A1 := some ⟨b0, 0, none⟩) (c1 := 1) (by simp) h0, fun i u hu => ?_⟩
      show w.cell? ((⟨b, 0, none⟩ : Addr).add (0 * 2 + i)) = _
      rw [add0, blk_cell hb]
      match i, hu with
      | 0, hu => exact hu
      | 1, hu => exact hu
    | j + 1, hj => simp [lB] at hj⟩⟩
set_option maxRecDepth 100000 in
set_option maxHeartbeats 16000000 in
theorem awake_c (w : World) : Calls Try.prog 23 #[] w fun e w' => e = .returned (.bool true) ∧ Below w.heap.size w w' := by
  go_enter Try.func23, Try.ntmps23
  go_wp2_with fail
  have b1 := blk_new w (.cells #[.int .i64 0] 3)
  have b2 := blk_second w (.cells #[.int .i64 0] 3) (.cells #[.int .i64 0, .slice none 0 0, .int .i64 1, .slice none 0 0, .int .i64 1, .slice (some ⟨w.heap.size, 0, none⟩) 1 1] 56)
  have HB1 := Aside0.mk (below_alloc2 w (.cells #[.int .i64 0] 3) (.cells #[.int .i64 0, .slice none 0 0, .int .i64 1, .slice none 0 0, .int .i64 1, .slice (some ⟨w.heap.size, 0, none⟩) 1 1] 56))
  have c1 := C_evA b2 (C_ints (blk_alloc b1 _) rfl (by simp) : Kd.C (Kd.int .i64) _ _ ([0] : List Int).length [0])
  have HO := Aside0.mk (of_calls 2 _ 3 lA _ c1 (by decide) lA_small)
  clear b1 b2 c1
  generalize (w.alloc (.cells #[.int .i64 0] 3)).alloc (.cells #[.int .i64 0, .slice none 0 0, .int .i64 1, .slice none 0 0, .int .i64 1, .slice (some ⟨w.heap.size, 0, none⟩) 1 1] 56) = w1 at HB1 HO ⊢
  refine HO.out.mono ?_
  rintro e w2 ⟨hp, hb⟩
  rw [hisA] at hp
  obtain ⟨g, rfl, hro⟩ := hp
  have HR2 := Aside0.mk hro
  have HB2 := Aside0.mk (below_then HB1.out HB1.out.size hb)
  clear hb hro HO HB1
  go_wp2_with fail
  have b1 := blk_new w2 (.cells #[.int .i64 0] 3)
  have b2 := blk_second w2 (.cells #[.int .i64 0] 3) (.cells #[.int .i64 0, .slice (some ⟨w2.heap.size, 0, none⟩) 1 1] 56)
  have HB3 := Aside0.mk (below_alloc2 w2 (.cells #[.int .i64 0] 3) (.cells #[.int .i64 0, .slice (some ⟨w2.heap.size, 0, none⟩) 1 1] 56))
  have c1 := C_evB b2 (C_ints (blk_alloc b1 _) rfl (by simp) : Kd.C (Kd.int .i64) _ _ ([0] : List Int).length [0])
  have HO := Aside0.mk (of_calls 2 _ 1 lB _ c1 (by decide) lB_small)
  have HR3 := Aside0.mk (HR2.out.below HB3.out)
  clear b1 b2 c1
  generalize (w2.alloc (.cells #[.int .i64 0] 3)).alloc (.cells #[.int .i64 0, .slice (some ⟨w2.heap.size, 0, none⟩) 1 1] 56) = w3 at HB3 HO HR3 ⊢
  refine HO.out.mono ?_
  rintro e w4 ⟨hp, hb⟩
  rw [hisB] at hp
  obtain rfl := hp
  have HB4 := Aside0.mk (below_then HB2.out HB2.out.size (below_then HB3.out HB3.out.size hb))
  have HR4 := Aside0.mk (HR3.out.below hb)
  clear hb HO HB2 HB3 HR3 HR2
  go_wp2_with fail
  refine (clock_ok g kA 0 w4 HR4.out (by decide) (by decide)).mono ?_
  rintro e w5 ⟨va, rfl, hR, hb⟩
  have HA5 := Aside0.mk hR
  have HB5 := Aside0.mk (below_then HB4.out HB4.out.size hb)
  have HR5 := Aside0.mk (HR4.out.below hb)
  obtain ⟨Aa, ca, rfl, hca, _⟩ := Kd.R_reads hR
  clear hb hR HB4 HR4
  go_wp2_with fail
  refine (clock_ok g kA 1 w5 HR5.out (by decide) (by decide)).mono ?_
  rintro e w6 ⟨vb, rfl, hR, hb⟩
  have HA6 := Aside0.mk (Kd.R_below HA5.out hb)
  have HC6 := Aside0.mk hR
  have HB6 := Aside0.mk (below_then HB5.out HB5.out.size hb)
  have HR6 := Aside0.mk (HR5.out.below hb)
  obtain ⟨Ab, cb, rfl, hcb, _⟩ := Kd.R_reads hR
  clear hb hR HB5 HR5 HA5
  go_wp2_with fail
  refine (clock_ok g kA 2 w6 HR6.out (by decide) (by decide)).mono ?_
  rintro e w7 ⟨vc, rfl, hR, hb⟩
  have HA7 := Aside0.mk (Kd.R_below HA6.out hb)
  have HC7 := Aside0.mk (Kd.R_below HC6.out hb)
  have HD7 := Aside0.mk hR
  have HB7 := Aside0.mk (below_then HB6.out HB6.out.size hb)
  have HR7 := Aside0.mk (HR6.out.below hb)
  obtain ⟨Ac, cc, rfl, hcc, _⟩ := Kd.R_reads hR
  clear hb hR HB6 HR6 HA6 HC6
  go_wp2_with fail
  refine (depth_ok g kA 2 w7 HR7.out (by decide)).mono ?_
  rintro e w8 ⟨rfl, rfl⟩
  rw [show (kat kA 2).f1 = 2 from by decide]
  go_wp2_with fail
  -- the clocks
  refine (ints_c Aa ca (kat kA 0).f0 (some ⟨w7.heap.size, 0, none⟩) 2 [1, 0] _ (Kd.C_below (Kd.R_reads' HA7.out).2.2 (below_alloc (Below.refl _ _) _)) hca (C_ints (blk_new w7 _) rfl (by simp)) (by decide) (by decide)).mono ?_
  rintro e w9 ⟨rfl, hb0⟩
  have hb := below_lit hb0
  rw [decide_eq_true (show (kat kA 0).f0 = [1, 0] by decide)]
  have HB9 := Aside0.mk (below_then HB7.out HB7.out.size hb)
  have HR9 := Aside0.mk (HR7.out.below hb)
  have HC9 := Aside0.mk (Kd.R_below HC7.out hb)
  have HD9 := Aside0.mk (Kd.R_below HD7.out hb)
  clear hb hb0 HA7 HB7 HR7 HC7 HD7
  go_wp2_with fail
  refine (ints_c Ab cb (kat kA 1).f0 (some ⟨w9.heap.size, 0, none⟩) 2 [0, 1] _ (Kd.C_below (Kd.R_reads' HC9.out).2.2 (below_alloc (Below.refl _ _) _)) hcb (C_ints (blk_new w9 _) rfl (by simp)) (by decide) (by decide)).mono ?_
  rintro e w10 ⟨rfl, hb0⟩
  have hb := below_lit hb0
  rw [decide_eq_true (show (kat kA 1).f0 = [0, 1] by decide)]
  have HB10 := Aside0.mk (below_then HB9.out HB9.out.size hb)
  have HR10 := Aside0.mk (HR9.out.below hb)
  have HD10 := Aside0.mk (Kd.R_below HD9.out hb)
  clear hb hb0 HC9 HB9 HR9 HD9
  go_wp2_with fail
  refine (ints_c Ac cc (kat kA 2).f0 (some ⟨w10.heap.size, 0, none⟩) 2 [1, 2] _ (Kd.C_below (Kd.R_reads' HD10.out).2.2 (below_alloc (Below.refl _ _) _)) hcc (C_ints (blk_new w10 _) rfl (by simp)) (by decide) (by decide)).mono ?_
  rintro e w11 ⟨rfl, hb0⟩
  have hb := below_lit hb0
  rw [decide_eq_true (show (kat kA 2).f0 = [1, 2] by decide)]
  have HB11 := Aside0.mk (below_then HB10.out HB10.out.size hb)
  have HR11 := Aside0.mk (HR10.out.below hb)
  clear hb hb0 HD10 HB10 HR10 
  go_wp2_with fail
  refine (ahead_c g kA 0 1 w11 HR11.out).mono ?_
  rintro e w12 ⟨rfl, hb⟩
  rw [aheadA1]
  have HB12 := Aside0.mk (below_then HB11.out HB11.out.size hb)
  have HR12 := Aside0.mk (HR11.out.below hb)
  clear hb HB11 HR11 
  go_wp2_with fail
  refine (ahead_c g kA 1 0 w12 HR12.out).mono ?_
  rintro e w13 ⟨rfl, hb⟩
  rw [aheadA2]
  have HB13 := Aside0.mk (below_then HB12.out HB12.out.size hb)
  have HR13 := Aside0.mk (HR12.out.below hb)
  clear hb HB12 HR12 
  go_wp2_with fail
  refine (ahead_c g kA 0 2 w13 HR13.out).mono ?_
  rintro e w14 ⟨rfl, hb⟩
  rw [aheadA3]
  have HB14 := Aside0.mk (below_then HB13.out HB13.out.size hb)
  have HR14 := Aside0.mk (HR13.out.below hb)
  clear hb HB13 HR13 
  go_wp2_with fail
  refine (ahead_c g kA 1 2 w14 HR14.out).mono ?_
  rintro e w15 ⟨rfl, hb⟩
  rw [aheadA4]
  have HB15 := Aside0.mk (below_then HB14.out HB14.out.size hb)
  have HR15 := Aside0.mk (HR14.out.below hb)
  clear hb HB14 HR14 
  go_wp2_with fail
  refine (first_c g kA (some ⟨w15.heap.size, 0, none⟩) 1 [1] _ (HR15.out.below (below_alloc (Below.refl _ _) _)) (C_ints (blk_new w15 _) rfl (by simp)) (by decide) behA (by decide) (by decide)).mono ?_
  rintro e w16 ⟨⟨vf, rfl, hR0⟩, hb0⟩
  have hb := below_lit hb0
  rw [firstA] at hR0
  obtain ⟨Af, cf, rfl, hcf, _⟩ := Kd.R_reads hR0
  have HF16 := Aside0.mk hR0
  clear hR0 hb0
  have HB16 := Aside0.mk (below_then HB15.out HB15.out.size hb)
  have HR16 := Aside0.mk (HR15.out.below hb)
  clear hb HB15 HR15 
  go_wp2_with fail
  refine (ints_c Af cf [1, 0, 2] (some ⟨w16.heap.size, 0, none⟩) 3 [1, 0, 2] _ (Kd.C_below (Kd.R_reads' HF16.out).2.2 (below_alloc (Below.refl _ _) _)) hcf (C_ints (blk_new w16 _) rfl (by simp)) (by decide) (by decide)).mono ?_
  rintro e w17 ⟨rfl, hb0⟩
  have hb := below_lit hb0
  rw [decide_eq_true (rfl : ([1, 0, 2] : List Int) = [1, 0, 2])]
  clear hb0 HF16
  have HB17 := Aside0.mk (below_then HB16.out HB16.out.size hb)
  have HR17 := Aside0.mk (HR16.out.below hb)
  clear hb HB16 HR16 
  go_wp2_with fail
  refine (past_c g kA 2 w17 HR17.out (by decide)).mono ?_
  rintro e w18 ⟨vp, rfl, hR0, hb⟩
  rw [pastA] at hR0
  obtain ⟨Ap, cp, rfl, hcp, _⟩ := Kd.R_reads hR0
  have HP18 := Aside0.mk hR0
  clear hR0
  have HB18 := Aside0.mk (below_then HB17.out HB17.out.size hb)
  have HR18 := Aside0.mk (HR17.out.below hb)
  clear hb HB17 HR17 
  go_wp2_with fail
  refine (ints_c Ap cp [0, 1] (some ⟨w18.heap.size, 0, none⟩) 2 [0, 1] _ (Kd.C_below (Kd.R_reads' HP18.out).2.2 (below_alloc (Below.refl _ _) _)) hcp (C_ints (blk_new w18 _) rfl (by simp)) (by decide) (by decide)).mono ?_
  rintro e w19 ⟨rfl, hb0⟩
  have hb := below_lit hb0
  rw [decide_eq_true (rfl : ([0, 1] : List Int) = [0, 1])]
  clear hb0 HP18
  have HB19 := Aside0.mk (below_then HB18.out HB18.out.size hb)
  have HR19 := Aside0.mk (HR18.out.below hb)
  clear hb HB18 HR18 
  go_wp2_with fail
  refine (is_c g kA (some ⟨w19.heap.size, 0, none⟩) 3 [0, 2, 1] _ (HR19.out.below (below_alloc (Below.refl _ _) _)) (C_ints (blk_new w19 _) rfl (by simp)) (by decide) behA (by decide)).mono ?_
  rintro e w20 ⟨rfl, hb0⟩
  rw [isA]
  have HB20 := Aside0.mk (below_then HB19.out HB19.out.size (below_lit hb0))
  clear hb0
  go_wp2
  go_ret
  exact ⟨rfl, HB20.out⟩
/-- which of so many a number stands for -/
def pk (a : Int) (L : Nat) : Nat := ((IntKind.u64.wrap a).tmod (L : Int)).toNat
theorem u64_nn (a : Int) : 0 ≤ IntKind.u64.wrap a := by
  have : IntKind.u64.wrap a = a % 18446744073709551616 := by simp [IntKind.wrap, IntKind.bits, IntKind.signed]
  rw [this]
  exact Int.emod_nonneg _ (by decide)
theorem pk_lt {L : Nat} (a : Int) (h : 0 < L) : pk a L < L := by
  unfold pk
  rw [Int.tmod_eq_emod_of_nonneg (u64_nn a)]
  have := Int.emod_lt_of_pos (IntKind.u64.wrap a) (show (0 : Int) < L by omega)
  have := Int.emod_nonneg (IntKind.u64.wrap a) (show (L : Int) ≠ 0 by omega)
  omega
theorem pk_eq {L : Nat} (a : Int) (h : 0 < L) (hL : L ≤ 2000) : wrap64 ((IntKind.u64.wrap a).tmod (L : Int)) = (pk a L : Int) := by
  have h1 := pk_lt a h
  have h2 : (IntKind.u64.wrap a).tmod (L : Int) = (pk a L : Int) := by
    unfold pk
    rw [Int.tmod_eq_emod_of_nonneg (u64_nn a)]
    have := Int.emod_nonneg (IntKind.u64.wrap a) (show (L : Int) ≠ 0 by omega)
    omega
  rw [h2]
  exact wrap64_of (by omega) (by omega)
end Go.Proofs.Ytnblmjkaieibhaa.HO
