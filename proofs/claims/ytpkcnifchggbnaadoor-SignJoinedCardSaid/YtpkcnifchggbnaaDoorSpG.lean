/-
  CONTRACTS BY HAND (sign, 25): the chapter's example.
-/
import Derived.Test.YtpkcnifchggbnaaDoorSpF
import Derived.Test.YtpkcnifchggbnaaDoorSgE
namespace Go.Proofs.YtpkcnifchggbnaaDoor.HI
open Go.RowKit Go.Proofs.YtpkcnifchggbnaaDoor.HD Go.Proofs.YtpkcnifchggbnaaDoor.HK Go.Proofs.YtpkcnifchggbnaaDoor.HU Go.Proofs.YtpkcnifchggbnaaDoorW.PrintWords Go.Proofs.YtpkcnifchggbnaaDoorW.PrintLast Go.Proofs.YtpkcnifchggbnaaDoorW.PrintMore
set_option linter.unusedVariables false
set_option linter.unusedSimpArgs false
def xA : Cho := ⟨0, 2, 1, 0, 0⟩
def xB : Cho := ⟨1, 0, 0, 0, -1⟩
theorem lit_C {w : World} (xs : List Cho) (hx : xs.length ≤ 10) : Kd.C k40 (w.alloc (.cells (flat xs ++ []).toArray 40)) (some ⟨w.heap.size, 0, none⟩) xs.length xs := by
  have hB : Blk (w.alloc (.cells (flat xs ++ []).toArray 40)) w.heap.size xs [] := blk_new w _
  have hR := R_of_block (base := 0) (c := xs.length) (ok := fun _ => True) hB (Nat.zero_le _) trivial (by simp only [maxLen]; omega) (by simp)
  exact (Kd.R_reads' hR).2.2
theorem sA : mayL [xA, xB] = true := by decide
theorem sT : bs (textB [xA, xB]) = ⟨#[48, 46, 50, 46, 48, 46, 49, 46, 48, 32, 49, 46, 48, 46, 45, 49, 46, 48, 46, 48]⟩ := by kernel_rfl
theorem sT0 : bs (textB []) = ⟨#[45]⟩ := by kernel_rfl
theorem nil_C (w : World) : Kd.C k40 w none 0 [] := (Kd.R_reads' (Kd.R_nil k40 40 w 0 (fun _ => True))).2.2
theorem sP : putL [xB] xA = [xA, xB] := by kernel_rfl
theorem sE : putE [xB] xA = 0 := by kernel_rfl
theorem sM : mayL [xB, xA] = false := by kernel_rfl
theorem sH : aheadB [xA] [xA, xB] = true := by kernel_rfl
theorem sG : agreeB [⟨0, 2, 0, 0, 0⟩] [xA, xB] = false := by kernel_rfl
theorem sS : Qsbase.dispatcherref20_SameChoices.f 9 [xA, xB] [xA, xB] = some true := by kernel_rfl
def w4 : ByteArray := ⟨#[48, 46, 50, 46, 48, 46, 49]⟩
theorem sN : (numL w4).length = 4 := by kernel_rfl
theorem sI : Lib.indexByte w4.data.toList 32 = -1 := by kernel_rfl
theorem sD : w4.toList ≠ [45] := by
  have h : (w4.toList == [45]) = false := by kernel_rfl
  intro e
  rw [e] at h
  cases h
theorem p4 (w : World) : Calls Tryd.prog 17 #[.string w4] w fun e w' => e = .returned (.tuple #[.slice none 0 0, .int .i64 240]) ∧ Below w.heap.size w w' :=
  parse_bad1 w4 w (by decide) sD sI (by rw [sN]; decide)
set_option maxHeartbeats 4000000 in
set_option maxRecDepth 100000 in
theorem awake_c (w : World) (ht : Tab w) : Calls Tryd.prog 8 #[] w fun e w' => e = .returned (.bool true) ∧ Below w.heap.size w w' := by
  have HT := Aside0.mk ht
  clear ht
  go_enter Tryd.func8, Tryd.ntmps8
  go_wp2_with fail
  have hA : ((w.alloc (cc xA)).alloc (cc xB)).heap[w.heap.size]? = some (cc xA) := ((below_alloc (Below.refl _ (w.alloc (cc xA))) _).block _ (by simp)).trans (blk_new w (cc xA))
  have hBk : ((w.alloc (cc xA)).alloc (cc xB)).heap[w.heap.size + 1]? = some (cc xB) := by
    have := blk_new (w.alloc (cc xA)) (cc xB)
    rwa [World.size_alloc] at this
  have hz2 : ((w.alloc (cc xA)).alloc (cc xB)).heap.size = w.heap.size + 1 + 1 := by simp
  rw [← hz2]
  have hb0 : Below w.heap.size w ((w.alloc (cc xA)).alloc (cc xB)) := below_alloc (below_alloc (Below.refl _ _) _) _
  show Calls Tryd.prog 15 #[.slice (some ⟨((w.alloc (cc xA)).alloc (cc xB)).heap.size, 0, none⟩) 2 2] (((w.alloc (cc xA)).alloc (cc xB)).alloc _) _
  generalize (w.alloc (cc xA)).alloc (cc xB) = w2 at hA hBk hb0 ⊢
  have HA := Aside0.mk hA
  have HBK := Aside0.mk hBk
  have HB0 := Aside0.mk hb0
  clear hA hBk hb0 hz2
  have HT2 := Aside0.mk (HT.out.after HB0.out)
  generalize w.heap.size + 1 = nb at HBK ⊢
  refine (text_ok (some ⟨w2.heap.size, 0, none⟩) 2 [xA, xB] (w2.alloc (.cells (flat [xA, xB] ++ []).toArray 40)) (lit_C _ (by decide)) (by decide) (by decide) sA (HT2.out.after (below_alloc (Below.refl _ _) _))).mono ?_
  rintro e w3 ⟨rfl, hb⟩
  rw [sT]
  have HB3 := Aside0.mk (below_then (below_alloc (Below.refl w2.heap.size w2) (.cells (flat [xA, xB] ++ []).toArray 40)) (by simp) hb)
  clear hb
  have HT3 := Aside0.mk (HT2.out.after HB3.out)
  have HA3 := Aside0.mk ((HB3.out.block _ (blk_lt HA.out)).trans HA.out)
  have HBK3 := Aside0.mk ((HB3.out.block _ (blk_lt HBK.out)).trans HBK.out)
  have HB30 := Aside0.mk (below_then HB0.out HB0.out.size HB3.out)
  clear HA HBK HB3 HB0 HT HT2
  go_wp2_with fail
  refine (text_ok none 0 [] w3 (nil_C w3) (by decide) (by decide) (by decide) HT3.out).mono ?_
  rintro e w4 ⟨rfl, hb⟩
  rw [sT0]
  have HA4 := Aside0.mk ((hb.block _ (blk_lt HA3.out)).trans HA3.out)
  have HBK4 := Aside0.mk ((hb.block _ (blk_lt HBK3.out)).trans HBK3.out)
  have HB40 := Aside0.mk (below_then HB30.out HB30.out.size hb)
  clear hb HA3 HBK3 HB30 HT3
  obtain ⟨a0, a1, a2, a3, a4⟩ := cells_c HA4.out
  obtain ⟨b0, b1, b2, b3, b4⟩ := cells_c HBK4.out
  simp only [xA, xB] at a0 a1 a2 a3 a4 b0 b1 b2 b3 b4
  have hgl := blk_lt HA4.out
  have hgl2 := blk_lt HBK4.out
  go_wp2_with fail
  show Calls Tryd.prog 19 #[.slice (some ⟨w4.heap.size, 0, none⟩) 1 1, cv xA] (w4.alloc (.cells (flat [xB] ++ []).toArray 40)) _
  refine (put_c (some ⟨w4.heap.size, 0, none⟩) 1 [xB] xA (w4.alloc (.cells (flat [xB] ++ []).toArray 40)) (lit_C _ (by decide)) (by decide) (by decide)).mono ?_
  rintro e w5 ⟨v, rfl, hR, hb⟩
  rw [sE]
  rw [sP] at hR
  obtain ⟨Al, cl, rfl, hcl, hCl⟩ := Kd.R_reads hR
  have hb := below_then (below_alloc (Below.refl w4.heap.size w4) (.cells (flat [xB] ++ []).toArray 40)) (by simp) hb
  have HC5 := Aside0.mk hCl
  have HA5 := Aside0.mk ((hb.block _ (blk_lt HA4.out)).trans HA4.out)
  have HBK5 := Aside0.mk ((hb.block _ (blk_lt HBK4.out)).trans HBK4.out)
  have HB50 := Aside0.mk (below_then HB40.out HB40.out.size hb)
  clear hb HA4 HBK4 HB40 hR hCl a0 a1 a2 a3 a4 b0 b1 b2 b3 b4 hgl hgl2
  have hcl : 2 ≤ cl := hcl
  go_wp2_with fail
  refine (p4 w5).mono ?_
  rintro e w6 ⟨rfl, hb⟩
  have HC6 := Aside0.mk (Kd.C_below HC5.out hb)
  have HA6 := Aside0.mk ((hb.block _ (blk_lt HA5.out)).trans HA5.out)
  have HBK6 := Aside0.mk ((hb.block _ (blk_lt HBK5.out)).trans HBK5.out)
  have HB60 := Aside0.mk (below_then HB50.out HB50.out.size hb)
  clear hb HA5 HBK5 HB50 HC5
  obtain ⟨a0, a1, a2, a3, a4⟩ := cells_c HA6.out
  obtain ⟨b0, b1, b2, b3, b4⟩ := cells_c HBK6.out
  simp only [xA, xB] at a0 a1 a2 a3 a4 b0 b1 b2 b3 b4
  have hgl := blk_lt HA6.out
  have hgl2 := blk_lt HBK6.out
  go_wp2_with fail
  refine (Qsbase.dispatcherref20_SameChoices.calls 9 Al cl [xA, xB] (some ⟨w6.heap.size, 0, none⟩) 2 [xA, xB] true (w6.alloc (.cells (flat [xA, xB] ++ []).toArray 40)) (Kd.C_alloc HC6.out _) hcl (lit_C _ (by decide)) (by decide) sS).mono ?_
  rintro e w7 ⟨rfl, hb⟩
  have hb := hb.below
  have hb := below_then (below_alloc (Below.refl w6.heap.size w6) (.cells (flat [xA, xB] ++ []).toArray 40)) (by simp) hb
  have HC7 := Aside0.mk (Kd.C_below HC6.out hb)
  have HA7 := Aside0.mk ((hb.block _ (blk_lt HA6.out)).trans HA6.out)
  have HBK7 := Aside0.mk ((hb.block _ (blk_lt HBK6.out)).trans HBK6.out)
  have HB70 := Aside0.mk (below_then HB60.out HB60.out.size hb)
  clear hb HA6 HBK6 HB60 HC6 a0 a1 a2 a3 a4 b0 b1 b2 b3 b4 hgl hgl2
  obtain ⟨a0, a1, a2, a3, a4⟩ := cells_c HA7.out
  obtain ⟨b0, b1, b2, b3, b4⟩ := cells_c HBK7.out
  simp only [xA, xB] at a0 a1 a2 a3 a4 b0 b1 b2 b3 b4
  have hgl := blk_lt HA7.out
  have hgl2 := blk_lt HBK7.out
  go_wp2_with fail
  refine (show Calls _ _ _ _ _ from by have h := may_c (some ⟨w7.heap.size, 0, none⟩) 2 [xB, xA] (w7.alloc (.cells (flat [xB, xA] ++ []).toArray 40)) (lit_C _ (by decide)) (by decide); rw [sM] at h; exact h).mono ?_
  rintro e w8 ⟨rfl, hb⟩
  have hb := below_then (below_alloc (Below.refl w7.heap.size w7) (.cells (flat [xB, xA] ++ []).toArray 40)) (by simp) hb
  have HC8 := Aside0.mk (Kd.C_below HC7.out hb)
  have HA8 := Aside0.mk ((hb.block _ (blk_lt HA7.out)).trans HA7.out)
  have HBK8 := Aside0.mk ((hb.block _ (blk_lt HBK7.out)).trans HBK7.out)
  have HB80 := Aside0.mk (below_then HB70.out HB70.out.size hb)
  clear hb HA7 HBK7 HB70 HC7 a0 a1 a2 a3 a4 b0 b1 b2 b3 b4 hgl hgl2
  obtain ⟨a0, a1, a2, a3, a4⟩ := cells_c HA8.out
  obtain ⟨b0, b1, b2, b3, b4⟩ := cells_c HBK8.out
  simp only [xA, xB] at a0 a1 a2 a3 a4 b0 b1 b2 b3 b4
  have hgl := blk_lt HA8.out
  have hgl2 := blk_lt HBK8.out
  go_wp2_with fail
  refine (sign_Ahead.calls (some ⟨w8.heap.size, 0, none⟩) 1 [xA] Al cl [xA, xB] true (w8.alloc (.cells (flat [xA] ++ []).toArray 40)) (lit_C _ (by decide)) (by decide) (Kd.C_alloc HC8.out _) hcl (congrArg some sH)).mono ?_
  rintro e w9 ⟨rfl, hb⟩
  have hb := below_then (below_alloc (Below.refl w8.heap.size w8) (.cells (flat [xA] ++ []).toArray 40)) (by simp) hb
  have HC9 := Aside0.mk (Kd.C_below HC8.out hb)
  have HA9 := Aside0.mk ((hb.block _ (blk_lt HA8.out)).trans HA8.out)
  have HBK9 := Aside0.mk ((hb.block _ (blk_lt HBK8.out)).trans HBK8.out)
  have HB90 := Aside0.mk (below_then HB80.out HB80.out.size hb)
  clear hb HA8 HBK8 HB80 HC8 a0 a1 a2 a3 a4 b0 b1 b2 b3 b4 hgl hgl2
  obtain ⟨a0, a1, a2, a3, a4⟩ := cells_c HA9.out
  obtain ⟨b0, b1, b2, b3, b4⟩ := cells_c HBK9.out
  simp only [xA, xB] at a0 a1 a2 a3 a4 b0 b1 b2 b3 b4
  have hgl := blk_lt HA9.out
  have hgl2 := blk_lt HBK9.out
  go_wp2_with fail
  refine (sign_Agree.calls (some ⟨w9.heap.size, 0, none⟩) 1 [⟨0, 2, 0, 0, 0⟩] Al cl [xA, xB] false (w9.alloc (.cells (flat [⟨0, 2, 0, 0, 0⟩] ++ []).toArray 40)) (lit_C _ (by decide)) (by decide) (Kd.C_alloc HC9.out _) hcl (congrArg some sG)).mono ?_
  rintro e w10 ⟨rfl, hb⟩
  have hb := below_then (below_alloc (Below.refl w9.heap.size w9) (.cells (flat [⟨0, 2, 0, 0, 0⟩] ++ []).toArray 40)) (by simp) hb
  have HC10 := Aside0.mk (Kd.C_below HC9.out hb)
  have HA10 := Aside0.mk ((hb.block _ (blk_lt HA9.out)).trans HA9.out)
  have HBK10 := Aside0.mk ((hb.block _ (blk_lt HBK9.out)).trans HBK9.out)
  have HB100 := Aside0.mk (below_then HB90.out HB90.out.size hb)
  clear hb HA9 HBK9 HB90 HC9 a0 a1 a2 a3 a4 b0 b1 b2 b3 b4 hgl hgl2
  go_wp2
  go_ret
  exact ⟨rfl, HB100.out⟩
end Go.Proofs.YtpkcnifchggbnaaDoor.HI
