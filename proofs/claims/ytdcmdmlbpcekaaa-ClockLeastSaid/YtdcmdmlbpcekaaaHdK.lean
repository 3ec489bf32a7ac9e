/-
  CONTRACTS BY HAND (5): the chapter's examples of clocks (awake): they are as the chapter says; nothing that was there is changed.
-/
import Derived.Test.YtdcmdmlbpcekaaaHdE
import Derived.Test.YtdcmdmlbpcekaaaHdB
import Derived.Test.YtdcmdmlbpcekaaaQawakex1
namespace Go.Proofs.Ytdcmdmlbpcekaaa.HD
open Go.RowKit Go.Shelf Go.Proofs.YtdcmdmlbpcekaaaW.PrintWords Go.Proofs.YtdcmdmlbpcekaaaW.PrintLast Go.Proofs.YtdcmdmlbpcekaaaW.PrintMore Go.Proofs.Ytdcmdmlbpcekaaa.Qawake
set_option linter.unusedVariables false
set_option linter.unusedSimpArgs false

/-- a literal, as it is read -/
theorem C_lit (W : World) (e : Nat) (xs : List Int) (hm : xs.length ≤ 9223372036854775807) : Kd.C (Kd.int .i64) (W.alloc (.cells (xs.map (Value.int .i64)).toArray e)) (some ⟨W.heap.size, 0, none⟩) xs.length xs := by
  obtain ⟨A, c, hv, hr⟩ := own_reads (own_lit W W.heap.size e .i64 xs (Nat.le_refl _) hm)
  injection hv with h1 h2 h3
  subst h1
  exact Kd.C_of_reads (d := (0 : Int)) (h1 := fun _ => rfl) hr
theorem C_lit3 (W : World) (e : Nat) (a b c : Int) : Kd.C (Kd.int .i64) (W.alloc (.cells #[.int .i64 a, .int .i64 b, .int .i64 c] e)) (some ⟨W.heap.size, 0, none⟩) [a, b, c].length [a, b, c] := C_lit W e [a, b, c] (by simp)
theorem C_lit2 (W : World) (e : Nat) (a b : Int) : Kd.C (Kd.int .i64) (W.alloc (.cells #[.int .i64 a, .int .i64 b] e)) (some ⟨W.heap.size, 0, none⟩) [a, b].length [a, b] := C_lit W e [a, b] (by simp)
theorem C_lit1 (W : World) (e : Nat) (a : Int) : Kd.C (Kd.int .i64) (W.alloc (.cells #[.int .i64 a] e)) (some ⟨W.heap.size, 0, none⟩) [a].length [a] := C_lit W e [a] (by simp)

theorem lit2_ (W : World) (o : Obj) {o2 : Obj} {xs : List Int} (h : Kd.C (Kd.int .i64) ((W.alloc o).alloc o2) (some ⟨(W.alloc o).heap.size, 0, none⟩) xs.length xs) : Kd.C (Kd.int .i64) ((W.alloc o).alloc o2) (some ⟨W.heap.size + 1, 0, none⟩) xs.length xs := by rwa [World.size_alloc] at h
theorem st1_ {W W' : World} {o : Obj} (k : Below (W.alloc o).heap.size (W.alloc o) W') : Below W.heap.size W W' := below_then (below_alloc (Below.refl _ _) _) (by simp) k
theorem st2_ {W W' : World} {o o2 : Obj} (k : Below ((W.alloc o).alloc o2).heap.size ((W.alloc o).alloc o2) W') : Below W.heap.size W W' := below_then (below_alloc (below_alloc (Below.refl _ _) _) _) (by simp; omega) k
def dispatcherlaw18_awake.f : Option Bool := some true
set_option maxHeartbeats 4000000 in
set_option maxRecDepth 100000 in
theorem dispatcherlaw18_awake.calls (r : Bool) (w : World) (h : dispatcherlaw18_awake.f = some r) :
    Calls Try.prog 24 #[] w fun e w' => e = .returned (.bool r) ∧ Below w.heap.size w w' := by
  obtain rfl := Option.some.inj h
  clear h
  go_enter Try.func24, Try.ntmps24
  go_wp2_with fail
  refine (HD.clock_Clock_Merge.calls _ _ [1, 2, 0] _ _ [0, 3, 0] [1, 3, 0] 0 _ (Kd.C_alloc (C_lit3 w 3 1 2 0) _) (by simp) (lit2_ w _ (C_lit3 (w.alloc (.cells #[.int .i64 1, .int .i64 2, .int .i64 0] 3)) 3 0 3 0)) (by simp) (by kernel_rfl)).mono ?_
  rintro e w1 ⟨v1, rfl, hR, hb⟩
  have hs := st2_ hb
  obtain ⟨Am1, cm1, rfl, hc, hC⟩ := Kd.R_reads hR
  have HCm1 := Aside0.mk hC
  have Hcm1 := Aside0.mk hc
  clear hC hc hR
  have HB := Aside0.mk hs
  clear hb hs
  go_wp2_with fail
  refine (clock_Clock_Late.calls _ _ [0, 3, 0] _ _ [1, 2, 0] 0 true 0 _ (Kd.C_alloc (C_lit3 w1 3 0 3 0) _) (by simp) (lit2_ w1 _ (C_lit3 (w1.alloc (.cells #[.int .i64 0, .int .i64 3, .int .i64 0] 3)) 3 1 2 0)) (by simp) (by kernel_rfl)).mono ?_
  rintro e w2 ⟨rfl, hd⟩
  have hb := hd.below
  clear hd
  have hs := st2_ hb
  replace HCm1 := Aside0.mk (Kd.C_below HCm1.out hs)
  replace HB := Aside0.mk (below_then HB.out HB.out.size hs)
  clear hb hs
  go_wp2_with fail
  refine (clock_Clock_Late.calls _ _ [1, 3, 0] _ _ [1, 2, 0] 0 false 0 _ (Kd.C_alloc (C_lit3 w2 3 1 3 0) _) (by simp) (lit2_ w2 _ (C_lit3 (w2.alloc (.cells #[.int .i64 1, .int .i64 3, .int .i64 0] 3)) 3 1 2 0)) (by simp) (by kernel_rfl)).mono ?_
  rintro e w3 ⟨rfl, hd⟩
  have hb := hd.below
  clear hd
  have hs := st2_ hb
  replace HCm1 := Aside0.mk (Kd.C_below HCm1.out hs)
  replace HB := Aside0.mk (below_then HB.out HB.out.size hs)
  clear hb hs
  go_wp2_with fail
  refine (clock_Clock_Tick.calls _ _ [1, 2, 0] 2 [1, 2, 1] 0 _ (C_lit3 w3 3 1 2 0) (by simp) (by kernel_rfl)).mono ?_
  rintro e w4 ⟨v4, rfl, hR, hb⟩
  have hs := st1_ hb
  obtain ⟨Am4, cm4, rfl, hc, hC⟩ := Kd.R_reads hR
  have HCm4 := Aside0.mk hC
  have Hcm4 := Aside0.mk hc
  clear hC hc hR
  replace HCm1 := Aside0.mk (Kd.C_below HCm1.out hs)
  replace HB := Aside0.mk (below_then HB.out HB.out.size hs)
  clear hb hs
  go_wp2_with fail
  refine (dispatcherlaw18_of.calls _ _ [1, 2, 0] _ _ [1, 3, 0] 1 _ (Kd.C_alloc (C_lit3 w4 3 1 2 0) _) (by simp) (lit2_ w4 _ (C_lit3 (w4.alloc (.cells #[.int .i64 1, .int .i64 2, .int .i64 0] 3)) 3 1 3 0)) (by simp) (by kernel_rfl)).mono ?_
  rintro e w5 ⟨rfl, hb⟩
  have hs := st2_ hb
  replace HCm1 := Aside0.mk (Kd.C_below HCm1.out hs)
  replace HCm4 := Aside0.mk (Kd.C_below HCm4.out hs)
  replace HB := Aside0.mk (below_then HB.out HB.out.size hs)
  clear hb hs
  go_wp2_with fail
  refine (dispatcherlaw18_of.calls _ _ [1, 2, 0] _ _ [0, 3, 0] 3 _ (Kd.C_alloc (C_lit3 w5 3 1 2 0) _) (by simp) (lit2_ w5 _ (C_lit3 (w5.alloc (.cells #[.int .i64 1, .int .i64 2, .int .i64 0] 3)) 3 0 3 0)) (by simp) (by kernel_rfl)).mono ?_
  rintro e w6 ⟨rfl, hb⟩
  have hs := st2_ hb
  replace HCm1 := Aside0.mk (Kd.C_below HCm1.out hs)
  replace HCm4 := Aside0.mk (Kd.C_below HCm4.out hs)
  replace HB := Aside0.mk (below_then HB.out HB.out.size hs)
  clear hb hs
  go_wp2_with fail
  refine (dispatcherlaw18_of.calls _ _ [1] _ _ [1, 2] 9 _ (Kd.C_alloc (C_lit1 w6 3 1) _) (by simp) (lit2_ w6 _ (C_lit2 (w6.alloc (.cells #[.int .i64 1] 3)) 3 1 2)) (by simp) (by kernel_rfl)).mono ?_
  rintro e w7 ⟨rfl, hb⟩
  have hs := st2_ hb
  replace HCm1 := Aside0.mk (Kd.C_below HCm1.out hs)
  replace HCm4 := Aside0.mk (Kd.C_below HCm4.out hs)
  replace HB := Aside0.mk (below_then HB.out HB.out.size hs)
  clear hb hs
  go_wp2_with fail
  refine (dispatcherref11_Ints.calls 20 _ _ [1, 3, 0] _ _ [1, 3, 0] true _ (Kd.C_alloc HCm1.out _) Hcm1.out (C_lit3 w7 3 1 3 0) (by simp) (by kernel_rfl)).mono ?_
  rintro e w8 ⟨rfl, hd⟩
  have hb := hd.below
  clear hd
  have hs := st1_ hb
  replace HCm1 := Aside0.mk (Kd.C_below HCm1.out hs)
  replace HCm4 := Aside0.mk (Kd.C_below HCm4.out hs)
  replace HB := Aside0.mk (below_then HB.out HB.out.size hs)
  clear hb hs
  go_wp2_with fail
  refine (dispatcherref11_Ints.calls 20 _ _ [1, 2, 1] _ _ [1, 2, 1] true _ (Kd.C_alloc HCm4.out _) Hcm4.out (C_lit3 w8 3 1 2 1) (by simp) (by kernel_rfl)).mono ?_
  rintro e w9 ⟨rfl, hd⟩
  have hb := hd.below
  clear hd
  have hs := st1_ hb
  replace HCm1 := Aside0.mk (Kd.C_below HCm1.out hs)
  replace HCm4 := Aside0.mk (Kd.C_below HCm4.out hs)
  replace HB := Aside0.mk (below_then HB.out HB.out.size hs)
  clear hb hs
  go_wp2_with fail
  refine (clock_Clock_Sum.calls 20 _ _ [1, 2, 0] 3 _ (C_lit3 w9 3 1 2 0) (by simp) (by kernel_rfl)).mono ?_
  rintro e w10 ⟨rfl, hd⟩
  have hb := hd.below
  clear hd
  have hs := st1_ hb
  replace HCm1 := Aside0.mk (Kd.C_below HCm1.out hs)
  replace HCm4 := Aside0.mk (Kd.C_below HCm4.out hs)
  replace HB := Aside0.mk (below_then HB.out HB.out.size hs)
  clear hb hs
  go_wp2
  go_ret
  exact ⟨by rfl, HB.out⟩
end Go.Proofs.Ytdcmdmlbpcekaaa.HD
