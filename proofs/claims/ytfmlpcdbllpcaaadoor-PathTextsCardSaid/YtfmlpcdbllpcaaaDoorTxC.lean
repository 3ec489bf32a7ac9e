/-
  CONTRACTS BY HAND (texts, 3): the document's text of steps.
-/
import Derived.Test.YtfmlpcdbllpcaaaDoorTxB
import Derived.Deep.RegionHeld3
namespace Go.Proofs.YtfmlpcdbllpcaaaDoor.HX
open Go.Proofs.YtfmlpcdbllpcaaaDoor.HU Go.RowKit Go.Proofs.YtfmlpcdbllpcaaaDoor.HK Go.Proofs.YtfmlpcdbllpcaaaDoor.HP Go.Proofs.YtfmlpcdbllpcaaaDoorW.PrintWords Go.Proofs.YtfmlpcdbllpcaaaDoorW.PrintLast Go.Proofs.YtfmlpcdbllpcaaaDoorW.PrintMore
set_option linter.unusedVariables false
set_option linter.unusedSimpArgs false
theorem tail_snoc (sep : List UInt8) (r : List (List UInt8)) (y : List UInt8) : Lib.joinTail sep (r ++ [y]) = Lib.joinTail sep r ++ (sep ++ y) := by simp [Lib.joinTail]
theorem join_snoc (xs : List (List UInt8)) (y sep : List UInt8) (h : xs ≠ []) : Lib.join (xs ++ [y]) sep = Lib.join xs sep ++ sep ++ y := by
  match xs, h with
  | x :: r, _ =>
    rw [List.cons_append, Lib.join_cons, Lib.join_cons, tail_snoc, List.append_assoc, List.append_assoc]
def preB (l : List Sp) (k : Nat) : List UInt8 := Lib.join ((l.take k).map textB) [32]
theorem preB_0 (l : List Sp) : preB l 0 = [] := by simp [preB, Lib.join_nil]
theorem preB_1 {l : List Sp} {k : Nat} (h : k < l.length) (h0 : k = 0) : preB l (k + 1) = textB l[k] := by
  subst h0
  unfold preB
  rw [List.take_succ_eq_append_getElem h]
  simp [Lib.join_one]
theorem preB_s {l : List Sp} {k : Nat} (h : k < l.length) (h0 : ¬ k = 0) : preB l (k + 1) = preB l k ++ [32] ++ textB l[k] := by
  unfold preB
  rw [List.take_succ_eq_append_getElem h, List.map_append, List.map_cons, List.map_nil]
  refine join_snoc _ _ _ (fun hh => ?_)
  have := congrArg List.length hh
  rw [List.length_map, List.length_take] at this
  simp only [List.length_nil] at this
  omega
theorem preB_len {l : List Sp} (hx : ∀ x ∈ l, SpOk x) (hl : l.length ≤ 3000) (k : Nat) : (preB l k).length ≤ 400000 :=
  join_len (l.take k) (fun x h => hx x (List.mem_of_mem_take h)) (by rw [List.length_take]; omega)
theorem textB_off {s : Sp} (h : s.f0 = true) : bs [111, 102, 102, 46] ++ bs (Lib.itoa s.f1) ++ bs [46] ++ bs (Lib.itoa s.f2) = bs (textB s) := by
  unfold textB
  rw [if_pos h, bs_app, bs_app, bs_app]
  simp [dotsB, dotB]
theorem textB_on {s : Sp} (h : s.f0 = false) : bs (Lib.itoa s.f3.f0) ++ bs [46] ++ bs (Lib.itoa s.f3.f1) ++ bs [46] ++ bs (Lib.itoa s.f3.f4) ++ bs [46] ++ bs (Lib.itoa s.f3.f2) ++ bs [46] ++ bs (Lib.itoa s.f3.f3) = bs (textB s) := by
  unfold textB
  rw [if_neg (by simp [h])]
  simp only [bs_app]
  simp [dotsB, dotB]
theorem itoa_pos (n : Int) : 1 ≤ (Lib.itoa n).length := by
  unfold Lib.itoa
  split
  · simp
  · rw [Lib.decDigits_length]
    exact Lib.nDigits_pos _
theorem textB_pos (s : Sp) : 1 ≤ (textB s).length := by
  unfold textB
  split
  · simp
  · have := itoa_pos s.f3.f0
    simp [dotsB, dotB]
    omega
theorem num_c (n : Int) (hn : Rng n) : ∃ t : ByteArray, t = bs (Lib.itoa n) ∧ t.size ≤ 21 ∧ Aside0 (∀ w, Calls Tryd.prog 24 #[.int .i64 n] w fun e w' => e = .returned (.string t) ∧ Below w.heap.size w w') :=
  ⟨_, rfl, by rw [bs_size]; exact Lib.itoa_length_le n hn.1 hn.2, ⟨fun w => number_c n hn w⟩⟩
theorem bytes_assoc (a b c : ByteArray) : a ++ b ++ c = a ++ (b ++ c) := ByteArray.append_assoc
set_option maxRecDepth 100000 in
set_option maxHeartbeats 16000000 in
theorem reftext_c (A : Option Addr) (c : Nat) (l : List Sp) (w : World) (hr : Kd.C k51 w A l.length l) (hc : l.length ≤ c) (hl : l.length ≤ 3000) (hx : ∀ x ∈ l, SpOk x) :
    Calls Tryd.prog 8 #[.slice A l.length c] w fun e w' => e = .returned (.string (bs (textsB l))) ∧ Below w.heap.size w w' := by
  have HR := Aside0.mk hr
  have HX := Aside0.mk hx
  clear hr hx
  go_enter Tryd.func8, Tryd.ntmps8
  go_wp2_with fail
  go_loopw [3, 4] (fun v3 v4 wr => ∃ (k : Nat) (o : ByteArray), k ≤ l.length ∧ v4 = .int .i64 k ∧ v3 = .string o ∧ Aside0 (o = bs (preB l k)) ∧ Aside0 (Below w.heap.size w wr)) (fun _ v4 _ => l.length - (intOf v4).toNat)
  case atStart => exact ⟨0, _, by omega, rfl, rfl, ⟨by rw [preB_0]; rfl⟩, ⟨Below.refl _ _⟩⟩
  case round =>
    obtain ⟨k, o, hk, rfl, rfl, HO, HL⟩ := hrel
    obtain ⟨w2, rfl⟩ : ∃ w2 : World, w2 = wr := ⟨_, rfl⟩
    have ho : o.size ≤ 400000 := by rw [HO.out, bs_size]; exact preB_len HX.out hl k
    by_cases hkl : k < l.length
    · obtain ⟨ad, hA, g0, g1, g2, g3, g4, g5, g6, g7⟩ := at_T51 (Kd.C_below HR.out HL.out) (k : Int) (by omega) (by omega)
      rw [Int.toNat_natCast] at g0 g1 g2 g3 g4 g5 g6 g7
      subst hA
      have hrd : rd_T51 l (k : Int) = l[k] := by simp [rd_T51, hkl]
      rw [hrd] at g0 g1 g2 g3 g4 g5 g6 g7
      have HSP := Aside0.mk (HX.out _ (List.getElem_mem hkl))
      have HP1 := Aside0.mk (preB_1 hkl)
      have HPS := Aside0.mk (preB_s hkl)
      generalize l[k] = s at g0 g1 g2 g3 g4 g5 g6 g7 HSP HP1 HPS
      have hi64 : IntKind.i64.wrap ((k : Int) + 1) = (k : Int) + 1 := i64w (by omega) (by omega)
      have hki : (k : Int) < (l.length : Int) := by omega
      clear hrd
      by_cases hk0 : k = 0
      · have dk : decide (0 < k) = false := decide_eq_false (by omega)
        have HF : Aside0 (bs (preB l (k + 1)) = o ++ bs (textB s)) := ⟨by rw [HP1.out hk0, HO.out, hk0, preB_0, bs_app]; rfl⟩
        clear HP1 HPS HO hk0
        cases h0 : s.f0 with
        | true =>
          rw [h0] at g0
          have HE := Aside0.mk (textB_off h0)
          obtain ⟨t1, ht1, hz1, HN1⟩ := num_c s.f1 HSP.out.r1
          obtain ⟨t2, ht2, hz2, HN2⟩ := num_c s.f2 HSP.out.r2
          rw [← ht1, ← ht2] at HE
          have z1 : ¬ 9223372036854775807 < o.size + 4 := by omega
          have z2 : ¬ 9223372036854775807 < o.size + 4 + t1.size := by omega
          have z3 : ¬ 9223372036854775807 < o.size + 4 + t1.size + 1 := by omega
          have z4 : ¬ 9223372036854775807 < o.size + 4 + t1.size + 1 + t2.size := by omega
          clear hz1 ht1 hz2 ht2 h0 ho
          have g0a := cell_alloc1 g0 (.cells #[.int .i64 s.f3.f0, .int .i64 s.f3.f1, .int .i64 s.f3.f2, .int .i64 s.f3.f3, .int .i64 s.f3.f4] 49)
          go_upto_region 9 with fail
          have HL3 := Aside0.mk (below_then HL.out HL.out.size (below_alloc (Below.refl w2.heap.size w2) (.cells #[.int .i64 s.f3.f0, .int .i64 s.f3.f1, .int .i64 s.f3.f2, .int .i64 s.f3.f3, .int .i64 s.f3.f4] 49)))
          have x1 := cell_alloc1 g1 (.cells #[.int .i64 s.f3.f0, .int .i64 s.f3.f1, .int .i64 s.f3.f2, .int .i64 s.f3.f3, .int .i64 s.f3.f4] 49)
          have x2 := cell_alloc1 g2 (.cells #[.int .i64 s.f3.f0, .int .i64 s.f3.f1, .int .i64 s.f3.f2, .int .i64 s.f3.f3, .int .i64 s.f3.f4] 49)
          clear g0 g0a g1 g2 g3 g4 g5 g6 g7
          have E0 := Aside0.mk (And.intro hki hi64)
          generalize w2.alloc (.cells #[.int .i64 s.f3.f0, .int .i64 s.f3.f1, .int .i64 s.f3.f2, .int .i64 s.f3.f3, .int .i64 s.f3.f4] 49) = w3 at HL3 x1 x2 ⊢
          have HC1 := Aside0.mk (HN1.out w3.drew)
          go_region_held3 (fun W => W.cell? ⟨(ad.add (k * 8)).block, (ad.add (k * 8)).off + 1, none⟩ = some (.int .i64 s.f1) ∧ W.cell? ⟨(ad.add (k * 8)).block, (ad.add (k * 8)).off + 2, none⟩ = some (.int .i64 s.f2))
            (first | exact ⟨y1, y2⟩ | exact ⟨x1, x2⟩)
            (first
              | (go_at_call 24; with_reducible refine HC1.out.mono ?_; rintro e w4 ⟨rfl, hb⟩; have HB4 := Aside0.mk (below_of_drew hb); have y1 := pw_cell_below HB4.out x1; have y2 := pw_cell_below HB4.out x2; clear hb)
              | (go_at_call 24; with_reducible refine (HN2.out w4).mono ?_; rintro e w5 ⟨rfl, hb⟩; have HB5 := Aside0.mk (below_then HB4.out HB4.out.size hb); have y1 := pw_cell_below HB5.out x1; have y2 := pw_cell_below HB5.out x2; clear hb))
          all_goals (
            have HL9 := Aside0.mk (below_then HL3.out HL3.out.size HB5.out)
            clear x1 y1 x2 y2
            go_wp2
            refine ⟨⟨k + 1, _, by omega, by go_num, rfl, ⟨by rw [HF.out, ← HE.out]; simp only [bytes_assoc]; rfl⟩, HL9⟩, ?_⟩
            simp [intOf]
            omega)
        | false =>
          rw [h0] at g0
          have HE := Aside0.mk (textB_on h0)
          obtain ⟨t1, ht1, hz1, HN1⟩ := num_c s.f3.f0 HSP.out.c0
          obtain ⟨t2, ht2, hz2, HN2⟩ := num_c s.f3.f1 HSP.out.c1
          obtain ⟨t3, ht3, hz3, HN3⟩ := num_c s.f3.f4 HSP.out.c4
          obtain ⟨t4, ht4, hz4, HN4⟩ := num_c s.f3.f2 HSP.out.c2
          obtain ⟨t5, ht5, hz5, HN5⟩ := num_c s.f3.f3 HSP.out.c3
          rw [← ht1, ← ht2, ← ht3, ← ht4, ← ht5] at HE
          have z1 : ¬ 9223372036854775807 < o.size + t1.size := by omega
          have z2 : ¬ 9223372036854775807 < o.size + t1.size + 1 := by omega
          have z3 : ¬ 9223372036854775807 < o.size + t1.size + 1 + t2.size := by omega
          have z4 : ¬ 9223372036854775807 < o.size + t1.size + 1 + t2.size + 1 := by omega
          have z5 : ¬ 9223372036854775807 < o.size + t1.size + 1 + t2.size + 1 + t3.size := by omega
          have z6 : ¬ 9223372036854775807 < o.size + t1.size + 1 + t2.size + 1 + t3.size + 1 := by omega
          have z7 : ¬ 9223372036854775807 < o.size + t1.size + 1 + t2.size + 1 + t3.size + 1 + t4.size := by omega
          have z8 : ¬ 9223372036854775807 < o.size + t1.size + 1 + t2.size + 1 + t3.size + 1 + t4.size + 1 := by omega
          have z9 : ¬ 9223372036854775807 < o.size + t1.size + 1 + t2.size + 1 + t3.size + 1 + t4.size + 1 + t5.size := by omega
          clear hz1 ht1 hz2 ht2 hz3 ht3 hz4 ht4 hz5 ht5 h0 ho
          have g0a := cell_alloc1 g0 (.cells #[.int .i64 s.f3.f0, .int .i64 s.f3.f1, .int .i64 s.f3.f2, .int .i64 s.f3.f3, .int .i64 s.f3.f4] 49)
          go_upto_region 10 with fail
          have HL3 := Aside0.mk (below_then HL.out HL.out.size (below_alloc (Below.refl w2.heap.size w2) (.cells #[.int .i64 s.f3.f0, .int .i64 s.f3.f1, .int .i64 s.f3.f2, .int .i64 s.f3.f3, .int .i64 s.f3.f4] 49)))
          have b0 := blk_new w2 (.cells #[.int .i64 s.f3.f0, .int .i64 s.f3.f1, .int .i64 s.f3.f2, .int .i64 s.f3.f3, .int .i64 s.f3.f4] 49)
          have x1 : (w2.alloc (.cells #[.int .i64 s.f3.f0, .int .i64 s.f3.f1, .int .i64 s.f3.f2, .int .i64 s.f3.f3, .int .i64 s.f3.f4] 49)).cell? ⟨w2.heap.size, 0, none⟩ = some (.int .i64 s.f3.f0) := (blk_cell b0 0).trans rfl
          have x2 : (w2.alloc (.cells #[.int .i64 s.f3.f0, .int .i64 s.f3.f1, .int .i64 s.f3.f2, .int .i64 s.f3.f3, .int .i64 s.f3.f4] 49)).cell? ⟨w2.heap.size, 1, none⟩ = some (.int .i64 s.f3.f1) := (blk_cell b0 1).trans rfl
          have x3 : (w2.alloc (.cells #[.int .i64 s.f3.f0, .int .i64 s.f3.f1, .int .i64 s.f3.f2, .int .i64 s.f3.f3, .int .i64 s.f3.f4] 49)).cell? ⟨w2.heap.size, 2, none⟩ = some (.int .i64 s.f3.f2) := (blk_cell b0 2).trans rfl
          have x4 : (w2.alloc (.cells #[.int .i64 s.f3.f0, .int .i64 s.f3.f1, .int .i64 s.f3.f2, .int .i64 s.f3.f3, .int .i64 s.f3.f4] 49)).cell? ⟨w2.heap.size, 3, none⟩ = some (.int .i64 s.f3.f3) := (blk_cell b0 3).trans rfl
          have x5 : (w2.alloc (.cells #[.int .i64 s.f3.f0, .int .i64 s.f3.f1, .int .i64 s.f3.f2, .int .i64 s.f3.f3, .int .i64 s.f3.f4] 49)).cell? ⟨w2.heap.size, 4, none⟩ = some (.int .i64 s.f3.f4) := (blk_cell b0 4).trans rfl
          clear b0
          clear g0 g0a g1 g2 g3 g4 g5 g6 g7
          have E0 := Aside0.mk (And.intro hki hi64)
          generalize w2.alloc (.cells #[.int .i64 s.f3.f0, .int .i64 s.f3.f1, .int .i64 s.f3.f2, .int .i64 s.f3.f3, .int .i64 s.f3.f4] 49) = w3 at HL3 x1 x2 x3 x4 x5 ⊢
          have HC1 := Aside0.mk (HN1.out w3.drew)
          go_region_held3 (fun W => W.cell? ⟨w2.heap.size, 0, none⟩ = some (.int .i64 s.f3.f0) ∧ W.cell? ⟨w2.heap.size, 1, none⟩ = some (.int .i64 s.f3.f1) ∧ W.cell? ⟨w2.heap.size, 2, none⟩ = some (.int .i64 s.f3.f2) ∧ W.cell? ⟨w2.heap.size, 3, none⟩ = some (.int .i64 s.f3.f3) ∧ W.cell? ⟨w2.heap.size, 4, none⟩ = some (.int .i64 s.f3.f4))
            (first | exact ⟨y1, y2, y3, y4, y5⟩ | exact ⟨x1, x2, x3, x4, x5⟩)
            (first
              | (go_at_call 24; with_reducible refine HC1.out.mono ?_; rintro e w4 ⟨rfl, hb⟩; have HB4 := Aside0.mk (below_of_drew hb); have y1 := pw_cell_below HB4.out x1; have y2 := pw_cell_below HB4.out x2; have y3 := pw_cell_below HB4.out x3; have y4 := pw_cell_below HB4.out x4; have y5 := pw_cell_below HB4.out x5; clear hb)
              | (go_at_call 24; with_reducible refine (HN2.out w4).mono ?_; rintro e w5 ⟨rfl, hb⟩; have HB5 := Aside0.mk (below_then HB4.out HB4.out.size hb); have y1 := pw_cell_below HB5.out x1; have y2 := pw_cell_below HB5.out x2; have y3 := pw_cell_below HB5.out x3; have y4 := pw_cell_below HB5.out x4; have y5 := pw_cell_below HB5.out x5; clear hb)
              | (go_at_call 24; with_reducible refine (HN3.out w5).mono ?_; rintro e w6 ⟨rfl, hb⟩; have HB6 := Aside0.mk (below_then HB5.out HB5.out.size hb); have y1 := pw_cell_below HB6.out x1; have y2 := pw_cell_below HB6.out x2; have y3 := pw_cell_below HB6.out x3; have y4 := pw_cell_below HB6.out x4; have y5 := pw_cell_below HB6.out x5; clear hb)
              | (go_at_call 24; with_reducible refine (HN4.out w6).mono ?_; rintro e w7 ⟨rfl, hb⟩; have HB7 := Aside0.mk (below_then HB6.out HB6.out.size hb); have y1 := pw_cell_below HB7.out x1; have y2 := pw_cell_below HB7.out x2; have y3 := pw_cell_below HB7.out x3; have y4 := pw_cell_below HB7.out x4; have y5 := pw_cell_below HB7.out x5; clear hb)
              | (go_at_call 24; with_reducible refine (HN5.out w7).mono ?_; rintro e w8 ⟨rfl, hb⟩; have HB8 := Aside0.mk (below_then HB7.out HB7.out.size hb); have y1 := pw_cell_below HB8.out x1; have y2 := pw_cell_below HB8.out x2; have y3 := pw_cell_below HB8.out x3; have y4 := pw_cell_below HB8.out x4; have y5 := pw_cell_below HB8.out x5; clear hb))
          all_goals (
            have HL9 := Aside0.mk (below_then HL3.out HL3.out.size HB8.out)
            clear x1 y1 x2 y2 x3 y3 x4 y4 x5 y5
            go_wp2
            refine ⟨⟨k + 1, _, by omega, by go_num, rfl, ⟨by rw [HF.out, ← HE.out]; simp only [bytes_assoc]; rfl⟩, HL9⟩, ?_⟩
            simp [intOf]
            omega)
      · have dk : decide (0 < k) = true := decide_eq_true (by omega)
        have HF : Aside0 (bs (preB l (k + 1)) = o ++ bs [32] ++ bs (textB s)) := ⟨by rw [HPS.out hk0, HO.out, bs_app, bs_app]⟩
        clear HP1 HPS HO hk0
        cases h0 : s.f0 with
        | true =>
          rw [h0] at g0
          have HE := Aside0.mk (textB_off h0)
          obtain ⟨t1, ht1, hz1, HN1⟩ := num_c s.f1 HSP.out.r1
          obtain ⟨t2, ht2, hz2, HN2⟩ := num_c s.f2 HSP.out.r2
          rw [← ht1, ← ht2] at HE
          have z0 : ¬ 9223372036854775807 < o.size + 1 := by omega
          have z1 : ¬ 9223372036854775807 < o.size + 1 + 4 := by omega
          have z2 : ¬ 9223372036854775807 < o.size + 1 + 4 + t1.size := by omega
          have z3 : ¬ 9223372036854775807 < o.size + 1 + 4 + t1.size + 1 := by omega
          have z4 : ¬ 9223372036854775807 < o.size + 1 + 4 + t1.size + 1 + t2.size := by omega
          clear hz1 ht1 hz2 ht2 h0 ho
          have g0a := cell_alloc1 g0 (.cells #[.int .i64 s.f3.f0, .int .i64 s.f3.f1, .int .i64 s.f3.f2, .int .i64 s.f3.f3, .int .i64 s.f3.f4] 49)
          go_upto_region 9 with fail
          have HL3 := Aside0.mk (below_then HL.out HL.out.size (below_alloc (Below.refl w2.heap.size w2) (.cells #[.int .i64 s.f3.f0, .int .i64 s.f3.f1, .int .i64 s.f3.f2, .int .i64 s.f3.f3, .int .i64 s.f3.f4] 49)))
          have x1 := cell_alloc1 g1 (.cells #[.int .i64 s.f3.f0, .int .i64 s.f3.f1, .int .i64 s.f3.f2, .int .i64 s.f3.f3, .int .i64 s.f3.f4] 49)
          have x2 := cell_alloc1 g2 (.cells #[.int .i64 s.f3.f0, .int .i64 s.f3.f1, .int .i64 s.f3.f2, .int .i64 s.f3.f3, .int .i64 s.f3.f4] 49)
          clear g0 g0a g1 g2 g3 g4 g5 g6 g7
          have E0 := Aside0.mk (And.intro hki hi64)
          generalize w2.alloc (.cells #[.int .i64 s.f3.f0, .int .i64 s.f3.f1, .int .i64 s.f3.f2, .int .i64 s.f3.f3, .int .i64 s.f3.f4] 49) = w3 at HL3 x1 x2 ⊢
          have HC1 := Aside0.mk (HN1.out w3.drew)
          go_region_held3 (fun W => W.cell? ⟨(ad.add (k * 8)).block, (ad.add (k * 8)).off + 1, none⟩ = some (.int .i64 s.f1) ∧ W.cell? ⟨(ad.add (k * 8)).block, (ad.add (k * 8)).off + 2, none⟩ = some (.int .i64 s.f2))
            (first | exact ⟨y1, y2⟩ | exact ⟨x1, x2⟩)
            (first
              | (go_at_call 24; with_reducible refine HC1.out.mono ?_; rintro e w4 ⟨rfl, hb⟩; have HB4 := Aside0.mk (below_of_drew hb); have y1 := pw_cell_below HB4.out x1; have y2 := pw_cell_below HB4.out x2; clear hb)
              | (go_at_call 24; with_reducible refine (HN2.out w4).mono ?_; rintro e w5 ⟨rfl, hb⟩; have HB5 := Aside0.mk (below_then HB4.out HB4.out.size hb); have y1 := pw_cell_below HB5.out x1; have y2 := pw_cell_below HB5.out x2; clear hb))
          all_goals (
            have HL9 := Aside0.mk (below_then HL3.out HL3.out.size HB5.out)
            clear x1 y1 x2 y2
            go_wp2
            refine ⟨⟨k + 1, _, by omega, by go_num, rfl, ⟨by rw [HF.out, ← HE.out]; simp only [bytes_assoc]; rfl⟩, HL9⟩, ?_⟩
            simp [intOf]
            omega)
        | false =>
          rw [h0] at g0
          have HE := Aside0.mk (textB_on h0)
          obtain ⟨t1, ht1, hz1, HN1⟩ := num_c s.f3.f0 HSP.out.c0
          obtain ⟨t2, ht2, hz2, HN2⟩ := num_c s.f3.f1 HSP.out.c1
          obtain ⟨t3, ht3, hz3, HN3⟩ := num_c s.f3.f4 HSP.out.c4
          obtain ⟨t4, ht4, hz4, HN4⟩ := num_c s.f3.f2 HSP.out.c2
          obtain ⟨t5, ht5, hz5, HN5⟩ := num_c s.f3.f3 HSP.out.c3
          rw [← ht1, ← ht2, ← ht3, ← ht4, ← ht5] at HE
          have z0 : ¬ 9223372036854775807 < o.size + 1 := by omega
          have z1 : ¬ 9223372036854775807 < o.size + 1 + t1.size := by omega
          have z2 : ¬ 9223372036854775807 < o.size + 1 + t1.size + 1 := by omega
          have z3 : ¬ 9223372036854775807 < o.size + 1 + t1.size + 1 + t2.size := by omega
          have z4 : ¬ 9223372036854775807 < o.size + 1 + t1.size + 1 + t2.size + 1 := by omega
          have z5 : ¬ 9223372036854775807 < o.size + 1 + t1.size + 1 + t2.size + 1 + t3.size := by omega
          have z6 : ¬ 9223372036854775807 < o.size + 1 + t1.size + 1 + t2.size + 1 + t3.size + 1 := by omega
          have z7 : ¬ 9223372036854775807 < o.size + 1 + t1.size + 1 + t2.size + 1 + t3.size + 1 + t4.size := by omega
          have z8 : ¬ 9223372036854775807 < o.size + 1 + t1.size + 1 + t2.size + 1 + t3.size + 1 + t4.size + 1 := by omega
          have z9 : ¬ 9223372036854775807 < o.size + 1 + t1.size + 1 + t2.size + 1 + t3.size + 1 + t4.size + 1 + t5.size := by omega
          clear hz1 ht1 hz2 ht2 hz3 ht3 hz4 ht4 hz5 ht5 h0 ho
          have g0a := cell_alloc1 g0 (.cells #[.int .i64 s.f3.f0, .int .i64 s.f3.f1, .int .i64 s.f3.f2, .int .i64 s.f3.f3, .int .i64 s.f3.f4] 49)
          go_upto_region 10 with fail
          have HL3 := Aside0.mk (below_then HL.out HL.out.size (below_alloc (Below.refl w2.heap.size w2) (.cells #[.int .i64 s.f3.f0, .int .i64 s.f3.f1, .int .i64 s.f3.f2, .int .i64 s.f3.f3, .int .i64 s.f3.f4] 49)))
          have b0 := blk_new w2 (.cells #[.int .i64 s.f3.f0, .int .i64 s.f3.f1, .int .i64 s.f3.f2, .int .i64 s.f3.f3, .int .i64 s.f3.f4] 49)
          have x1 : (w2.alloc (.cells #[.int .i64 s.f3.f0, .int .i64 s.f3.f1, .int .i64 s.f3.f2, .int .i64 s.f3.f3, .int .i64 s.f3.f4] 49)).cell? ⟨w2.heap.size, 0, none⟩ = some (.int .i64 s.f3.f0) := (blk_cell b0 0).trans rfl
          have x2 : (w2.alloc (.cells #[.int .i64 s.f3.f0, .int .i64 s.f3.f1, .int .i64 s.f3.f2, .int .i64 s.f3.f3, .int .i64 s.f3.f4] 49)).cell? ⟨w2.heap.size, 1, none⟩ = some (.int .i64 s.f3.f1) := (blk_cell b0 1).trans rfl
          have x3 : (w2.alloc (.cells #[.int .i64 s.f3.f0, .int .i64 s.f3.f1, .int .i64 s.f3.f2, .int .i64 s.f3.f3, .int .i64 s.f3.f4] 49)).cell? ⟨w2.heap.size, 2, none⟩ = some (.int .i64 s.f3.f2) := (blk_cell b0 2).trans rfl
          have x4 : (w2.alloc (.cells #[.int .i64 s.f3.f0, .int .i64 s.f3.f1, .int .i64 s.f3.f2, .int .i64 s.f3.f3, .int .i64 s.f3.f4] 49)).cell? ⟨w2.heap.size, 3, none⟩ = some (.int .i64 s.f3.f3) := (blk_cell b0 3).trans rfl
          have x5 : (w2.alloc (.cells #[.int .i64 s.f3.f0, .int .i64 s.f3.f1, .int .i64 s.f3.f2, .int .i64 s.f3.f3, .int .i64 s.f3.f4] 49)).cell? ⟨w2.heap.size, 4, none⟩ = some (.int .i64 s.f3.f4) := (blk_cell b0 4).trans rfl
          clear b0
          clear g0 g0a g1 g2 g3 g4 g5 g6 g7
          have E0 := Aside0.mk (And.intro hki hi64)
          generalize w2.alloc (.cells #[.int .i64 s.f3.f0, .int .i64 s.f3.f1, .int .i64 s.f3.f2, .int .i64 s.f3.f3, .int .i64 s.f3.f4] 49) = w3 at HL3 x1 x2 x3 x4 x5 ⊢
          have HC1 := Aside0.mk (HN1.out w3.drew)
          go_region_held3 (fun W => W.cell? ⟨w2.heap.size, 0, none⟩ = some (.int .i64 s.f3.f0) ∧ W.cell? ⟨w2.heap.size, 1, none⟩ = some (.int .i64 s.f3.f1) ∧ W.cell? ⟨w2.heap.size, 2, none⟩ = some (.int .i64 s.f3.f2) ∧ W.cell? ⟨w2.heap.size, 3, none⟩ = some (.int .i64 s.f3.f3) ∧ W.cell? ⟨w2.heap.size, 4, none⟩ = some (.int .i64 s.f3.f4))
            (first | exact ⟨y1, y2, y3, y4, y5⟩ | exact ⟨x1, x2, x3, x4, x5⟩)
            (first
              | (go_at_call 24; with_reducible refine HC1.out.mono ?_; rintro e w4 ⟨rfl, hb⟩; have HB4 := Aside0.mk (below_of_drew hb); have y1 := pw_cell_below HB4.out x1; have y2 := pw_cell_below HB4.out x2; have y3 := pw_cell_below HB4.out x3; have y4 := pw_cell_below HB4.out x4; have y5 := pw_cell_below HB4.out x5; clear hb)
              | (go_at_call 24; with_reducible refine (HN2.out w4).mono ?_; rintro e w5 ⟨rfl, hb⟩; have HB5 := Aside0.mk (below_then HB4.out HB4.out.size hb); have y1 := pw_cell_below HB5.out x1; have y2 := pw_cell_below HB5.out x2; have y3 := pw_cell_below HB5.out x3; have y4 := pw_cell_below HB5.out x4; have y5 := pw_cell_below HB5.out x5; clear hb)
              | (go_at_call 24; with_reducible refine (HN3.out w5).mono ?_; rintro e w6 ⟨rfl, hb⟩; have HB6 := Aside0.mk (below_then HB5.out HB5.out.size hb); have y1 := pw_cell_below HB6.out x1; have y2 := pw_cell_below HB6.out x2; have y3 := pw_cell_below HB6.out x3; have y4 := pw_cell_below HB6.out x4; have y5 := pw_cell_below HB6.out x5; clear hb)
              | (go_at_call 24; with_reducible refine (HN4.out w6).mono ?_; rintro e w7 ⟨rfl, hb⟩; have HB7 := Aside0.mk (below_then HB6.out HB6.out.size hb); have y1 := pw_cell_below HB7.out x1; have y2 := pw_cell_below HB7.out x2; have y3 := pw_cell_below HB7.out x3; have y4 := pw_cell_below HB7.out x4; have y5 := pw_cell_below HB7.out x5; clear hb)
              | (go_at_call 24; with_reducible refine (HN5.out w7).mono ?_; rintro e w8 ⟨rfl, hb⟩; have HB8 := Aside0.mk (below_then HB7.out HB7.out.size hb); have y1 := pw_cell_below HB8.out x1; have y2 := pw_cell_below HB8.out x2; have y3 := pw_cell_below HB8.out x3; have y4 := pw_cell_below HB8.out x4; have y5 := pw_cell_below HB8.out x5; clear hb))
          all_goals (
            have HL9 := Aside0.mk (below_then HL3.out HL3.out.size HB8.out)
            clear x1 y1 x2 y2 x3 y3 x4 y4 x5 y5
            go_wp2
            refine ⟨⟨k + 1, _, by omega, by go_num, rfl, ⟨by rw [HF.out, ← HE.out]; simp only [bytes_assoc]; rfl⟩, HL9⟩, ?_⟩
            simp [intOf]
            omega)
    · obtain rfl : k = l.length := by omega
      by_cases hz : l = []
      · subst hz
        have ho0 : o = (⟨#[]⟩ : ByteArray) := by rw [HO.out]; rfl
        subst ho0
        clear HO ho
        go_wp2
        go_ret
        exact ⟨rfl, HL.out⟩
      · have hne : o.toList.isEmpty = false := by
          rw [HO.out, Lib.toList_data]
          match l, hz with
          | x :: t, _ =>
            unfold preB
            rw [List.take_length, List.map_cons, Lib.join_cons]
            have h2 := textB_pos x
            cases hh : textB x with
            | nil => rw [hh] at h2; simp at h2
            | cons a b => simp [bs]
        have HTB := Aside0.mk (show bs (textsB l) = o by rw [HO.out]; unfold textsB preB; rw [if_neg hz, List.take_length])
        clear HO ho hz
        go_wp2
        go_ret
        exact ⟨ret_str HTB.out.symm, HL.out⟩
end Go.Proofs.YtfmlpcdbllpcaaaDoor.HX
