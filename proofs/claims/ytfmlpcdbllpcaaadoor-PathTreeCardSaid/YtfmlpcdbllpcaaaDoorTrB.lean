/-
  CONTRACTS BY HAND (trees, 2): awake: the chapter's example.
-/
import Derived.Test.YtfmlpcdbllpcaaaDoorTrA
import Derived.Test.YtfmlpcdbllpcaaaDoorTxB
namespace Go.Proofs.YtfmlpcdbllpcaaaDoor.HX
open Go.Proofs.YtfmlpcdbllpcaaaDoor.HD (Ch mayP)
open Go.Proofs.YtfmlpcdbllpcaaaDoor.HQ Go.Proofs.YtfmlpcdbllpcaaaDoor.HU Go.RowKit Go.Proofs.YtfmlpcdbllpcaaaDoor.HK Go.Proofs.YtfmlpcdbllpcaaaDoor.HP Go.Proofs.YtfmlpcdbllpcaaaDoorW.PrintWords Go.Proofs.YtfmlpcdbllpcaaaDoorW.PrintLast Go.Proofs.YtfmlpcdbllpcaaaDoorW.PrintMore
set_option linter.unusedVariables false
set_option linter.unusedSimpArgs false
def lv0 : Lv := ⟨⟨1, 2, chL 1 2 2⟩, true, 0⟩
def L1 : List Lv := [lv0]
def L2 : List Lv := [⟨⟨1, 2, chL 1 2 2⟩, true, 1⟩]
def L3 : List Lv := [⟨⟨1, 2, chL 1 2 2⟩, true, 2⟩]
theorem nx1 : nextF L1 = L2 := rfl
theorem nx2 : nextF L2 = L3 := rfl
theorem nx3 : nextF L3 = [] := rfl
theorem fitL {n : Int} (h0 : 0 ≤ n) (h1 : n < 3) : ∀ x ∈ ([⟨⟨1, 2, chL 1 2 2⟩, true, n⟩] : List Lv), Fit x := fun x hx => by
  obtain rfl := List.mem_singleton.1 hx
  exact ⟨h0, h1, by show (chL 1 2 2).length ≤ 1000; decide⟩
theorem st1 : L1.map stepOf = [⟨false, 1, 2, ⟨1, 2, 0, 0, 0⟩⟩] := rfl
theorem st2 : L2.map stepOf = [⟨false, 1, 2, ⟨1, 2, 1, 0, 0⟩⟩] := rfl
theorem st3 : L3.map stepOf = [⟨true, 1, 2, ⟨0, 0, 0, 0, 0⟩⟩] := rfl
theorem rng_small {n : Int} (h0 : -10 ≤ n) (h1 : n ≤ 10000) : Rng n := ⟨by omega, by omega⟩
theorem okS {s : Sp} (h : s = ⟨false, 1, 2, ⟨1, 2, 0, 0, 0⟩⟩ ∨ s = ⟨false, 1, 2, ⟨1, 2, 1, 0, 0⟩⟩ ∨ s = ⟨true, 1, 2, ⟨0, 0, 0, 0, 0⟩⟩) : SpOk s := by
  rcases h with rfl | rfl | rfl <;> exact ⟨rng_small (by decide) (by decide), rng_small (by decide) (by decide), rng_small (by decide) (by decide), rng_small (by decide) (by decide), rng_small (by decide) (by decide), rng_small (by decide) (by decide), rng_small (by decide) (by decide)⟩
theorem it0 : Lib.itoa 0 = [48] := by rw [Lib.itoa, if_neg (by decide)]; exact dec_small (by decide)
theorem it1 : Lib.itoa 1 = [49] := by rw [Lib.itoa, if_neg (by decide)]; exact dec_small (by decide)
theorem it2 : Lib.itoa 2 = [50] := by rw [Lib.itoa, if_neg (by decide)]; exact dec_small (by decide)
theorem tx1 : bs (textsB (L1.map stepOf)) = ⟨#[49, 46, 50, 46, 48, 46, 48, 46, 48]⟩ := by
  rw [st1]
  simp [textsB, Lib.join_one, textB, dotsB, dotB, it0, it1, it2, bs]
theorem tx2 : bs (textsB (L2.map stepOf)) = ⟨#[49, 46, 50, 46, 48, 46, 49, 46, 48]⟩ := by
  rw [st2]
  simp [textsB, Lib.join_one, textB, dotsB, dotB, it0, it1, it2, bs]
theorem tx3 : bs (textsB (L3.map stepOf)) = ⟨#[111, 102, 102, 46, 49, 46, 50]⟩ := by
  rw [st3]
  simp [textsB, Lib.join_one, textB, dotsB, dotB, it0, it1, it2, bs]
theorem tx4 : bs (textsB (([] : List Lv).map stepOf)) = ⟨#[45]⟩ := rfl
theorem mayL : mayP 1 2 (chL 1 2 2) = true := by decide
theorem mayN : mayP 0 0 [] = false := by decide
set_option maxRecDepth 100000 in
set_option maxHeartbeats 16000000 in
theorem awake_c (w : World) (ht : Tab w) : Calls Tryd.prog 9 #[] w fun e w' => e = .returned (.bool true) ∧ Below w.heap.size w w' := by
  have HT := Aside0.mk ht
  have hgt := ht.2
  clear ht
  go_enter Tryd.func9, Tryd.ntmps9
  go_wp2_with fail
  refine (HQ.new_calls w (fun _ => True)).mono ?_
  rintro e w1 ⟨rfl, hs, hb⟩
  have HS1 := Aside0.mk hs
  have HB1 := Aside0.mk hb
  have hgl := blk_lt hs.blk
  clear hs hb
  generalize hgw : w.heap.size = g at *
  have HGT := Aside0.mk hgt
  have HGW := Aside0.mk hgw
  clear hgt hgw
  have HP := Aside0.mk (show Calls Tryd.prog 15 #[.int .i64 1, .int .i64 2, .int .i64 2] w1 _ from point_c 1 2 2 (by decide) w1)
  go_wp2_with fail
  refine HP.out.mono ?_
  rintro e w2 ⟨A, c, rfl, hc, hC, hb⟩
  have HB2 := Aside0.mk (below_then HB1.out (by have := HB1.out.size; omega) hb)
  have hpk := push_ok g (fun _ => True) g (.slice none 0 0) [] 1 2 A c (chL 1 2 2) true w2 (HS1.out.below hb) (by have := hb.size; omega) (fun _ _ => trivial) (by rw [chL_len]; exact hC) (by rw [chL_len]; exact hc) (by rw [chL_len]; decide) mayL (by decide)
  rw [chL_len] at hpk
  have HPK := Aside0.mk hpk
  clear hpk hb hC HP HS1
  go_wp2_with fail
  refine HPK.out.mono ?_
  rintro e w3 ⟨rfl, ⟨v3, hs, _⟩, _, hb⟩
  have HS3 := Aside0.mk (show Sq w3 g (fun _ => True) g v3 L1 from hs)
  have HB3 := Aside0.mk (HB2.out.trans hb)
  clear hs hb HPK HB1
  go_wp2_with fail
  refine (show Calls Tryd.prog 14 #[.pointer (some ⟨g, 0, none⟩), .agg #[.int .i64 0, .int .i64 0, .slice none 0 0], .bool true] w3 _ from push_bad g (fun _ => True) g v3 L1 0 0 none 0 [] true w3 HS3.out ⟨rfl, by simp, fun h => absurd h (by simp)⟩ (by decide) mayN).mono ?_
  rintro e w4 ⟨rfl, hb⟩
  have HS4 := Aside0.mk (HS3.out.below hb)
  have HB4 := Aside0.mk (below_then HB3.out (by have := blk_lt HS3.out.blk; omega) hb)
  clear hb HS3 HB3 HB2
  go_wp2_with fail
  refine (left_ok g (fun _ => True) g v3 L1 w4 HS4.out (fitL (by decide) (by decide)) (by decide)).mono ?_
  rintro e w5 ⟨rfl, hb⟩
  rw [show leftI L1 = 2 from rfl]
  have HS5 := Aside0.mk (HS4.out.below hb)
  have HB5 := Aside0.mk (below_then HB4.out (by have := blk_lt HS4.out.blk; omega) hb)
  clear hb HS4 HB4
  go_wp2_with fail
  refine (steps_ok g (fun _ => True) g v3 L1 w5 HS5.out (fitL (by decide) (by decide)) (by decide)).mono ?_
  rintro e w6 ⟨v0, rfl, hR, hb⟩
  have HS6 := Aside0.mk (HS5.out.below hb)
  have HB6 := Aside0.mk (below_then HB5.out (by have := blk_lt HS5.out.blk; omega) hb)
  obtain ⟨A1, c1, rfl, hc1, hC⟩ := Kd.R_reads hR
  have HC := Aside0.mk hC
  clear hb hR hC HS5 HB5
  go_wp2_with fail
  refine (texts_c A1 c1 (L1.map stepOf) w6 HC.out hc1 (by decide) (fun x hx => okS (.inl (List.mem_singleton.1 hx))) (HT.out.below (B := g) HGT.out HB6.out)).mono ?_
  rintro e w7 ⟨rfl, hb⟩
  rw [tx1]
  have HS7 := Aside0.mk (HS6.out.below hb)
  have HB7 := Aside0.mk (below_then HB6.out (by have := blk_lt HS6.out.blk; omega) hb)
  clear hb HC hc1 HS6 HB6
  go_wp2_with fail
  refine (next_ok g (fun _ => True) g v3 L1 w7 HS7.out (fitL (by decide) (by decide))).mono ?_
  rintro e w8 ⟨rfl, ⟨u8, hs, _⟩, _, hb⟩
  rw [nx1] at hs ⊢
  rw [show decide (0 < (L2 : List Lv).length) = true from rfl]
  have HS8 := Aside0.mk hs
  have HB8 := Aside0.mk (HB7.out.trans hb)
  clear hs hb HS7 HB7
  go_wp2_with fail
  refine (steps_ok g (fun _ => True) g u8 L2 w8 HS8.out (fitL (by decide) (by decide)) (by decide)).mono ?_
  rintro e w9 ⟨v0, rfl, hR, hb⟩
  have HS9 := Aside0.mk (HS8.out.below hb)
  have HB9 := Aside0.mk (below_then HB8.out (by have := blk_lt HS8.out.blk; omega) hb)
  obtain ⟨A2, c2, rfl, hc2, hC⟩ := Kd.R_reads hR
  have HC := Aside0.mk hC
  clear hb hR hC HS8 HB8
  go_wp2_with fail
  refine (texts_c A2 c2 (L2.map stepOf) w9 HC.out hc2 (by decide) (fun x hx => okS (.inr (.inl (List.mem_singleton.1 hx)))) (HT.out.below (B := g) HGT.out HB9.out)).mono ?_
  rintro e w10 ⟨rfl, hb⟩
  rw [tx2]
  have HS10 := Aside0.mk (HS9.out.below hb)
  have HB10 := Aside0.mk (below_then HB9.out (by have := blk_lt HS9.out.blk; omega) hb)
  clear hb HC hc2 HS9 HB9
  go_wp2_with fail
  refine (next_ok g (fun _ => True) g u8 L2 w10 HS10.out (fitL (by decide) (by decide))).mono ?_
  rintro e w11 ⟨rfl, ⟨u11, hs, _⟩, _, hb⟩
  rw [nx2] at hs ⊢
  rw [show decide (0 < (L3 : List Lv).length) = true from rfl]
  have HS11 := Aside0.mk hs
  have HB11 := Aside0.mk (HB10.out.trans hb)
  clear hs hb HS10 HB10
  go_wp2_with fail
  refine (steps_ok g (fun _ => True) g u11 L3 w11 HS11.out (fitL (by decide) (by decide)) (by decide)).mono ?_
  rintro e w12 ⟨v0, rfl, hR, hb⟩
  have HS12 := Aside0.mk (HS11.out.below hb)
  have HB12 := Aside0.mk (below_then HB11.out (by have := blk_lt HS11.out.blk; omega) hb)
  obtain ⟨A3, c3, rfl, hc3, hC⟩ := Kd.R_reads hR
  have HC := Aside0.mk hC
  clear hb hR hC HS11 HB11
  go_wp2_with fail
  refine (texts_c A3 c3 (L3.map stepOf) w12 HC.out hc3 (by decide) (fun x hx => okS (.inr (.inr (List.mem_singleton.1 hx)))) (HT.out.below (B := g) HGT.out HB12.out)).mono ?_
  rintro e w13 ⟨rfl, hb⟩
  rw [tx3]
  have HS13 := Aside0.mk (HS12.out.below hb)
  have HB13 := Aside0.mk (below_then HB12.out (by have := blk_lt HS12.out.blk; omega) hb)
  clear hb HC hc3 HS12 HB12
  go_wp2_with fail
  refine (next_ok g (fun _ => True) g u11 L3 w13 HS13.out (fitL (by decide) (by decide))).mono ?_
  rintro e w14 ⟨rfl, ⟨u14, hs, _⟩, _, hb⟩
  rw [nx3] at hs ⊢
  rw [show decide (0 < ([] : List Lv).length) = false from rfl]
  have HS14 := Aside0.mk hs
  have HB14 := Aside0.mk (HB13.out.trans hb)
  clear hs hb HS13 HB13
  go_wp2_with fail
  refine (steps_ok g (fun _ => True) g u14 [] w14 HS14.out (fun _ h => by cases h) (by decide)).mono ?_
  rintro e w15 ⟨v0, rfl, hR, hb⟩
  have HS15 := Aside0.mk (HS14.out.below hb)
  have HB15 := Aside0.mk (below_then HB14.out (by have := blk_lt HS14.out.blk; omega) hb)
  obtain ⟨A4, c4, rfl, hc4, hC⟩ := Kd.R_reads hR
  have HC := Aside0.mk hC
  clear hb hR hC HS14 HB14
  go_wp2_with fail
  refine (texts_c A4 c4 (([] : List Lv).map stepOf) w15 HC.out hc4 (by decide) (fun x hx => by cases hx) (HT.out.below (B := g) HGT.out HB15.out)).mono ?_
  rintro e w16 ⟨rfl, hb⟩
  rw [tx4]
  have HS16 := Aside0.mk (HS15.out.below hb)
  have HB16 := Aside0.mk (below_then HB15.out (by have := blk_lt HS15.out.blk; omega) hb)
  clear hb HC hc4 HS15 HB15
  go_wp2_with fail
  refine (HQ.depth_calls g (fun _ => True) g u14 [] w16 HS16.out).mono ?_
  rintro e w17 ⟨rfl, rfl⟩
  go_wp2
  go_ret
  exact ⟨rfl, HGW.out ▸ HB16.out⟩
end Go.Proofs.YtfmlpcdbllpcaaaDoor.HX
