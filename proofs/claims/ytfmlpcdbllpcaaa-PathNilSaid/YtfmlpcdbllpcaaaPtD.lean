/-
  CONTRACTS BY HAND (paths, 4): the law PathNil, walked: it answers true, and nothing that was there is changed.
-/
import Derived.Test.YtfmlpcdbllpcaaaPtC
namespace Go.Proofs.Ytfmlpcdbllpcaaa.HD
open Go.RowKit Go.Proofs.Ytfmlpcdbllpcaaa.HK Go.Proofs.Ytfmlpcdbllpcaaa.HP Go.Proofs.YtfmlpcdbllpcaaaW.PrintWords Go.Proofs.YtfmlpcdbllpcaaaW.PrintLast Go.Proofs.YtfmlpcdbllpcaaaW.PrintMore
set_option linter.unusedVariables false
set_option linter.unusedSimpArgs false
/-- the two stacks of the law, in a row -/
def TwoSts (W : World) (g : Nat) : Prop := ∀ i : Nat, i < 2 → ∃ v, W.cell? ⟨g, i, none⟩ = some v ∧ NoSt W v
theorem TwoSts.below {w w' : World} {g : Nat} (h : TwoSts w g) (b : Below w.heap.size w w') : TwoSts w' g := by
  intro i hi
  obtain ⟨v, h, n⟩ := h i hi
  exact ⟨v, pw_cell_below b h, n.below b⟩
theorem twoSts (w : World) : TwoSts ((w.alloc (.cells #[.bool false, .slice none 0 0] 52)).alloc (.cells #[.pointer none, .pointer (some ⟨w.heap.size, 0, none⟩)] 24)) (w.heap.size + 1) := by
  intro i hi
  have e : (w.alloc (.cells #[.bool false, .slice none 0 0] 52)).heap.size = w.heap.size + 1 := by simp
  have h0 := blk_new (w.alloc (.cells #[.bool false, .slice none 0 0] 52)) (.cells #[.pointer none, .pointer (some ⟨w.heap.size, 0, none⟩)] 24)
  have h1 := blk_alloc (blk_new w (.cells #[.bool false, .slice none 0 0] 52)) (.cells #[.pointer none, .pointer (some ⟨w.heap.size, 0, none⟩)] 24)
  rw [e] at h0
  obtain rfl | rfl : i = 0 ∨ i = 1 := by omega
  · exact ⟨_, (blk_cell h0 0).trans rfl, .inl rfl⟩
  · exact ⟨_, (blk_cell h0 1).trans rfl, .inr ⟨_, rfl, (blk_cell h1 0).trans rfl, (blk_cell h1 1).trans rfl⟩⟩
theorem St.below {w w' : World} {base : Nat} {ok : Nat → Prop} {g : Nat} {v : Value} {ls : List Lv} (h : St w base ok g v ls) (hb : Below w.heap.size w w') : St w' base ok g v ls :=
  ⟨blk_below h.blk hb, h.hg, Kd.R_below h.row hb⟩
set_option maxRecDepth 20000 in
set_option maxHeartbeats 4000000 in
theorem pathNil_calls (r q : Int) (A : Option Addr) (c : Nat) (l : List Ch) (off : Bool) (w : World) (hr : Kd.C k43 w A l.length l) (hc : l.length ≤ c) :
    Calls Try.prog 4 #[.agg #[.int .i64 r, .int .i64 q, .slice A l.length c], .bool off] w fun e w' => e = .returned (.bool true) ∧ Below w.heap.size w w' := by
  have HR := Aside0.mk hr
  clear hr
  by_cases hg : 100 < l.length
  · have hd : decide ((100 : Int) < (l.length : Int)) = true := by simpa using (by omega : (100 : Int) < l.length)
    go_enter Try.func4, Try.ntmps4
    go_wp2
    go_ret
    exact ⟨rfl, below_alloc0 _ _⟩
  · have hd : decide ((100 : Int) < (l.length : Int)) = false := by simpa using (by omega : ¬ (100 : Int) < l.length)
    go_enter Try.func4, Try.ntmps4
    go_wp2_with fail
    have hb0 := below_alloc0 w (.cells #[.int .i64 r, .int .i64 q, .slice A l.length c] 34)
    have e0 : (w.alloc (.cells #[.int .i64 r, .int .i64 q, .slice A l.length c] 34)).heap.size = w.heap.size + 1 := by simp
    have G0 := blk_new w (.cells #[.int .i64 r, .int .i64 q, .slice A l.length c] 34)
    rw [← e0]
    generalize w.alloc (.cells #[.int .i64 r, .int .i64 q, .slice A l.length c] 34) = w1 at hb0 G0 e0 ⊢
    have TT := twoSts w1
    have hb2 := below_alloc (below_alloc (Below.refl w1.heap.size w1) (.cells #[.bool false, .slice none 0 0] 52)) (.cells #[.pointer none, .pointer (some ⟨w1.heap.size, 0, none⟩)] 24)
    have HB2 := Aside0.mk (below_then hb0 hb0.size hb2)
    have HG2 := Aside0.mk (blk_below G0 hb2)
    clear hb2 hb0 G0 hd
    generalize (w1.alloc (.cells #[.bool false, .slice none 0 0] 52)).alloc (.cells #[.pointer none, .pointer (some ⟨w1.heap.size, 0, none⟩)] 24) = w2 at TT HB2 HG2 ⊢
    clear e0
    go_loopw [7] (fun v7 wr => ∃ i : Nat, i ≤ 2 ∧ v7 = .int .i64 i ∧ Aside0 (TwoSts wr (w1.heap.size + 1)) ∧ Aside0 (Below w.heap.size w wr) ∧ Aside0 (wr.heap[w.heap.size]? = some (.cells #[.int .i64 r, .int .i64 q, .slice A l.length c] 34))) (fun v7 _ => 2 - (intOf v7).toNat)
    case atStart => exact ⟨0, by omega, rfl, ⟨TT⟩, HB2, HG2⟩
    case round =>
      obtain ⟨i, hi, rfl, HT, HB, HG⟩ := hrel
      clear TT HB2 HG2
      have g0 := (blk_cell HG.out 0).trans rfl
      have g1 := (blk_cell HG.out 1).trans rfl
      have g2 := (blk_cell HG.out 2).trans rfl
      by_cases hlt : i < 2
      · obtain ⟨v, hv, hno⟩ := HT.out i hlt
        have NO := Aside0.mk hno
        clear hno
        go_wp2_with fail
        refine (push_no v r q A l.length c off wr NO.out).mono ?_
        rintro e w3 ⟨rfl, hb⟩
        have HB3 := Aside0.mk (below_then HB.out HB.out.size hb)
        have HG3 := Aside0.mk (blk_below HG.out hb)
        have HT3 := Aside0.mk (HT.out.below hb)
        have NO3 := Aside0.mk (NO.out.below hb)
        clear hb g0 g1 g2 HT HB HG NO hv
        go_wp2_with fail
        refine (next_no v w3 NO3.out).mono ?_
        rintro e w4 ⟨rfl, rfl⟩
        go_wp2_with fail
        refine (depth_no v w3 NO3.out).mono ?_
        rintro e w4 ⟨rfl, rfl⟩
        go_wp2_with fail
        refine (left_no v w3 NO3.out).mono ?_
        rintro e w4 ⟨rfl, rfl⟩
        go_wp2_with fail
        refine (steps_no v w3 NO3.out).mono ?_
        rintro e w4 ⟨rfl, rfl⟩
        go_wp2
        go_roundw
        case rel => exact ⟨i + 1, by omega, by go_num, HT3, HB3, HG3⟩
        case measure => simp [intOf]; omega
      · obtain rfl : i = 2 := by omega
        go_wp2_with fail
        refine (copy_nil wr).mono ?_
        rintro e w3 ⟨rfl, rfl⟩
        go_wp2_with fail
        refine (may_r r q A c l wr (Kd.C_below HR.out HB.out) hc).mono ?_
        rintro e w3 ⟨rfl, hb⟩
        have HB3 := Aside0.mk (below_then HB.out HB.out.size hb)
        have HG3 := blk_below HG.out hb
        clear hb g0 g1 g2 HT HB HG
        have g0 := (blk_cell HG3 0).trans rfl
        have g1 := (blk_cell HG3 1).trans rfl
        have g2 := (blk_cell HG3 2).trans rfl
        have HG3 := Aside0.mk HG3
        by_cases hm : mayP r q l = true
        · by_cases h3 : 3 < l.length
          · have hd : decide ((3 : Int) < (l.length : Int)) = true := by simpa using (by omega : (3 : Int) < l.length)
            rw [hm]
            go_wp2_with fail
            refine (copy_nil w3).mono ?_
            rintro e w4 ⟨rfl, rfl⟩
            go_wp2
            go_ret
            exact ⟨rfl, HB3.out⟩
          · have hd : decide ((3 : Int) < (l.length : Int)) = false := by simpa using (by omega : ¬ (3 : Int) < l.length)
            rw [hm]
            go_wp2_with fail
            refine (new_calls w3 (fun _ => True)).mono ?_
            rintro e w4 ⟨rfl, hst, hb⟩
            have HB4 := Aside0.mk (below_then HB3.out HB3.out.size hb)
            have HG4 := Aside0.mk (blk_below HG3.out hb)
            have HS4 := Aside0.mk hst
            have hsz := Aside0.mk hb.size
            clear hb hst g0 g1 g2 hd
            have HLT := Aside0.mk (blk_lt HG3.out)
            go_wp2_with fail
            go_loopw [10] (fun v10 wx => ∃ (n : Nat) (vv : Value) (ls : List Lv), n ≤ 2000 ∧ v10 = .int .i64 n ∧ ls.length = n ∧ Aside0 (St wx w3.heap.size (fun _ => True) w3.heap.size vv ls) ∧ Aside0 (Below w.heap.size w wx) ∧ Aside0 (wx.heap[w.heap.size]? = some (.cells #[.int .i64 r, .int .i64 q, .slice A l.length c] 34)) ∧ Aside0 (w3.heap.size ≤ wx.heap.size)) (fun v10 _ => 2000 - (intOf v10).toNat)
            case atStart => exact ⟨0, _, [], by omega, rfl, rfl, HS4, HB4, HG4, hsz⟩
            case round =>
              obtain ⟨n, vv, ls, hn, rfl, hls, HS, HB, HG, HZ⟩ := hrel
              clear HS4 HB4 HG4 hsz
              have g0 := (blk_cell HG.out 0).trans rfl
              have g1 := (blk_cell HG.out 1).trans rfl
              have g2 := (blk_cell HG.out 2).trans rfl
              by_cases hlt : n < 2000
              · go_wp2_with fail
                refine (push_ok w3.heap.size (fun _ => True) w3.heap.size vv ls r q A c l off wr HS.out HZ.out (fun _ _ => trivial) (Kd.C_below HR.out HB.out) hc (by omega) hm (by omega)).mono ?_
                rintro e w5 ⟨rfl, ⟨v', hst, _⟩, _, hbb⟩
                have HS5 := Aside0.mk hst
                have HB5 := Aside0.mk (HB.out.trans (hbb.mono HB3.out.size))
                have HG5 := Aside0.mk ((hbb.block _ HLT.out).trans HG.out)
                have HZ5 := Aside0.mk (Nat.le_trans HZ.out hbb.size)
                clear hst hbb g0 g1 g2 HS HB HG HZ
                go_wp2
                go_roundw
                case rel => exact ⟨n + 1, v', ls ++ [⟨⟨r, q, l⟩, off, 0⟩], by omega, by go_num, by simp [hls], HS5, HB5, HG5, HZ5⟩
                case measure => simp [intOf]; omega
              · obtain rfl : n = 2000 := by omega
                go_wp2_with fail
                refine (push_full w3.heap.size (fun _ => True) w3.heap.size vv ls r q A c l off wr HS.out (Kd.C_below HR.out HB.out) hc hm hls).mono ?_
                rintro e w5 ⟨rfl, hbb⟩
                have HS5 := Aside0.mk (HS.out.below hbb)
                have HB5 := Aside0.mk (below_then HB.out HB.out.size hbb)
                clear hbb g0 g1 g2 HS HB HG HZ
                go_wp2_with fail
                refine (depth_calls w3.heap.size (fun _ => True) w3.heap.size vv ls w5 HS5.out).mono ?_
                rintro e w6 ⟨rfl, rfl⟩
                rw [hls]
                go_wp2
                go_ret
                exact ⟨rfl, HB5.out⟩
        · have hm : mayP r q l = false := by simpa using hm
          rw [hm]
          go_wp2_with fail
          refine (copy_nil w3).mono ?_
          rintro e w4 ⟨rfl, rfl⟩
          go_wp2
          go_ret
          exact ⟨rfl, HB3.out⟩
end Go.Proofs.Ytfmlpcdbllpcaaa.HD
