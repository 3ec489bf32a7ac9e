/- SignJoins: whatever the rows and the choice, the law answers true, and what came in reads as it did. No condition. -/
import Derived.Test.YtpkcnifchggbnaaSpW
import Derived.Test.YtpkcnifchggbnaaSgG
import Derived.Test.YtpkcnifchggbnaaHV
import Derived.Test.YtpkcnifchggbnaaRows
import Derived.Test.YtpkcnifchggbnaaHRs
import Derived.WalkKit
import Derived.ProofKit
import Derived.OpenShut
import Derived.ShutString
import Derived.ChangeOld
import Derived.Below
import Derived.SizedLaws
import Derived.Lib.SmallJoins
namespace Go.Proofs.Ytpkcnifchggbnaa.HI
open Go.RowKit Go.Proofs.Ytpkcnifchggbnaa.HD Go.Proofs.Ytpkcnifchggbnaa.HK Go.Proofs.Ytpkcnifchggbnaa.HU Go.Proofs.YtpkcnifchggbnaaW.PrintWords Go.Proofs.YtpkcnifchggbnaaW.PrintLast Go.Proofs.YtpkcnifchggbnaaW.PrintMore
set_option linter.unusedVariables false
set_option linter.unusedSimpArgs false
theorem find_none {l : List Cho} {x : Cho} (h : findC l x.f0 x.f1 = none) : ∀ y ∈ l, ¬ (y.f0 = x.f0 ∧ y.f1 = x.f1) := fun y hy he => by
  unfold findC at h
  have := List.find?_eq_none.1 h y hy
  exact this (isAt_iff.2 he)
/-- what the document puts together is what the program puts together -/
theorem put_doc {l : List Cho} {x : Cho} (hl : mayL l = true) (hx : oneB x = true) (hf : findC l x.f0 x.f1 = none) : putE l x = 0 ∧ l.filter (fun y => decide (Less y x)) ++ [x] ++ l.filter (fun y => decide (Less x y)) = putL l x := by
  obtain ⟨h1, h2, h3⟩ := put_new hl hx (find_none hf)
  refine ⟨h1, mem_same ?_ (mayL_iff.1 h2).2 fun y => ?_⟩
  · have hs := (mayL_iff.1 hl).2
    rw [List.append_assoc, List.pairwise_append]
    refine ⟨hs.sublist List.filter_sublist, List.pairwise_cons.2 ⟨fun y hy => by simpa using (List.mem_filter.1 hy).2, hs.sublist List.filter_sublist⟩, fun a ha b hb => ?_⟩
    have hax : Less a x := by simpa using (List.mem_filter.1 ha).2
    rcases List.mem_cons.1 hb with rfl | hb
    · exact hax
    · exact hax.trans (by simpa using (List.mem_filter.1 hb).2)
  · rw [h3.mem_iff]
    simp only [List.mem_append, List.mem_filter, List.mem_cons, List.not_mem_nil, or_false, decide_eq_true_eq]
    constructor
    · rintro ((⟨h, _⟩ | h) | ⟨h, _⟩)
      · exact .inr h
      · exact .inl h
      · exact .inr h
    · rintro (h | h)
      · exact .inl (.inr h)
      · rcases less_total y x with k | k | k
        · exact .inl (.inl ⟨h, k⟩)
        · exact absurd k (find_none hf y h)
        · exact .inr ⟨h, k⟩
theorem put_no_may {l : List Cho} {x : Cho} (h : mayL l = false) : putE l x = 2 ∧ putL l x = [] := by
  unfold putE putL putOk
  rw [h]
  exact ⟨rfl, rfl⟩
theorem put_no_one {l : List Cho} {x : Cho} (h : oneB x = false) : putE l x = 2 ∧ putL l x = [] := by
  unfold putE putL putOk
  rw [h, Bool.and_false]
  exact ⟨rfl, rfl⟩
theorem put_no_had {l : List Cho} {x y : Cho} (hl : mayL l = true) (h : findC l x.f0 x.f1 = some y) : putE l x = 2 ∧ putL l x = [] := by
  have hb : bsHas l x = true := by
    cases hb : bsHas l x with
    | true => rfl
    | false =>
      have := bs_find (mayL_iff.1 hl).2 x
      rw [hb, h] at this
      cases this
  unfold putE putL putOk
  rw [hb, Bool.not_true, Bool.and_false]
  exact ⟨rfl, rfl⟩
/-- how Put ends -/
def PPost (l : List Cho) (x : Cho) (w : World) (e : Ending) (w' : World) : Prop := ∃ v, e = .returned (.tuple #[v, .int .i64 (putE l x)]) ∧ Kd.R k24 24 w' w.heap.size (fun _ => True) v (putL l x) ∧ Below w.heap.size w w'
theorem PPost.no {l : List Cho} {x : Cho} {w w' : World} (h : putE l x = 2 ∧ putL l x = []) (hb : Below w.heap.size w w') : PPost l x w (.returned (.tuple #[.slice none 0 0, .int .i64 2])) w' :=
  ⟨_, by rw [h.1], by rw [h.2]; exact Kd.R_nil _ _ _ _ _, hb⟩
theorem PPost.yes {l r : List Cho} {x : Cho} {w w' : World} {v : Value} (h : putE l x = 0 ∧ r = putL l x) (hR : Kd.R k24 24 w' w.heap.size (fun _ => True) v r) (hb : Below w.heap.size w w') : PPost l x w (.returned (.tuple #[v, .int .i64 0])) w' :=
  ⟨_, by rw [h.1], by rw [← h.2]; exact hR, hb⟩
theorem less_r (x y : Cho) (W : World) : Calls Try.prog 25 #[cv x, cv y] W fun e w' => e = .returned (.bool (decide (Less x y))) ∧ Below W.heap.size W w' :=
  Qrbase.dispatcherref23_less.calls x.f0 x.f1 x.f2 x.f3 x.f4 y.f0 y.f1 y.f2 y.f3 y.f4 _ W (ref_less x y)
theorem one_r (x : Cho) (W : World) : Calls Try.prog 24 #[cv x] W fun e w' => e = .returned (.bool (oneB x)) ∧ Below W.heap.size W w' :=
  Qrbase.dispatcherref23_one.calls x.f0 x.f1 x.f2 x.f3 x.f4 _ W (ref_one x)
set_option maxHeartbeats 4000000 in
set_option maxRecDepth 100000 in
theorem dput_c (A : Option Addr) (c : Nat) (l : List Cho) (x : Cho) (w : World) (hr : Kd.C k24 w A l.length l) (hc : l.length ≤ c) (hl : l.length ≤ 1000) :
    Calls Try.prog 16 #[.slice A l.length c, cv x] w (PPost l x w) := by
  have hba := below_alloc (Below.refl w.heap.size w) (cc x)
  have HB0 := Aside0.mk hba
  have HR0 := Aside0.mk (Kd.C_below hr hba)
  have BX0 := Aside0.mk (blk_new w (cc x))
  clear hr hba
  go_enter Try.func16, Try.ntmps16
  go_upto_region 1 with fail
  change Code.wp _ _ _ _ (w.alloc (cc x))
  generalize w.alloc (cc x) = w1 at HB0 HR0 BX0 ⊢
  obtain ⟨x0, x1, x2, x3, x4⟩ := cells_c BX0.out
  have hgl := blk_lt BX0.out
  have HC := Aside0.mk (at_r A c l x.f0 x.f1 w1 HR0.out hc)
  go_wp2_with fail
  refine HC.out.mono ?_
  rintro e w2 ⟨rfl, hb⟩
  have hb2 := below_alloc hb (cc (atG (findC l x.f0 x.f1)).1)
  have HB2 := Aside0.mk (below_then HB0.out HB0.out.size hb2)
  have HR2 := Aside0.mk (Kd.C_below HR0.out hb2)
  have BX2 := Aside0.mk (blk_below BX0.out hb2)
  clear x0 x1 x2 x3 x4 hgl HC HB0 HR0 BX0 hb2
  go_upto_region 2 with fail
  change Code.wp _ _ _ _ (w2.alloc (cc (atG (findC l x.f0 x.f1)).1))
  clear hb
  generalize w2.alloc (cc (atG (findC l x.f0 x.f1)).1) = w3 at HB2 HR2 BX2 ⊢
  obtain ⟨x0, x1, x2, x3, x4⟩ := cells_c BX2.out
  have hgl := blk_lt BX2.out
  have HM := Aside0.mk (may_r A c l w3 HR2.out hc)
  cases hm : mayL l with
  | false =>
    rw [hm] at HM
    have HN := Aside0.mk (put_no_may (x := x) hm)
    clear hm
    go_wp2_with fail
    refine HM.out.mono ?_
    rintro e w4 ⟨rfl, hb⟩
    have HB4 := Aside0.mk (below_then HB2.out HB2.out.size hb)
    clear hb x0 x1 x2 x3 x4 hgl HM
    go_wp2
    go_ret2
    exact PPost.no HN.out HB4.out
  | true =>
    rw [hm] at HM
    have HMM := Aside0.mk hm
    clear hm
    go_wp2_with fail
    refine HM.out.mono ?_
    rintro e w4 ⟨rfl, hb⟩
    have HB4 := Aside0.mk (below_then HB2.out HB2.out.size hb)
    have HR4 := Aside0.mk (Kd.C_below HR2.out hb)
    have BX4 := Aside0.mk (blk_below BX2.out hb)
    clear hb x0 x1 x2 x3 x4 hgl HM HB2 HR2 BX2
    obtain ⟨x0, x1, x2, x3, x4⟩ := cells_c BX4.out
    have hgl := blk_lt BX4.out
    have HO := Aside0.mk (one_r x w4)
    cases ho : oneB x with
    | false =>
      rw [ho] at HO
      have HN := Aside0.mk (put_no_one (l := l) ho)
      clear ho
      go_wp2_with fail
      refine HO.out.mono ?_
      rintro e w5 ⟨rfl, hb⟩
      have HB5 := Aside0.mk (below_then HB4.out HB4.out.size hb)
      clear hb x0 x1 x2 x3 x4 hgl HO
      go_wp2
      go_ret2
      exact PPost.no HN.out HB5.out
    | true =>
      rw [ho] at HO
      have HOO := Aside0.mk ho
      clear ho
      go_wp2_with fail
      refine HO.out.mono ?_
      rintro e w5 ⟨rfl, hb⟩
      have HB5 := Aside0.mk (below_then HB4.out HB4.out.size hb)
      have HR5 := Aside0.mk (Kd.C_below HR4.out hb)
      have BX5 := Aside0.mk (blk_below BX4.out hb)
      clear hb x0 x1 x2 x3 x4 hgl HO HB4 HR4 BX4
      cases hf : findC l x.f0 x.f1 with
      | some y =>
        have HN := Aside0.mk (put_no_had HMM.out hf)
        have e7 : (atG (some y)).2 = true := rfl
        rw [e7]
        clear hf
        go_wp2
        go_ret2
        exact PPost.no HN.out HB5.out
      | none =>
        have HN := Aside0.mk (put_doc HMM.out HOO.out hf)
        have e7 : (atG (none : Option Cho)).2 = false := rfl
        rw [e7]
        clear hf
        go_wp2
        go_loopw [8, 9] (fun v8 vi wr => ∃ i : Nat, vi = .int .i64 (i : Int) ∧ i ≤ l.length ∧ Aside0 (Kd.R k24 24 wr w5.heap.size (fun _ => True) v8 ((l.take i).filter (fun y => decide (Less y x)))) ∧ Aside0 (Below w5.heap.size w5 wr)) (fun _ vi _ => l.length - (intOf vi).toNat)
        case atStart => exact ⟨0, rfl, by omega, ⟨by simpa using Kd.R_nil _ _ _ _ _⟩, ⟨Below.refl _ _⟩⟩
        case round =>
          obtain ⟨i, rfl, hi, HRW, HBW⟩ := hrel
          obtain ⟨W, rfl⟩ : ∃ W : World, W = wr := ⟨_, rfl⟩
          by_cases hlt : i < l.length
          · obtain ⟨ad, rfl, h0, h1, h2, h3, h4⟩ := at_T24 (Kd.C_below HR5.out HBW.out) (i : Int) (by omega) (by omega)
            rw [Int.toNat_natCast, rd_ch hlt] at h0
            rw [Int.toNat_natCast, rd_ch hlt] at h1 h2 h3 h4
            obtain ⟨x0, x1, x2, x3, x4⟩ := cells_c (blk_below BX5.out HBW.out)
            have hgl := blk_lt (blk_below BX5.out HBW.out)
            have HTK := Aside0.mk (show (l.take (i + 1)) = l.take i ++ [l[i]] from List.take_succ_eq_append_getElem hlt)
            have hrl : ((l.take i).filter (fun y => decide (Less y x))).length ≤ 2001 := by
              have h1 := List.length_filter_le (fun y => decide (Less y x)) (l.take i)
              rw [List.length_take] at h1
              try simp only [List.length_append, List.length_singleton]
              omega
            have HL40 := Aside0.mk (show (((l.take i).filter (fun y => decide (Less y x))).length + 1) * 40 ≤ 140737488355328 by omega)
            have hi64 : IntKind.i64.wrap ((i : Int) + 1) = (i : Int) + 1 := i64w (by omega) (by omega)
            generalize l[i] = y at h0 h1 h2 h3 h4 HTK
            have HLS := Aside0.mk (less_r y x W.drew)
            cases hls : decide (Less y x) with
            | true =>
              have HFL := Aside0.mk (show (l.take (i + 1)).filter (fun y => decide (Less y x)) = ((l.take i).filter (fun y => decide (Less y x))) ++ [y] by rw [HTK.out, List.filter_append]; simp [List.filter_cons, hls])
              rw [hls] at HLS
              go_wp2_with fail
              go_region_with (go_at_call 25; with_reducible refine HLS.out.mono ?_; rintro e wa ⟨rfl, hb⟩; have HBA := Aside0.mk (below_of_drew hb); clear hb)
              all_goals (
                have g0 := pw_cell_below HBA.out h0
                have g1 := pw_cell_below HBA.out h1
                have g2 := pw_cell_below HBA.out h2
                have g3 := pw_cell_below HBA.out h3
                have g4 := pw_cell_below HBA.out h4
                have HRA := Aside0.mk (Kd.R_below HRW.out HBA.out)
                have HBB := Aside0.mk (below_then HBW.out HBW.out.size HBA.out)
                clear x0 x1 x2 x3 x4 hgl hls HLS
                go_wp2_with (at_builtin; refine Kd.R_append k24 (w0 := w5) w5.heap.size rfl (.tmp 43) (.tmp 48) 22 24 (.agg #[.int .i64 0, .int .i64 0, .int .i64 0, .int .i64 0, .int .i64 0]) 40 rfl Try.underlying22 infoCh rfl (by decide) (by omega) _ ((l.take i).filter (fun y => decide (Less y x))) y [.int .i64 y.f0, .int .i64 y.f1, .int .i64 y.f2, .int .i64 y.f3, .int .i64 y.f4] (fun _ => True) (fun _ => False) rfl rfl (k24_mkM _ _ _ _) (fun _ h => h.elim) (fun _ _ => trivial) HRA.out HBB.out HBB.out.size HL40.out ?_; intro v3 w3n ho hbl hgr hat; have HRn := Aside0.mk ho; have HBn := Aside0.mk hbl; clear ho hbl hgr hat)
                exact ⟨⟨i + 1, by go_num, by omega, ⟨by rw [HFL.out]; exact HRn.out⟩, HBn⟩, by simp [intOf]; omega⟩)
            | false =>
              have HFL := Aside0.mk (show (l.take (i + 1)).filter (fun y => decide (Less y x)) = ((l.take i).filter (fun y => decide (Less y x))) by rw [HTK.out, List.filter_append]; simp [List.filter_cons, hls])
              rw [hls] at HLS
              go_wp2_with fail
              go_region_with (go_at_call 25; with_reducible refine HLS.out.mono ?_; rintro e wa ⟨rfl, hb⟩; have HBA := Aside0.mk (below_of_drew hb); clear hb)
              all_goals (
                have HRA := Aside0.mk (Kd.R_below HRW.out HBA.out)
                have HBB := Aside0.mk (below_then HBW.out HBW.out.size HBA.out)
                clear h0 h1 h2 h3 h4 x0 x1 x2 x3 x4 hgl hls HLS
                go_wp2
                exact ⟨⟨i + 1, by go_num, by omega, ⟨by rw [HFL.out]; exact HRA.out⟩, HBB⟩, by simp [intOf]; omega⟩)
          · obtain rfl : i = l.length := by omega
            rw [List.take_length] at HRW
            obtain ⟨x0, x1, x2, x3, x4⟩ := cells_c (blk_below BX5.out HBW.out)
            have hgl := blk_lt (blk_below BX5.out HBW.out)
            have hrl : (l.filter (fun y => decide (Less y x))).length ≤ 1000 := by
              have := List.length_filter_le (fun y => decide (Less y x)) l
              omega
            have HL40 := Aside0.mk (show ((l.filter (fun y => decide (Less y x))).length + 1) * 40 ≤ 140737488355328 by omega)
            go_wp2_with (at_builtin; refine Kd.R_append k24 (w0 := w5) w5.heap.size rfl (.tmp 50) (.tmp 52) 22 24 (.agg #[.int .i64 0, .int .i64 0, .int .i64 0, .int .i64 0, .int .i64 0]) 40 rfl Try.underlying22 infoCh rfl (by decide) (by omega) _ (l.filter (fun y => decide (Less y x))) x [.int .i64 x.f0, .int .i64 x.f1, .int .i64 x.f2, .int .i64 x.f3, .int .i64 x.f4] (fun _ => True) (fun _ => False) rfl rfl (k24_mkM _ _ _ _) (fun _ h => h.elim) (fun _ _ => trivial) HRW.out HBW.out HBW.out.size HL40.out ?_; intro v3 w6 ho hbl hgr hat; have HRn := Aside0.mk ho; have HBn := Aside0.mk hbl; clear ho hbl hgr hat)
            go_loopw [8, 10] (fun v8 vi wr => ∃ i : Nat, vi = .int .i64 (i : Int) ∧ i ≤ l.length ∧ Aside0 (Kd.R k24 24 wr w5.heap.size (fun _ => True) v8 (l.filter (fun y => decide (Less y x)) ++ [x] ++ (l.take i).filter (fun y => decide (Less x y)))) ∧ Aside0 (Below w5.heap.size w5 wr)) (fun _ vi _ => l.length - (intOf vi).toNat)
            case atStart => exact ⟨0, rfl, by omega, ⟨by simpa using HRn.out⟩, HBn⟩
            case round =>
              obtain ⟨i, rfl, hi, HRW, HBW⟩ := hrel
              obtain ⟨W, rfl⟩ : ∃ W : World, W = wr := ⟨_, rfl⟩
              by_cases hlt : i < l.length
              · obtain ⟨ad, rfl, h0, h1, h2, h3, h4⟩ := at_T24 (Kd.C_below HR5.out HBW.out) (i : Int) (by omega) (by omega)
                rw [Int.toNat_natCast, rd_ch hlt] at h0
                rw [Int.toNat_natCast, rd_ch hlt] at h1 h2 h3 h4
                obtain ⟨x0, x1, x2, x3, x4⟩ := cells_c (blk_below BX5.out HBW.out)
                have hgl := blk_lt (blk_below BX5.out HBW.out)
                have HTK := Aside0.mk (show (l.take (i + 1)) = l.take i ++ [l[i]] from List.take_succ_eq_append_getElem hlt)
                have hrl : (l.filter (fun y => decide (Less y x)) ++ [x] ++ (l.take i).filter (fun y => decide (Less x y))).length ≤ 2001 := by
                  have h1 := List.length_filter_le (fun y => decide (Less x y)) (l.take i)
                  rw [List.length_take] at h1
                  try simp only [List.length_append, List.length_singleton]
                  have h2 := List.length_filter_le (fun y => decide (Less y x)) l
                  omega
                have HL40 := Aside0.mk (show ((l.filter (fun y => decide (Less y x)) ++ [x] ++ (l.take i).filter (fun y => decide (Less x y))).length + 1) * 40 ≤ 140737488355328 by omega)
                have hi64 : IntKind.i64.wrap ((i : Int) + 1) = (i : Int) + 1 := i64w (by omega) (by omega)
                generalize l[i] = y at h0 h1 h2 h3 h4 HTK
                have HLS := Aside0.mk (less_r x y W.drew)
                cases hls : decide (Less x y) with
                | true =>
                  have HFL := Aside0.mk (show l.filter (fun y => decide (Less y x)) ++ [x] ++ (l.take (i + 1)).filter (fun y => decide (Less x y)) = (l.filter (fun y => decide (Less y x)) ++ [x] ++ (l.take i).filter (fun y => decide (Less x y))) ++ [y] by rw [HTK.out, List.filter_append]; simp [List.filter_cons, hls])
                  rw [hls] at HLS
                  go_wp2_with fail
                  go_region_with (go_at_call 25; with_reducible refine HLS.out.mono ?_; rintro e wa ⟨rfl, hb⟩; have HBA := Aside0.mk (below_of_drew hb); clear hb)
                  all_goals (
                    have g0 := pw_cell_below HBA.out h0
                    have g1 := pw_cell_below HBA.out h1
                    have g2 := pw_cell_below HBA.out h2
                    have g3 := pw_cell_below HBA.out h3
                    have g4 := pw_cell_below HBA.out h4
                    have HRA := Aside0.mk (Kd.R_below HRW.out HBA.out)
                    have HBB := Aside0.mk (below_then HBW.out HBW.out.size HBA.out)
                    clear x0 x1 x2 x3 x4 hgl hls HLS
                    go_wp2_with (at_builtin; refine Kd.R_append k24 (w0 := w5) w5.heap.size rfl (.tmp 66) (.tmp 71) 22 24 (.agg #[.int .i64 0, .int .i64 0, .int .i64 0, .int .i64 0, .int .i64 0]) 40 rfl Try.underlying22 infoCh rfl (by decide) (by omega) _ (l.filter (fun y => decide (Less y x)) ++ [x] ++ (l.take i).filter (fun y => decide (Less x y))) y [.int .i64 y.f0, .int .i64 y.f1, .int .i64 y.f2, .int .i64 y.f3, .int .i64 y.f4] (fun _ => True) (fun _ => False) rfl rfl (k24_mkM _ _ _ _) (fun _ h => h.elim) (fun _ _ => trivial) HRA.out HBB.out HBB.out.size HL40.out ?_; intro v3 w3n ho hbl hgr hat; have HRn := Aside0.mk ho; have HBn := Aside0.mk hbl; clear ho hbl hgr hat)
                    exact ⟨⟨i + 1, by go_num, by omega, ⟨by rw [HFL.out]; exact HRn.out⟩, HBn⟩, by simp [intOf]; omega⟩)
                | false =>
                  have HFL := Aside0.mk (show l.filter (fun y => decide (Less y x)) ++ [x] ++ (l.take (i + 1)).filter (fun y => decide (Less x y)) = (l.filter (fun y => decide (Less y x)) ++ [x] ++ (l.take i).filter (fun y => decide (Less x y))) by rw [HTK.out, List.filter_append]; simp [List.filter_cons, hls])
                  rw [hls] at HLS
                  go_wp2_with fail
                  go_region_with (go_at_call 25; with_reducible refine HLS.out.mono ?_; rintro e wa ⟨rfl, hb⟩; have HBA := Aside0.mk (below_of_drew hb); clear hb)
                  all_goals (
                    have HRA := Aside0.mk (Kd.R_below HRW.out HBA.out)
                    have HBB := Aside0.mk (below_then HBW.out HBW.out.size HBA.out)
                    clear h0 h1 h2 h3 h4 x0 x1 x2 x3 x4 hgl hls HLS
                    go_wp2
                    exact ⟨⟨i + 1, by go_num, by omega, ⟨by rw [HFL.out]; exact HRA.out⟩, HBB⟩, by simp [intOf]; omega⟩)
              · obtain rfl : i = l.length := by omega
                rw [List.take_length] at HRW
                go_wp2
                go_ret2
                exact PPost.yes HN.out (Kd.R_lower HRW.out HB5.out.size) (below_then HB5.out HB5.out.size HBW.out)
end Go.Proofs.Ytpkcnifchggbnaa.HI

namespace Go.Proofs.Ytpkcnifchggbnaa.HI
open Go.RowKit Go.Proofs.Ytpkcnifchggbnaa.HD Go.Proofs.Ytpkcnifchggbnaa.HK Go.Proofs.Ytpkcnifchggbnaa.HU Go.Proofs.YtpkcnifchggbnaaW.PrintWords Go.Proofs.YtpkcnifchggbnaaW.PrintLast Go.Proofs.YtpkcnifchggbnaaW.PrintMore
set_option linter.unusedVariables false
set_option linter.unusedSimpArgs false
theorem joined_may {a b r : List Cho} {k : Nat} (h : agreeB a b = true) (hj : Joined a (b.take k) r) : mayL r = true := by
  obtain ⟨ha, hb, hab⟩ := agree_iff.1 h
  refine mayL_iff.2 ⟨fun x hx => ?_, hj.rise⟩
  rcases (hj.mem x).1 hx with hx | hx
  · exact (mayL_iff.1 ha).1 x hx
  · exact (mayL_iff.1 hb).1 x (List.mem_of_mem_take hx)
theorem joined_had {a b r : List Cho} {k : Nat} {y z : Cho} (h : agreeB a b = true) (hj : Joined a (b.take k) r) (hy : b.take (k + 1) = b.take k ++ [y]) (hf : findC r y.f0 y.f1 = some z) : Joined a (b.take (k + 1)) r := by
  obtain ⟨ha, hb, hab⟩ := agree_iff.1 h
  obtain ⟨h1, h2, h3⟩ := findC_some hf
  have hyb : y ∈ b := List.mem_of_mem_take (i := k + 1) (by rw [hy]; simp)
  have hzy : z = y := by
    rcases (hj.mem z).1 h1 with hz | hz
    · exact hab z hz y hyb ⟨h2, h3⟩
    · exact sorted_one (mayL_iff.1 hb).2 (List.mem_of_mem_take hz) hyb ⟨h2, h3⟩
  subst hzy
  refine ⟨hj.rise, fun x => ?_⟩
  rw [hy, List.mem_append, List.mem_singleton, hj.mem]
  constructor
  · rintro (h | h)
    · exact .inl h
    · exact .inr (.inl h)
  · rintro (h | h | rfl)
    · exact .inl h
    · exact .inr h
    · exact (hj.mem _).1 h1
theorem joined_put {a b r : List Cho} {k : Nat} {y : Cho} (h : agreeB a b = true) (hj : Joined a (b.take k) r) (hy : b.take (k + 1) = b.take k ++ [y]) (hf : findC r y.f0 y.f1 = none) : putE r y = 0 ∧ Joined a (b.take (k + 1)) (putL r y) ∧ (putL r y).length = r.length + 1 := by
  obtain ⟨ha, hb, hab⟩ := agree_iff.1 h
  have hyb : y ∈ b := List.mem_of_mem_take (i := k + 1) (by rw [hy]; simp)
  obtain ⟨h1, h2, h3⟩ := put_new (joined_may h hj) ((mayL_iff.1 hb).1 y hyb) (find_none hf)
  refine ⟨h1, ⟨(mayL_iff.1 h2).2, fun x => ?_⟩, by rw [h3.length_eq, List.length_cons]⟩
  rw [h3.mem_iff, hy, List.mem_cons, List.mem_append, List.mem_singleton, hj.mem]
  constructor
  · rintro (h | h | h)
    · exact .inr (.inr h)
    · exact .inl h
    · exact .inr (.inl h)
  · rintro (h | h | h)
    · exact .inr (.inl h)
    · exact .inr (.inr h)
    · exact .inl h
theorem joined_zero {a : List Cho} (b : List Cho) (ha : mayL a = true) : Joined a (b.take 0) a :=
  ⟨(mayL_iff.1 ha).2, fun x => by simp⟩
theorem R_emptyC (w : World) : Kd.R k24 24 (w.alloc (.cells #[] 24 (0, 0))) w.heap.size (fun _ => True) (.slice (some ⟨w.heap.size, 0, none⟩) 0 0) [] :=
  R_empty_at k24 (blk_new w _) (Nat.le_refl _) trivial
attribute [local go_sem high] Qsbase.eqA24
set_option maxHeartbeats 4000000 in
set_option maxRecDepth 100000 in
theorem djoin_c (A0 : Option Addr) (c0 : Nat) (a : List Cho) (A1 : Option Addr) (c1 : Nat) (b : List Cho) (w : World) (h0 : Kd.C k24 w A0 a.length a) (hc0 : a.length ≤ c0) (h1 : Kd.C k24 w A1 b.length b) (hc1 : b.length ≤ c1) (hl0 : a.length ≤ 500) (hl1 : b.length ≤ 500) :
    Calls Try.prog 15 #[.slice A0 a.length c0, .slice A1 b.length c1] w (JPost a b w) := by
  have HA := Aside0.mk h0
  have HB := Aside0.mk h1
  have HAG := Aside0.mk (agree_r A0 c0 a A1 c1 b w h0 hc0 h1 hc1)
  clear h0 h1
  cases hag : agreeB a b with
  | false =>
    rw [hag] at HAG
    have HG := Aside0.mk hag
    clear hag
    go_enter Try.func15, Try.ntmps15
    go_wp2_with fail
    refine HAG.out.mono ?_
    rintro e w1 ⟨rfl, hb⟩
    go_wp2
    go_ret2
    exact JPost.no HG.out hb
  | true =>
    rw [hag] at HAG
    have HG := Aside0.mk hag
    clear hag
    go_enter Try.func15, Try.ntmps15
    go_wp2_with fail
    refine HAG.out.mono ?_
    rintro e w1 ⟨rfl, hb⟩
    have HB1 := Aside0.mk hb
    have HA1 := Aside0.mk (Kd.C_below HA.out hb)
    have HR1 := Aside0.mk (Kd.C_below HB.out hb)
    have HL40 := Aside0.mk (show (([] : List Cho).length + a.length) * 40 ≤ 140737488355328 by simp; omega)
    have hu := Try.underlying24
    clear hb HAG HA HB
    go_wp2_with (at_builtin; refine Kd.R_append_rows k24 (w0 := w1) w1.heap.size rfl (.tmp 14) (.tmp 15) 22 24 (.agg #[.int .i64 0, .int .i64 0, .int .i64 0, .int .i64 0, .int .i64 0]) 40 rfl Try.underlying22 infoCh rfl (by decide) (by decide) _ [] a _ _ _ (fun _ => True) (fun _ => False) rfl rfl (R_emptyC w1) (Kd.C_alloc HA1.out _) (fun x cs h => by obtain rfl := k24_open h; exact k24_mkM _ _ _ x) (fun _ h => h.elim) (fun _ _ => trivial) (below_alloc (Below.refl _ _) _) (by simp) HL40.out ?_; intro v3 w2 ho hbl hgr hat; rw [List.nil_append] at ho; have HR2 := Aside0.mk ho; have HB2 := Aside0.mk hbl; clear ho hbl hgr hat)
    go_loopw [6, 7] (fun v6 vi wr => ∃ (i : Nat) (out : List Cho), vi = .int .i64 (i : Int) ∧ i ≤ b.length ∧ Aside0 (Kd.R k24 24 wr w1.heap.size (fun _ => True) v6 out) ∧ Aside0 (Joined a (b.take i) out) ∧ Aside0 (out.length ≤ a.length + i) ∧ Aside0 (Below w1.heap.size w1 wr)) (fun _ vi _ => b.length - (intOf vi).toNat)
    case atStart => exact ⟨0, a, rfl, by omega, HR2, ⟨joined_zero b (agree_iff.1 HG.out).1⟩, ⟨by omega⟩, HB2⟩
    case round =>
      obtain ⟨i, out, rfl, hi, HRW, HJ, HL, HBW⟩ := hrel
      by_cases hlt : i < b.length
      · obtain ⟨ad, rfl, h0, h1, h2, h3, h4⟩ := at_T24 (Kd.C_below HR1.out HBW.out) (i : Int) (by omega) (by omega)
        rw [Int.toNat_natCast, rd_ch hlt] at h0
        rw [Int.toNat_natCast, rd_ch hlt] at h1 h2 h3 h4
        have HTK := Aside0.mk (show (b.take (i + 1)) = b.take i ++ [b[i]] from List.take_succ_eq_append_getElem hlt)
        generalize b[i] = x at h0 h1 h2 h3 h4 HTK
        obtain ⟨Au, cu, hu6, hcu, hCu⟩ := Kd.R_reads HRW.out
        subst hu6
        have hol := HL.out
        have HRB := Aside0.mk hCu
        clear hCu
        go_wp2_with fail
        have HRB2 := Aside0.mk (Kd.C_below HRB.out (HU.below_drew1 (below_alloc (Below.refl wr.heap.size wr) (.cells #[.int .i64 0, .int .i64 0, .int .i64 0, .int .i64 0, .int .i64 0] 24))))
        go_region_held3 (fun W => W.cell? (ad.add (i * 5)) = some (.int .i64 x.f0) ∧ W.cell? ⟨(ad.add (i * 5)).block, (ad.add (i * 5)).off + 1, none⟩ = some (.int .i64 x.f1))
          (first | go_keep | (refine ⟨?_, ?_⟩ <;> with_reducible exact HD.keep_call hb (by assumption)) | (refine ⟨?_, ?_⟩ <;> with_reducible exact HD.keep_alloc hb _ (by assumption)) | (refine ⟨?_, ?_⟩ <;> with_reducible exact HD.keep_call2 hb (by assumption)) | (refine ⟨?_, ?_⟩ <;> with_reducible exact HD.keep_sets hb _ _ _ _ _ (by assumption)))
          (first | (go_at_call 6; refine (at_r Au cu out x.f0 x.f1 wr.drew HRB.out hcu).mono ?_; rintro e w' ⟨rfl, hb⟩) | (go_at_call 6; refine (at_r Au cu out x.f0 x.f1 _ HRB2.out hcu).mono ?_; rintro e w' ⟨rfl, hb⟩; have z := HD.keep_blk hb; have z0 := (blk_cell z 0).trans rfl; have z1 := (blk_cell z 1).trans rfl; have z2 := (blk_cell z 2).trans rfl; have z3 := (blk_cell z 3).trans rfl; have z4 := (blk_cell z 4).trans rfl; have y0 := blk_frozen z 0; have y1 := blk_frozen z 1; have y2 := blk_frozen z 2; have y3 := blk_frozen z 3; have y4 := blk_frozen z 4))
        · have hb3 : Below wr.heap.size wr (w'.alloc (cc (atG (findC out x.f0 x.f1)).1)) := below_alloc (below_then (HU.below_drew1 (Below.refl wr.heap.size wr)) (Nat.le_refl _) hb) _
          clear HRB2 hb
          generalize w'.alloc (cc (atG (findC out x.f0 x.f1)).1) = W3 at hb3 ⊢
          generalize w'.heap.size = g
          have HB3 := Aside0.mk (below_then HBW.out HBW.out.size hb3)
          have HO3 := Aside0.mk (Kd.R_below HRW.out hb3)
          have g0 := pw_cell_below hb3 h0
          have g1 := pw_cell_below hb3 h1
          have g2 := pw_cell_below hb3 h2
          have g3 := pw_cell_below hb3 h3
          have g4 := pw_cell_below hb3 h4
          clear h0 h1 h2 h3 h4 HBW HRW
          cases hf : findC out x.f0 x.f1 with
          | some y =>
            have HJ2 := Aside0.mk (joined_had HG.out HJ.out HTK.out hf)
            have e7 : (atG (some y)).2 = true := rfl
            rw [e7]
            clear hf
            have HB3' := HB3
            go_wp2
            exact ⟨⟨i + 1, out, by go_num, by omega, HO3, HJ2, ⟨by have := HL.out; omega⟩, HB3⟩, by simp [intOf]; omega⟩
          | none =>
            have HJ2 := Aside0.mk (joined_put HG.out HJ.out HTK.out hf)
            have e7 : (atG (none : Option Cho)).2 = false := rfl
            rw [e7]
            clear hf
            have HC := Aside0.mk (dput_c Au cu out x W3 (Kd.C_below HRB.out hb3) hcu (by have := HL.out; omega))
            go_wp2_with fail
            refine HC.out.mono ?_
            rintro e w4 ⟨v, rfl, hR, hb⟩
            have HO4 := Aside0.mk (Kd.R_lower hR HB3.out.size)
            have HB4 := Aside0.mk (below_then HB3.out HB3.out.size hb)
            clear hR hb HC
            go_wp2
            exact ⟨⟨i + 1, _, by go_num, by omega, HO4, ⟨HJ2.out.2.1⟩, ⟨by rw [HJ2.out.2.2]; have := HL.out; omega⟩, HB4⟩, by simp [intOf]; omega⟩
        · have hb3 := below5 (below_then (w1 := (wr.alloc (.cells #[.int .i64 0, .int .i64 0, .int .i64 0, .int .i64 0, .int .i64 0] 24)).drew) (below_alloc (Below.refl wr.heap.size wr) (.cells #[.int .i64 0, .int .i64 0, .int .i64 0, .int .i64 0, .int .i64 0] 24)).drew (by simp) hb) (Nat.le_refl _) (.int .i64 (atG (findC out x.f0 x.f1)).1.f0) (.int .i64 (atG (findC out x.f0 x.f1)).1.f1) (.int .i64 (atG (findC out x.f0 x.f1)).1.f2) (.int .i64 (atG (findC out x.f0 x.f1)).1.f3) (.int .i64 (atG (findC out x.f0 x.f1)).1.f4)
          clear HRB2 hb z z0 z1 z2 z3 z4 y0 y1 y2 y3 y4
          generalize (((((w'.setCell ⟨wr.heap.size, 0, none⟩ (.int .i64 (atG (findC out x.f0 x.f1)).1.f0)).setCell ⟨wr.heap.size, 1, none⟩ (.int .i64 (atG (findC out x.f0 x.f1)).1.f1)).setCell ⟨wr.heap.size, 2, none⟩ (.int .i64 (atG (findC out x.f0 x.f1)).1.f2)).setCell ⟨wr.heap.size, 3, none⟩ (.int .i64 (atG (findC out x.f0 x.f1)).1.f3)).setCell ⟨wr.heap.size, 4, none⟩ (.int .i64 (atG (findC out x.f0 x.f1)).1.f4)) = W3 at hb3 ⊢
          have HB3 := Aside0.mk (below_then HBW.out HBW.out.size hb3)
          have HO3 := Aside0.mk (Kd.R_below HRW.out hb3)
          have g0 := pw_cell_below hb3 h0
          have g1 := pw_cell_below hb3 h1
          have g2 := pw_cell_below hb3 h2
          have g3 := pw_cell_below hb3 h3
          have g4 := pw_cell_below hb3 h4
          clear h0 h1 h2 h3 h4 HBW HRW
          cases hf : findC out x.f0 x.f1 with
          | some y =>
            have HJ2 := Aside0.mk (joined_had HG.out HJ.out HTK.out hf)
            have e7 : (atG (some y)).2 = true := rfl
            rw [e7]
            clear hf
            have HB3' := HB3
            go_wp2
            exact ⟨⟨i + 1, out, by go_num, by omega, HO3, HJ2, ⟨by have := HL.out; omega⟩, HB3⟩, by simp [intOf]; omega⟩
          | none =>
            have HJ2 := Aside0.mk (joined_put HG.out HJ.out HTK.out hf)
            have e7 : (atG (none : Option Cho)).2 = false := rfl
            rw [e7]
            clear hf
            have HC := Aside0.mk (dput_c Au cu out x W3 (Kd.C_below HRB.out hb3) hcu (by have := HL.out; omega))
            go_wp2_with fail
            refine HC.out.mono ?_
            rintro e w4 ⟨v, rfl, hR, hb⟩
            have HO4 := Aside0.mk (Kd.R_lower hR HB3.out.size)
            have HB4 := Aside0.mk (below_then HB3.out HB3.out.size hb)
            clear hR hb HC
            go_wp2
            exact ⟨⟨i + 1, _, by go_num, by omega, HO4, ⟨HJ2.out.2.1⟩, ⟨by rw [HJ2.out.2.2]; have := HL.out; omega⟩, HB4⟩, by simp [intOf]; omega⟩
      · obtain rfl : i = b.length := by omega
        rw [List.take_length] at HJ
        go_wp2
        go_ret2
        exact JPost.yes HG.out (Kd.R_lower HRW.out HB1.out.size) (below_then HB1.out HB1.out.size HBW.out) HJ.out HL.out
end Go.Proofs.Ytpkcnifchggbnaa.HI

namespace Go.Proofs.Ytpkcnifchggbnaa.HI
open Go.RowKit Go.Proofs.Ytpkcnifchggbnaa.HD Go.Proofs.Ytpkcnifchggbnaa.HK Go.Proofs.Ytpkcnifchggbnaa.HU Go.Proofs.YtpkcnifchggbnaaW.PrintWords Go.Proofs.YtpkcnifchggbnaaW.PrintLast Go.Proofs.YtpkcnifchggbnaaW.PrintMore
set_option linter.unusedVariables false
set_option linter.unusedSimpArgs false
/-- a row that may be written: its cells are there -/
def Ws (W : World) (A : Option Addr) (n : Nat) : Prop := n = 0 ∨ ∃ b cs, A = some ⟨b, 0, none⟩ ∧ W.heap[b]? = some (.cells cs 24 (0, 0)) ∧ n * 5 ≤ cs.size
theorem ws_of_R {W : World} {base n c : Nat} {ok : Nat → Prop} {A : Option Addr} {xs : List Cho} (h : Kd.R k24 24 W base ok (.slice A n c) xs) : Ws W A n := by
  obtain ⟨_, inner, ⟨hl, hor⟩, _⟩ := h
  rcases hor with ⟨he, hn⟩ | ⟨g, cap, cur, he, hb, hh, h1, h2, h3, h4⟩
  · injection he with e1 e2 e3
    exact .inl e2
  · injection he with e1 e2 e3
    refine .inr ⟨g, cur, e1, hh, ?_⟩
    rw [h3, e2]
    exact Nat.mul_le_mul_right 5 h1
theorem ws_set {W : World} {A : Option Addr} {n : Nat} (h : Ws W A n) (p : Addr) (hp : p.spot = none) (u : Value) : Ws (W.setCell p u) A n := by
  rcases h with h | ⟨b, cs, hA, hb, hl⟩
  · exact .inl h
  · by_cases hp : b = p.block
    · obtain ⟨pb, po, pp⟩ := p
      subst hp
      obtain rfl : pp = none := by assumption
      exact .inr ⟨b, _, hA, blk_set hb po u, by simpa using hl⟩
    · exact .inr ⟨b, cs, hA, blk_far hb hp u, hl⟩
theorem ws_below {W W' : World} {A : Option Addr} {n : Nat} (h : Ws W A n) (hb : Below W.heap.size W W') : Ws W' A n := by
  rcases h with h | ⟨b, cs, hA, hk, hl⟩
  · exact .inl h
  · exact .inr ⟨b, cs, hA, blk_below hk hb, hl⟩
theorem ws_cell {W : World} {A : Option Addr} {n j : Nat} (h : Ws W A n) (hj : j < n) : ∃ ad v, A = some ad ∧ W.cell? (ad.add (j * 5)) = some v ∧ W.frozen? (ad.add (j * 5)) = false ∧ (ad.add (j * 5)).spot = none ∧ (ad.add (j * 5)).block = ad.block := by
  rcases h with h | ⟨b, cs, hA, hk, hl⟩
  · omega
  · refine ⟨⟨b, 0, none⟩, cs[j * 5]'(by omega), hA, ?_, ?_, by rw [add_plain], by rw [add_plain]⟩
    · rw [add_plain, blk_cell hk]
      exact Array.getElem?_eq_getElem _
    · rw [add_plain]
      exact blk_frozen hk _
theorem own_of_R {W : World} {base : Nat} {ok : Nat → Prop} {v : Value} {xs : List Cho} (h : Kd.R k24 24 W base ok v xs) : ∀ k, some k = v.ownBlock → base ≤ k ∧ k < W.heap.size := fun k hk => by
  obtain ⟨h1, _, h3, _⟩ := (Kd.R_bound h).1 k hk.symm
  have h2 := (Kd.R_bound h).1 k hk.symm
  exact ⟨h2.2.1, h2.2.2.1⟩
theorem jpost_same {a b r s : List Cho} (h1 : agreeB a b = true → Joined a b r ∧ r.length ≤ a.length + b.length) (h2 : agreeB a b = false → r = []) (h3 : agreeB a b = true → Joined a b s ∧ s.length ≤ a.length + b.length) (h4 : agreeB a b = false → s = []) : s = r := by
  cases h : agreeB a b with
  | false => rw [h2 h, h4 h]
  | true => exact mem_same (h3 h).1.rise (h1 h).1.rise fun x => ((h3 h).1.mem x).trans ((h1 h).1.mem x).symm
theorem jpost_len {a b r : List Cho} (h1 : agreeB a b = true → Joined a b r ∧ r.length ≤ a.length + b.length) (h2 : agreeB a b = false → r = []) : r.length ≤ a.length + b.length := by
  cases h : agreeB a b with
  | false => rw [h2 h]; simp
  | true => exact (h1 h).2
theorem room_cell {W : World} {ad : Addr} {a : List Cho} {z : Cho} (h : Kd.C k24 W (some ad) (a ++ [z]).length (a ++ [z])) : W.cell? (ad.add (a.length * 5)) = some (.int .i64 z.f0) := by
  obtain ⟨ad', he, h0, _⟩ := at_T24 h (a.length : Int) (by omega) (by rw [List.length_append, List.length_singleton]; omega)
  rw [Int.toNat_natCast, rd_ch (by simp)] at h0
  obtain rfl := Option.some.inj he
  simpa using h0
theorem room_c {W : World} {A : Option Addr} {a : List Cho} {z : Cho} (h : Kd.C k24 W A (a ++ [z]).length (a ++ [z])) : Kd.C k24 W A a.length a := by
  have := Kd.C_take h (m := a.length) (by simp)
  rwa [List.take_left] at this
theorem room_kept {w8 w9 w12 : World} {ad : Addr} {cr b0 b6 : Nat} {a : List Cho} {z : Cho} {vl vm : Value} {ok : Nat → Prop} (h : Kd.R k24 24 w8 b6 (fun k => ok k ∧ b6 ≤ k ∧ k < w8.heap.size ∧ ∃ q, q ∈ 24 :: k24.E ∧ ∃ cells, w8.heap[k]? = some (.cells cells q (0, 0))) (.slice (some ad) (a ++ [z]).length cr) (a ++ [z]))
    (hl : ∀ k, some k = vl.ownBlock → b0 ≤ k ∧ k < b6) (hm : ∀ k, some k = vm.ownBlock → w8.heap.size ≤ k ∧ k < w9.heap.size) (hb : Below w8.heap.size w8 w12) : ∀ W', Kept w12 W' (fun k => some k = vl.ownBlock ∨ some k = vm.ownBlock) → Kd.C k24 W' (some ad) a.length a := fun W' hk => by
  refine room_c (z := z) (Kd.C_kept_own (S := fun k => some k = vl.ownBlock ∨ some k = vm.ownBlock) h (fun k hk hs => ?_) W' ((Kept.of_below hb _).then_ hk (fun k hk => .inl hk)))
  have h1 := hk.2.1
  have h2 := hk.2.2.1
  rcases hs with hs | hs
  · have := (hl k hs).2
    omega
  · have := (hm k hs).1
    omega
def z77 : Cho := ⟨77, 0, 0, 0, 0⟩
/-- what the two turns find -/
structure Old (a b r p : List Cho) (A0 A1 Ax Ay Aw Ap : Option Addr) (w : World) : Prop where
  a0 : ∀ W', Below w.heap.size w W' → Kd.C k24 W' A0 a.length a
  a1 : ∀ W', Below w.heap.size w W' → Kd.C k24 W' A1 b.length b
  x : ∀ W', Below w.heap.size w W' → Kd.C k24 W' Ax a.length a
  y : ∀ W', Below w.heap.size w W' → Kd.C k24 W' Ay b.length b
  wt : ∀ W', Below w.heap.size w W' → Kd.C k24 W' Aw r.length r
  p : ∀ W', Below w.heap.size w W' → Kd.C k24 W' Ap p.length p
set_option maxHeartbeats 8000000 in
set_option maxRecDepth 100000 in
theorem signJoins_c (A0 : Option Addr) (c0 : Nat) (a : List Cho) (A1 : Option Addr) (c1 : Nat) (b : List Cho) (x : Cho) (w : World) (h0 : Kd.C k24 w A0 a.length a) (hc0 : a.length ≤ c0) (h1 : Kd.C k24 w A1 b.length b) (hc1 : b.length ≤ c1) :
    Calls Try.prog 4 #[.slice A0 a.length c0, .slice A1 b.length c1, cv x] w fun e w' => e = .returned (.bool true) ∧ Below w.heap.size w w' := by
  have hm0 := Kd.C_max h0
  have hm1 := Kd.C_max h1
  have hba := below_alloc (Below.refl w.heap.size w) (cc x)
  have HB1 := Aside0.mk hba
  have HA1 := Aside0.mk (Kd.C_below h0 hba)
  have HC1 := Aside0.mk (Kd.C_below h1 hba)
  have BX1 := Aside0.mk (blk_new w (cc x))
  clear h0 h1 hba
  go_enter Try.func4, Try.ntmps4
  go_upto_region 1 with fail
  change Code.wp _ _ _ _ (w.alloc (cc x))
  generalize w.alloc (cc x) = w1 at HB1 HA1 HC1 BX1 ⊢
  by_cases ha : a.length ≤ 200
  rotate_left
  · have ha' : (200 : Int) < (a.length : Int) := by omega
    clear ha
    go_wp2
    go_ret
    exact ⟨rfl, HB1.out⟩
  by_cases hb : b.length ≤ 200
  rotate_left
  · have ha' : ¬ ((200 : Int) < (a.length : Int)) := by omega
    have hb' : (200 : Int) < (b.length : Int) := by omega
    clear ha hb
    go_wp2
    go_ret
    exact ⟨rfl, HB1.out⟩
  have ha' : ¬ ((200 : Int) < (a.length : Int)) := by omega
  have hb' : ¬ ((200 : Int) < (b.length : Int)) := by omega
  have HLA := Aside0.mk (show (([] : List Cho).length + a.length) * 40 ≤ 140737488355328 by simp; omega)
  have HLB := Aside0.mk (show (([] : List Cho).length + b.length) * 40 ≤ 140737488355328 by simp; omega)
  go_wp2_with (first
    | (at_builtin; refine Kd.R_append_rows k24 (w0 := w1) w1.heap.size rfl (.tmp 29) (.tmp 30) 22 24 (.agg #[.int .i64 0, .int .i64 0, .int .i64 0, .int .i64 0, .int .i64 0]) 40 rfl Try.underlying22 infoCh rfl (by decide) (by decide) _ [] a _ _ _ (fun _ => True) (fun _ => False) rfl rfl (R_emptyC w1) (Kd.C_alloc HA1.out _) (fun x cs h => by obtain rfl := k24_open h; exact k24_mkM _ _ _ x) (fun _ h => h.elim) (fun _ _ => trivial) (below_alloc (Below.refl _ _) _) (by simp) HLA.out ?_; intro v2 w2 ho hbl hgr hat; rw [List.nil_append] at ho; obtain ⟨Ax, cx, rfl, hcx, hCx⟩ := Kd.R_reads ho; have HX2 := Aside0.mk hCx; have HB2 := Aside0.mk hbl; have HC2 := Aside0.mk (Kd.C_below HC1.out hbl); clear ho hbl hgr hat hCx)
    | (at_builtin; refine Kd.R_append_rows k24 (w0 := w2) w2.heap.size rfl (.tmp 32) (.tmp 33) 22 24 (.agg #[.int .i64 0, .int .i64 0, .int .i64 0, .int .i64 0, .int .i64 0]) 40 rfl Try.underlying22 infoCh rfl (by decide) (by decide) _ [] b _ _ _ (fun _ => True) (fun _ => False) rfl rfl (R_emptyC w2) (Kd.C_alloc HC2.out _) (fun x cs h => by obtain rfl := k24_open h; exact k24_mkM _ _ _ x) (fun _ h => h.elim) (fun _ _ => trivial) (below_alloc (Below.refl _ _) _) (by simp) HLB.out ?_; intro v3 w3 ho hbl hgr hat; rw [List.nil_append] at ho; obtain ⟨Ay, cy, rfl, hcy, hCy⟩ := Kd.R_reads ho; have HY3 := Aside0.mk hCy; have HB3 := Aside0.mk hbl; clear ho hbl hgr hat hCy))
  have HB13 := Aside0.mk (below_then HB2.out HB2.out.size HB3.out)
  have HC := Aside0.mk (djoin_c A0 c0 a A1 c1 b w3 (Kd.C_below HA1.out HB13.out) hc0 (Kd.C_below HC1.out HB13.out) hc1 (by omega) (by omega))
  refine HC.out.mono ?_
  rintro e w4 ⟨v4, r, rfl, hR, hb4, hyes, hno⟩
  obtain ⟨Aw, cw, rfl, hcw, hCw⟩ := Kd.R_reads hR
  generalize hej : (if agreeB a b = true then (0 : Int) else 2) = ej
  have HEJ := Aside0.mk hej
  clear hej
  have HJ1 := Aside0.mk hyes
  have HJ2 := Aside0.mk hno
  have HB14 := Aside0.mk (below_then HB13.out HB13.out.size hb4)
  have HB34 := Aside0.mk hb4
  have HW4 := Aside0.mk hCw
  have BX4 := Aside0.mk (blk_below BX1.out HB14.out)
  have hlr := jpost_len hyes hno
  obtain ⟨x0, x1, x2, x3, x4⟩ := cells_c BX4.out
  have hgl := blk_lt BX4.out
  clear hR hb4 hyes hno hCw HC
  have HC := Aside0.mk (dput_c A0 c0 a x w4 (Kd.C_below HA1.out HB14.out) hc0 (by omega))
  go_wp2_with fail
  refine HC.out.mono ?_
  rintro e w5 ⟨v5, rfl, hR, hb5⟩
  obtain ⟨Ap, cp, rfl, hcp, hCp⟩ := Kd.R_reads hR
  have HB15 := Aside0.mk (below_then HB14.out HB14.out.size hb5)
  have HB35 := Aside0.mk (below_then HB34.out HB34.out.size hb5)
  have BX5 := Aside0.mk (blk_below BX4.out hb5)
  have HOLD := Aside0.mk (show Old a b r (putL a x) A0 A1 Ax Ay Aw Ap w5 from ⟨fun W' h => Kd.C_below (Kd.C_below HA1.out HB15.out) h, fun W' h => Kd.C_below (Kd.C_below HC1.out HB15.out) h, fun W' h => Kd.C_below (Kd.C_below HX2.out (below_then HB3.out HB3.out.size HB35.out)) h, fun W' h => Kd.C_below (Kd.C_below HY3.out HB35.out) h, fun W' h => Kd.C_below (Kd.C_below HW4.out hb5) h, fun W' h => Kd.C_below hCp h⟩)
  have HBW5 := Aside0.mk (below_then HB1.out HB1.out.size HB15.out)
  clear x0 x1 x2 x3 x4 hgl hR hb5 hCp HC HX2 HY3 HW4 HB2 HB3 HB13 HB14 HB34 HB35 HB15 BX4 BX1 HA1 HC1 HB1 HC2
  go_wp2
  go_loopw [13] (fun vt wr => ∃ n : Nat, vt = .int .i64 (n : Int) ∧ n ≤ 2 ∧ Aside0 (Below w5.heap.size w5 wr)) (fun vt _ => 2 - (intOf vt).toNat)
  case atStart => exact ⟨0, rfl, by omega, ⟨Below.refl _ _⟩⟩
  case round =>
    obtain ⟨n, rfl, hn, HBW⟩ := hrel
    obtain ⟨W, rfl⟩ : ∃ W : World, W = wr := ⟨_, rfl⟩
    by_cases hlt : n < 2
    rotate_left
    · obtain rfl : n = 2 := by omega
      go_wp2
      go_ret
      exact ⟨rfl, below_then HBW5.out HBW5.out.size HBW.out⟩
    have hlt' : (n : Int) < 2 := by omega
    have HC := Aside0.mk (join2_c Ax cx a Ay cy b W (HOLD.out.x W HBW.out) hcx (HOLD.out.y W HBW.out) hcy (by omega) (by omega))
    go_wp2_with fail
    refine HC.out.mono ?_
    rintro e w6 ⟨vl, s, rfl, hR, hb6, hyes, hno⟩
    obtain rfl : s = r := jpost_same HJ1.out HJ2.out hyes hno
    rw [HEJ.out]
    obtain ⟨Al, cl, rfl, hcl, hCl⟩ := Kd.R_reads hR
    have HL6 := Aside0.mk (show ∀ W', Below w6.heap.size w6 W' → Kd.C k24 W' Al s.length s from fun W' h => Kd.C_below hCl h)
    have HLS := Aside0.mk (ws_of_R hR)
    have HLO := Aside0.mk (own_of_R hR)
    have HB6 := Aside0.mk (below_then HBW.out HBW.out.size hb6)
    have HBX6 := Aside0.mk hb6
    have HA6 := Aside0.mk (HOLD.out.a0 w6 HB6.out)
    have HLZ := Aside0.mk (show (a.length + 1) * 40 ≤ 140737488355328 by omega)
    clear hR hb6 hyes hno hCl HC
    go_wp2_with (first
      | (at_builtin; refine Kd.R_append_rows k24 (w0 := w6) w6.heap.size rfl (.tmp 57) (.tmp 58) 22 24 (.agg #[.int .i64 0, .int .i64 0, .int .i64 0, .int .i64 0, .int .i64 0]) 40 rfl Try.underlying22 infoCh rfl (by decide) (by decide) _ [] a _ _ _ (fun _ => True) (fun _ => False) rfl rfl (R_emptyC w6) (Kd.C_alloc HA6.out _) (fun x cs h => by obtain rfl := k24_open h; exact k24_mkM _ _ _ x) (fun _ h => h.elim) (fun _ _ => trivial) (below_alloc (Below.refl _ _) _) (by simp) HLA.out ?_; intro v7 w7 ho hbl hgr hat; rw [List.nil_append] at ho; have HR7 := Aside0.mk ho; have HB67 := Aside0.mk hbl; clear ho hbl hgr hat)
      | (at_builtin; refine Kd.R_append k24 (w0 := w6) w6.heap.size rfl (.tmp 59) (.tmp 61) 22 24 (.agg #[.int .i64 0, .int .i64 0, .int .i64 0, .int .i64 0, .int .i64 0]) 40 rfl Try.underlying22 infoCh rfl (by decide) (by decide) _ a z77 [.int .i64 77, .int .i64 0, .int .i64 0, .int .i64 0, .int .i64 0] (fun _ => True) (fun _ => False) rfl rfl (k24_mkM _ _ _ z77) (fun _ h => h.elim) (fun _ _ => trivial) HR7.out HB67.out HB67.out.size HLZ.out ?_; intro v8 w8 ho hbl hgr hat; have HR8 := Aside0.mk ho; have HB68 := Aside0.mk hbl; clear ho hbl hgr hat))
    obtain ⟨Ar, cr, hvr, hcr, hCr⟩ := Kd.R_reads HR8.out
    subst hvr
    have hln : (a ++ [z77]).length = a.length + 1 := by rw [List.length_append, List.length_singleton]
    obtain ⟨ad, hAr, _⟩ := at_T24 hCr 0 (by omega) (by omega)
    subst hAr
    have HRC := Aside0.mk (show ∀ W', Below w8.heap.size w8 W' → Kd.C k24 W' (some ad) a.length a from fun W' h => room_c (Kd.C_below hCr h))
    have HRQ := Aside0.mk (show ∀ W', Below w8.heap.size w8 W' → W'.cell? (ad.add (a.length * 5)) = some (.int .i64 77) from fun W' h => room_cell (Kd.C_below hCr h))
    have HRO := Aside0.mk (Kd.R_bound HR8.out)
    rw [hln] at hcr ⊢
    have HB5_8 := Aside0.mk (below_then HB6.out HB6.out.size HB68.out)
    obtain ⟨x0, x1, x2, x3, x4⟩ := cells_c (blk_below BX5.out HB5_8.out)
    have hgl := blk_lt (blk_below BX5.out HB5_8.out)
    have HC := Aside0.mk (put_c (some ad) cr a x w8.drew (Kd.C_drew (HRC.out w8 (Below.refl _ _))) (by omega) (by omega))
    have hsl : (a.length : Int) ≤ (cr : Int) := by omega
    have hs0 : (0 : Int) ≤ (a.length : Int) := by omega
    have htn := Int.toNat_natCast a.length
    clear hCr HR8 HR7 HB67 hln
    go_region_with (go_at_call 18; refine HC.out.mono ?_; rintro e w9 ⟨vm, rfl, hR, hb⟩; obtain ⟨Am, cm, rfl, hcm, hCm⟩ := Kd.R_reads hR; have HM9 := Aside0.mk (show ∀ W', Below w9.heap.size w9 W' → Kd.C k24 W' Am (putL a x).length (putL a x) from fun W' h => Kd.C_below hCm h); have HMS := Aside0.mk (ws_of_R hR); have HMO := Aside0.mk (show ∀ k, some k = (Value.slice Am (putL a x).length cm).ownBlock → w8.heap.size ≤ k ∧ k < w9.heap.size from own_of_R hR); have HB89 := Aside0.mk (below_of_drew hb); clear hb hR hCm)
    all_goals (
      have HB5_9 := Aside0.mk (below_then HB5_8.out HB5_8.out.size HB89.out)
      have HB8_9 := Aside0.mk HB89.out
      have HB6_9 := Aside0.mk (below_then HB68.out HB68.out.size HB89.out)
      have HB9_9 := Aside0.mk (Below.refl w9.heap.size w9)
      clear x0 x1 x2 x3 x4 hgl HC
      have HC := Aside0.mk (show Calls _ _ _ _ _ from by have h := same_c Al cl s Aw cw s w9 (HL6.out w9 HB6_9.out) hcl (HOLD.out.wt w9 HB5_9.out) hcw; rw [(sameB_iff s s).2 rfl] at h; exact h)
      go_wp2_with fail
      refine HC.out.mono ?_
      rintro e w10 ⟨rfl, hb⟩
      have HB5_10 := Aside0.mk (below_then HB5_9.out HB5_9.out.size hb)
      have HB6_10 := Aside0.mk (below_then HB6_9.out HB6_9.out.size hb)
      have HB8_10 := Aside0.mk (below_then HB8_9.out HB8_9.out.size hb)
      have HB9_10 := Aside0.mk (below_then HB9_9.out HB9_9.out.size hb)
      clear hb HC
      have HC := Aside0.mk (show Calls _ _ _ _ _ from by have h := same_c Am cm (putL a x) Ap cp (putL a x) w10 (HM9.out w10 HB9_10.out) hcm (HOLD.out.p w10 HB5_10.out) hcp; rw [(sameB_iff (putL a x) (putL a x)).2 rfl] at h; exact h)
      go_wp2_with fail
      refine HC.out.mono ?_
      rintro e w11 ⟨rfl, hb⟩
      have HB5_11 := Aside0.mk (below_then HB5_10.out HB5_10.out.size hb)
      have HB6_11 := Aside0.mk (below_then HB6_10.out HB6_10.out.size hb)
      have HB8_11 := Aside0.mk (below_then HB8_10.out HB8_10.out.size hb)
      have HB9_11 := Aside0.mk (below_then HB9_10.out HB9_10.out.size hb)
      clear hb HC
      have x77 := HRQ.out w11 HB8_11.out
      have hln : (a.length : Int) < ((a.length + 1 : Nat) : Int) := by omega
      have hln' : (a.length : Int) < (a.length : Int) + 1 := by omega
      have HC := Aside0.mk (show Calls _ _ _ _ _ from by have h := same_c (some ad) cr a A0 c0 a w11 (HRC.out w11 HB8_11.out) (by omega) (HOLD.out.a0 w11 HB5_11.out) hc0; rw [(sameB_iff a a).2 rfl] at h; exact h)
      go_wp2_with fail
      refine HC.out.mono ?_
      rintro e w12 ⟨rfl, hb⟩
      have HB5_12 := Aside0.mk (below_then HB5_11.out HB5_11.out.size hb)
      have HB6_12 := Aside0.mk (below_then HB6_11.out HB6_11.out.size hb)
      have HB8_12 := Aside0.mk (below_then HB8_11.out HB8_11.out.size hb)
      have HB9_12 := Aside0.mk (below_then HB9_11.out HB9_11.out.size hb)
      clear hb HC
      clear x77
      go_wp2_with fail
      have HWL := Aside0.mk (ws_below HLS.out HB6_12.out)
      have HWM := Aside0.mk (ws_below HMS.out HB9_12.out)
      have HRR := Aside0.mk (room_kept HRO.out HLO.out HMO.out HB8_12.out)
      clear HRC HRQ HRO HL6 HM9 HLS HMS HB6_9 HB6_10 HB6_11 HB6_12 HB8_9 HB8_10 HB8_11 HB9_9 HB9_10 HB9_11 HB9_12 HB5_9 HB5_10 HB5_11
      have hpl : (putL a x).length ≤ 9223372036854775807 := Kd.C_max (HOLD.out.p w12 HB5_12.out)
      go_loopw [19] (fun vj wx => ∃ j : Nat, vj = .int .i64 (j : Int) ∧ j ≤ s.length ∧ Aside0 (Ws wx Al s.length) ∧ Aside0 (Ws wx Am (putL a x).length) ∧ Aside0 (Kept w12 wx (fun k => some k = (Value.slice Al s.length cl).ownBlock ∨ some k = (Value.slice Am (putL a x).length cm).ownBlock)) ∧ Aside0 (Below w5.heap.size w5 wx)) (fun vj _ => s.length - (intOf vj).toNat)
      case atStart => exact ⟨0, rfl, by omega, HWL, HWM, ⟨Kept.refl _ _⟩, HB5_12⟩
      case round =>
        obtain ⟨j, rfl, hj, HL1, HM1, HK1, HQ1⟩ := hrel
        by_cases hjl : j < s.length
        · obtain ⟨al, v, hA, hc, hf, hsp, hblk⟩ := ws_cell HL1.out hjl
          have hown := (HLO.out al.block (by rw [hA]; rfl)).1
          have HL2 := Aside0.mk (ws_set HL1.out _ hsp (.int .i64 (-7)))
          have HM2 := Aside0.mk (ws_set HM1.out _ hsp (.int .i64 (-7)))
          have HK2 := Aside0.mk (HK1.out.setCell (p := al.add (j * 5)) (.inl (by rw [hblk]; exact .inl (by rw [hA]; rfl))) (.int .i64 (-7)))
          have HQ2 := Aside0.mk (HQ1.out.setCell (p := al.add (j * 5)) (by rw [hblk]; exact Nat.le_trans (Nat.le_trans HBW.out.size (Nat.le_refl _)) hown) (.int .i64 (-7)))
          have HCL : Aside0 (Al = some al) := ⟨hA⟩
          subst hA
          have hjp : (j : Int) < (s.length : Int) := by omega
          have hj0 : (0 : Int) ≤ (j : Int) := by omega
          have htj := Int.toNat_natCast j
          have hj64 : IntKind.i64.wrap ((j : Int) + 1) = (j : Int) + 1 := i64w (by omega) (by omega)
          clear hblk hsp hown HL1 HK1 HQ1 HCL
          go_wp2
          exact ⟨⟨j + 1, by go_num, by omega, HL2, HM2, HK2, HQ2⟩, by simp [intOf]; omega⟩
        · obtain rfl : j = s.length := by omega
          clear HWL HWM HL1
          go_wp2_with fail
          go_loopw [20] (fun vj wx => ∃ j : Nat, vj = .int .i64 (j : Int) ∧ j ≤ (putL a x).length ∧ Aside0 (Ws wx Am (putL a x).length) ∧ Aside0 (Kept w12 wx (fun k => some k = (Value.slice Al s.length cl).ownBlock ∨ some k = (Value.slice Am (putL a x).length cm).ownBlock)) ∧ Aside0 (Below w5.heap.size w5 wx)) (fun vj _ => (putL a x).length - (intOf vj).toNat)
          case atStart => exact ⟨0, rfl, by omega, HM1, HK1, HQ1⟩
          case round =>
            clear HM1 HK1 HQ1
            obtain ⟨j, rfl, hj, HL1, HK1, HQ1⟩ := hrel
            by_cases hjl : j < (putL a x).length
            · obtain ⟨al, v, hA, hc, hf, hsp, hblk⟩ := ws_cell HL1.out hjl
              have hown := (HMO.out al.block (by rw [hA]; rfl)).1
              have HL2 := Aside0.mk (ws_set HL1.out _ hsp (.int .i64 (-7)))
              have HK2 := Aside0.mk (HK1.out.setCell (p := al.add (j * 5)) (.inl (by rw [hblk]; exact .inr (by rw [hA]; rfl))) (.int .i64 (-7)))
              have HQ2 := Aside0.mk (HQ1.out.setCell (p := al.add (j * 5)) (by rw [hblk]; exact Nat.le_trans HB5_8.out.size hown) (.int .i64 (-7)))
              have HCL : Aside0 (Am = some al) := ⟨hA⟩
              subst hA
              have hjp : (j : Int) < ((putL a x).length : Int) := by omega
              have hj0 : (0 : Int) ≤ (j : Int) := by omega
              have htj := Int.toNat_natCast j
              have hj64 : IntKind.i64.wrap ((j : Int) + 1) = (j : Int) + 1 := i64w (by omega) (by omega)
              clear hblk hsp hown HL1 HK1 HQ1 HCL
              go_wp2
              exact ⟨⟨j + 1, by go_num, by omega, HL2, HK2, HQ2⟩, by simp [intOf]; omega⟩
            · obtain rfl : j = (putL a x).length := by omega
              have HRW := Aside0.mk (HRR.out wr HK1.out)
              have HB5_20 := HQ1
              have HB20_20 := Aside0.mk (Below.refl wr.heap.size wr)
              have hn64 : IntKind.i64.wrap ((n : Int) + 1) = (n : Int) + 1 := i64w (by omega) (by omega)
              clear HL1 HK1 HQ1 HRR
              have HN64 := Aside0.mk hn64
              clear hn64
              have HC := Aside0.mk (show Calls _ _ _ _ _ from by have h := same_c Ax cx a A0 c0 a wr (HOLD.out.x wr HB5_20.out) hcx (HOLD.out.a0 wr HB5_20.out) hc0; rw [(sameB_iff a a).2 rfl] at h; exact h)
              go_wp2_with fail
              refine HC.out.mono ?_
              rintro e w21 ⟨rfl, hb⟩
              have HB5_21 := Aside0.mk (below_then HB5_20.out HB5_20.out.size hb)
              have HB20_21 := Aside0.mk (below_then HB20_20.out HB20_20.out.size hb)
              clear hb HC
              have HC := Aside0.mk (show Calls _ _ _ _ _ from by have h := same_c Ay cy b A1 c1 b w21 (HOLD.out.y w21 HB5_21.out) hcy (HOLD.out.a1 w21 HB5_21.out) hc1; rw [(sameB_iff b b).2 rfl] at h; exact h)
              go_wp2_with fail
              refine HC.out.mono ?_
              rintro e w22 ⟨rfl, hb⟩
              have HB5_22 := Aside0.mk (below_then HB5_21.out HB5_21.out.size hb)
              have HB20_22 := Aside0.mk (below_then HB20_21.out HB20_21.out.size hb)
              clear hb HC
              have HC := Aside0.mk (show Calls _ _ _ _ _ from by have h := same_c (some ad) cr a A0 c0 a w22 (Kd.C_below HRW.out HB20_22.out) (by omega) (HOLD.out.a0 w22 HB5_22.out) hc0; rw [(sameB_iff a a).2 rfl] at h; exact h)
              go_wp2_with fail
              refine HC.out.mono ?_
              rintro e w23 ⟨rfl, hb⟩
              have HB5_23 := Aside0.mk (below_then HB5_22.out HB5_22.out.size hb)
              clear hb HC
              have hn64 := HN64.out
              go_wp2
              exact ⟨⟨n + 1, by go_num, by omega, HB5_23⟩, by simp [intOf]; omega⟩)
end Go.Proofs.Ytpkcnifchggbnaa.HI

namespace Go.Proofs.Ytpkcnifchggbnaa.signJoins
open Go.ChangeShapes Go.WideShapes Go.ChangeAt Go.RowKit Go.Joins Go.Proofs.YtpkcnifchggbnaaW.PrintWords
set_option linter.unusedVariables false
theorem own : ownKnob Try.prog.godebug = none := by kernel_rfl
theorem laidOut : laidOutB Try.prog = true := by kernel_rfl
/-- a choice that came in is five numbers -/
theorem open_choice {H : Type} {enc : TypeId × Value → H} {W : World} {base : Nat} {v : Value} {d : DataW H} {p : List MemPlace} {sp : Nat → Bool} {held : Bool} (hv : Value.okWide Try.prog W .any base 24 v) (h : DataW.Trod enc Try.prog W 0 sp held 24 v d p) : ∃ x : HI.Cho, v = HD.cv x := by
  unfold Value.okWide at hv
  rw [Try.underlying24] at hv
  obtain ⟨cs, rfl, hl, _⟩ := hv
  obtain ⟨n, hn⟩ := h
  obtain ⟨a, b, c, d, e, hcs⟩ := HR.trod_five Try.underlying24 Try.underlying3 ⟨rfl, rfl⟩ ⟨rfl, rfl⟩ ⟨rfl, rfl⟩ ⟨rfl, rfl⟩ ⟨rfl, rfl⟩ HR.cells_int (by rw [HR.cells_choice] at hl; simpa [Value.cells] using hl) hn
  refine ⟨⟨a, b, c, d, e⟩, ?_⟩
  have hcs : cs.toList = [.int .i64 a, .int .i64 b, .int .i64 c, .int .i64 d, .int .i64 e] := hcs
  have : cs = #[.int .i64 a, .int .i64 b, .int .i64 c, .int .i64 d, .int .i64 e] := by
    rw [← Array.toList_inj, hcs]
  rw [this]
set_option maxRecDepth 100000 in
theorem lifted (os : Os) (started : os.Started) (H : Type) (enc : TypeId × Value → H) :
    ReturnsInHanded {} Try.checked os 4 .any (Rows.signJoinsSpec.pre6 enc Try.prog Try.f4 Rows.signJoinsRow.domain false) (Rows.signJoinsSpec.post enc Try.prog Try.f4 false true false false) := by
  refine returnsInHanded_of_change_sized (C := Try.checked) own started (by kernel_rfl) Try.func4
    (ChangeSpec.witness6 (enc := enc) (C := Try.checked) false ⟨#[], #[.slice none 0 0, .slice none 0 0, .agg #[.int .i64 0, .int .i64 0, .int .i64 0, .int .i64 0, .int .i64 0]], []⟩ 8 (by kernel_rfl) (by kernel_rfl) (by kernel_rfl) (by kernel_rfl)) ?_
  intro W base args ds gs before hval0 hW hcnd hsz0 _
  have hval : ∀ (j : Nat) t v, Try.f4.params[j]? = some t → args[j]? = some v → Value.okWide Try.prog W .any base t v := hval0
  have hW' := hW
  obtain ⟨p, q, hA0, hV, rfl, hfz, hnd⟩ := hW
  have hA : DataW.TrodAll enc Try.prog W 0 (fun _ => true) true Try.f4.params.toList args.toList ds p := hA0
  rw [Try.params4] at hA hval
  obtain ⟨v0, vs0, d0, ds0, p0, q0, hargs, rfl, rfl, h0, r0⟩ := trodAll_cons hA
  obtain ⟨v1, vs1, d1, ds1, p1, q1, rfl, rfl, rfl, h1, r1⟩ := trodAll_cons r0
  obtain ⟨v2, vs2, d2, ds2, p2, q2, rfl, rfl, rfl, h2, r2⟩ := trodAll_cons r1
  obtain ⟨rfl, rfl, rfl⟩ := trodAll_nil r2
  obtain rfl : args = #[v0, v1, v2] := by cases args; simp_all
  obtain ⟨rfl, rfl⟩ := trodVars_none hV
  have lt0 : ∀ x ∈ p0, x.block < W.heap.size := by obtain ⟨m, hm⟩ := h0; exact DataW.trod_lt m _ _ _ hm
  have lt1 : ∀ x ∈ p1, x.block < W.heap.size := by obtain ⟨m, hm⟩ := h1; exact DataW.trod_lt m _ _ _ hm
  have lt2 : ∀ x ∈ p2, x.block < W.heap.size := by obtain ⟨m, hm⟩ := h2; exact DataW.trod_lt m _ _ _ hm
  obtain ⟨A0, n0, c0, rfl⟩ := okWide_slice Try.underlying22 (hval 0 22 v0 rfl rfl)
  obtain ⟨l0, rfl, hc0, hr0⟩ := HR.open_choices h0
  obtain ⟨A1, n1, c1, rfl⟩ := okWide_slice Try.underlying22 (hval 1 22 v1 rfl rfl)
  obtain ⟨l1, rfl, hc1, hr1⟩ := HR.open_choices h1
  obtain ⟨x, rfl⟩ := open_choice (hval 2 24 v2 rfl rfl) h2
  clear hA0 hval0 hsz0
  refine (HI.signJoins_c A0 c0 l0 A1 c1 l1 x W hr0 hc0 hr1 hc1).mono fun e W' ⟨he, bel⟩ => ?_
  subst he
  exact ⟨_, rfl, _, _, _, [], _, [], hW', trodAll_mk1 (shut_bool Try.underlying4 _), (trodAll_cons_mk (Below.trod laidOut (by kernel_rfl) (of_decide_eq_true (by kernel_rfl)) h0 bel lt0) (trodAll_cons_mk (Below.trod laidOut (by kernel_rfl) (of_decide_eq_true (by kernel_rfl)) h1 bel lt1) (trodAll_cons_mk (Below.trod laidOut (by kernel_rfl) (of_decide_eq_true (by kernel_rfl)) h2 bel lt2) trodAll_mk0))), rfl, bel.frame _, fun h => by cases h⟩
theorem over : Rows.signJoinsRow.holds Try.pinned (OpenSpec.ofChange Rows.signJoinsSpec) :=
  OpenClaim.holds_of_wide 4 Try.f4 rfl rfl rfl rfl rfl rfl rfl ⟨rfl, rfl, rfl, rfl, rfl⟩ rfl rfl rfl rfl rfl (by kernel_rfl) Try.func4 (by kernel_rfl)
    (of_decide_eq_true (by kernel_rfl)) (by unfold Func.isWrapper; first | (rw [if_pos (by decide +kernel)]; kernel_rfl) | (rw [if_neg (by decide +kernel)]; exact ⟨rfl, rfl⟩))
    (fun os started H enc _ => lifted os started H enc)
theorem proved : Rows.SignJoinsSaid := over
end Go.Proofs.Ytpkcnifchggbnaa.signJoins
namespace Go.Proofs.Ytpkcnifchggbnaa
/-- The row, under a short name, for the claim. -/
theorem signJoins_holds : Rows.SignJoinsSaid := signJoins.proved
end Go.Proofs.Ytpkcnifchggbnaa
