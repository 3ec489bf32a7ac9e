/-
  CONTRACTS BY HAND (paths, 6): Next: what is answered, what the stack is then; what else was there stays.
-/
import Derived.Test.YtfmlpcdbllpcaaaDoorPuL
import Derived.Test.YtfmlpcdbllpcaaaDoorPtC
import Derived.Test.YtfmlpcdbllpcaaaDoorQlbasex1
import Derived.Test.YtfmlpcdbllpcaaaDoorQlbasex2
import Derived.WalkMore
namespace Go.Proofs.YtfmlpcdbllpcaaaDoor.HQ
open Go.Proofs.YtfmlpcdbllpcaaaDoor.HD Go.Proofs.YtfmlpcdbllpcaaaDoor.HU Go.RowKit Go.Proofs.YtfmlpcdbllpcaaaDoor.HK Go.Proofs.YtfmlpcdbllpcaaaDoor.HP Go.Proofs.YtfmlpcdbllpcaaaDoorW.PrintWords Go.Proofs.YtfmlpcdbllpcaaaDoorW.PrintLast Go.Proofs.YtfmlpcdbllpcaaaDoorW.PrintMore
set_option linter.unusedVariables false
set_option linter.unusedSimpArgs false
/-- how many steps a level has -/
def manyI (x : Lv) : Int := if x.f1 then (x.f0.f2.length : Int) + 1 else x.f0.f2.length
/-- a level that goes on -/
def up (x : Lv) : Lv := { x with f2 := x.f2 + 1 }
/-- the levels, topmost first, when it has gone on -/
def nextR : List Lv → List Lv
  | [] => []
  | x :: t => if x.f2 + 1 < manyI x then up x :: t else nextR t
def nextF (ls : List Lv) : List Lv := (nextR ls.reverse).reverse
/-- a level as they are: not too long, its place within bounds -/
def Fit (x : Lv) : Prop := 0 ≤ x.f2 ∧ x.f2 < manyI x ∧ x.f0.f2.length ≤ 1000
theorem nextF_nil : nextF [] = [] := rfl
theorem nextF_snoc (t : List Lv) (x : Lv) : nextF (t ++ [x]) = if x.f2 + 1 < manyI x then t ++ [up x] else nextF t := by
  unfold nextF
  rw [List.reverse_append, List.reverse_singleton, List.singleton_append, nextR]
  split
  · simp
  · rfl
theorem many_c (x : Lv) (A : Option Addr) (c : Nat) (w : World) (hr : Kd.C k49 w A x.f0.f2.length x.f0.f2) (hc : x.f0.f2.length ≤ c) (hf : x.f0.f2.length ≤ 1000) :
    Calls Tryd.prog 28 #[.agg #[.int .i64 x.f0.f0, .int .i64 x.f0.f1, .slice A x.f0.f2.length c, .bool x.f1, .int .i64 x.f2]] w fun e w' => e = .returned (.int .i64 (manyI x)) ∧ Below w.heap.size w w' := by
  refine Qlbase.path_level_many.calls _ _ A c x.f0.f2 x.f1 x.f2 _ w hr hc ?_
  unfold Qlbase.path_level_many.f manyI
  cases x.f1
  · rfl
  · rw [if_pos rfl, if_pos rfl, wrap64_of (by omega) (by omega)]
theorem many_x (x : Lv) (y : Int) (A : Option Addr) (c : Nat) (w : World) (hr : Kd.C k49 w A x.f0.f2.length x.f0.f2) (hc : x.f0.f2.length ≤ c) (hf : x.f0.f2.length ≤ 1000) :
    Calls Tryd.prog 28 #[.agg #[.int .i64 x.f0.f0, .int .i64 x.f0.f1, .slice A x.f0.f2.length c, .bool x.f1, .int .i64 y]] w fun e w' => e = .returned (.int .i64 (manyI x)) ∧ Below w.heap.size w w' :=
  many_c { x with f2 := y } A c w hr hc hf
theorem many_of {x : Lv} (h : Fit x) : 0 ≤ x.f2 ∧ x.f2 ≤ 1000 ∧ manyI x ≤ 1001 ∧ 0 ≤ manyI x ∧ x.f0.f2.length ≤ 1000 := by
  obtain ⟨h0, h1, h2⟩ := h
  have : manyI x ≤ 1001 ∧ 0 ≤ manyI x := by unfold manyI; split <;> omega
  omega
set_option maxHeartbeats 2000000 in
theorem next_ok (base : Nat) (ok : Nat → Prop) (g : Nat) (v : Value) (ls : List Lv) (w : World) (h : Sq w base ok g v ls) (hf : ∀ x ∈ ls, Fit x) :
    Calls Tryd.prog 18 #[.pointer (some ⟨g, 0, none⟩)] w fun e w' => e = .returned (.bool (decide (0 < (nextF ls).length))) ∧ (∃ v', Sq w' base ok g v' (nextF ls) ∧ v'.ownBlock = v.ownBlock) ∧ Kept w w' (fun k => k = g ∨ some k = v.ownBlock) ∧ Below base w w' := by
  have HS := Aside0.mk h
  have HF := Aside0.mk hf
  clear h hf
  go_enter Tryd.func18, Tryd.ntmps18
  go_wp2_with fail
  go_step3
  go_wp2_with fail
  go_step3
  go_wp2_with fail
  go_loopg [3] ls.length (fun k _ wr => ∃ (v' : Value) (t : List Lv), Aside0 (t.length = k) ∧ Aside0 (Sq wr base ok g v' t) ∧ Aside0 (nextF t = nextF ls) ∧ Aside0 (∀ x ∈ t, Fit x) ∧ Aside0 (v'.ownBlock = v.ownBlock) ∧ Aside0 (Kept w wr (fun k => k = g ∨ some k = v.ownBlock)) ∧ Aside0 (Below base w wr))
  case atStart => exact ⟨v, ls, ⟨rfl⟩, HS, ⟨rfl⟩, HF, ⟨rfl⟩, ⟨Kept.refl _ _⟩, ⟨Below.refl _ _⟩⟩
  case round =>
    obtain ⟨v', t, HK1, HS1, HN, HF1, HO, HK, HB⟩ := hrel
    clear HS HF
    rcases snoc_cases t with rfl | ⟨t, x, rfl⟩
    · go_wp2_with fail
      refine (depth_calls base ok g v' [] wr HS1.out).mono ?_
      rintro e w1 ⟨rfl, rfl⟩
      go_wp2_with fail
      refine (depth_calls base ok g v' [] wr HS1.out).mono ?_
      rintro e w1 ⟨rfl, rfl⟩
      go_wp2
      try rw [Exit.noGoto_ret]
      go_ret
      have hn := HN.out
      rw [nextF_nil] at hn
      exact ⟨ret_bool (by rw [← hn]; rfl), ⟨v', hn ▸ HS1.out, HO.out⟩, HK.out, HB.out⟩
    · have HFx := Aside0.mk (HF1.out x (by simp))
      have hfit := many_of HFx.out
      obtain ⟨q0, q1, q2, q3, q4⟩ := hfit
      have HNX := Aside0.mk (nextF_snoc t x)
      go_wp2_with fail
      refine (depth_calls base ok g v' (t ++ [x]) wr HS1.out).mono ?_
      rintro e w1 ⟨rfl, rfl⟩
      have hl : ((t ++ [x]).length : Int) = (t.length : Int) + 1 := by simp
      rw [hl]
      clear hl
      have hm := HS1.out.max
      rw [List.length_append, List.length_singleton] at hm
      obtain ⟨b, o, cap, hv'⟩ := HS1.out.form (by simp)
      subst hv'
      have hLEV := Sq_lev HS1.out t.length x (by simp)
      obtain ⟨A, c, hbb, hblt, hbg, hn1, hcap, c0, c1, c2, c3, c4, f4, hlc, hC, hset⟩ := hLEV
      have HSET := Aside0.mk hset
      have hl : (t ++ [x]).length = t.length + 1 := by simp
      have hg1 : wr.cell? ⟨g, 1, none⟩ = some (.slice (some ⟨b, o, none⟩) (t.length + 1) cap) := by rw [← hl]; exact (blk_cell HS1.out.blk 1).trans rfl
      rw [hl] at hcap
      have HBG := Aside0.mk hbg
      have HBB := Aside0.mk hbb
      have HBL := Aside0.mk (Nat.le_of_lt hblt)
      clear hset hn1 hC c0 c1 c2 c3 hbg hl
      have p0 : (0 : Int) ≤ (t.length : Int) := by omega
      have p1 : (t.length : Int) < (t.length : Int) + 1 := by omega
      have p2 : (t.length : Int) + 1 ≤ (cap : Int) := by omega
      go_wp2_with fail
      go_quiet (fail)
      go_wp2_with fail
      clear c4 f4 hg1 hlc
      have HS2 : Aside0 (Sq ((wr.drewN nq).setCell ⟨b, o + t.length * 5 + 4, none⟩ (.int .i64 (x.f2 + 1))) base ok g (.slice (some ⟨b, o, none⟩) (t ++ [x]).length cap) (t ++ [up x])) := by
        have := HSET.out nq (x.f2 + 1)
        rw [show (t ++ [x]).set t.length { x with f2 := x.f2 + 1 } = t ++ [up x] by simp [up]] at this
        exact ⟨this⟩
      have HO1 : Aside0 (some b = v.ownBlock) := ⟨by have := HO.out; simpa [Value.ownBlock] using this⟩
      have HK2 : Aside0 (Kept w ((wr.drewN nq).setCell ⟨b, o + t.length * 5 + 4, none⟩ (.int .i64 (x.f2 + 1))) (fun k => k = g ∨ some k = v.ownBlock)) := ⟨(HK.out.drewN nq).setCell (p := ⟨b, o + t.length * 5 + 4, none⟩) (.inl (.inr HO1.out)) _⟩
      have HB2 : Aside0 (Below base w ((wr.drewN nq).setCell ⟨b, o + t.length * 5 + 4, none⟩ (.int .i64 (x.f2 + 1)))) := ⟨(pw_below_drewN HB.out nq).setCell (p := ⟨b, o + t.length * 5 + 4, none⟩) HBB.out _⟩
      clear HSET HK HB HS1
      have hz2 : wr.heap.size ≤ ((wr.drewN nq).setCell ⟨b, o + t.length * 5 + 4, none⟩ (.int .i64 (x.f2 + 1))).heap.size := by simp
      have HZ2 := Aside0.mk hz2
      clear hz2
      generalize (wr.drewN nq).setCell ⟨b, o + t.length * 5 + 4, none⟩ (.int .i64 (x.f2 + 1)) = w2 at HS2 HK2 HB2 HZ2 ⊢
      have hlu : (up x).f0 = x.f0 ∧ (up x).f1 = x.f1 ∧ (up x).f2 = x.f2 + 1 := ⟨rfl, rfl, rfl⟩
      obtain ⟨A, c, hbb, hblt, hbg, hn1, hcap2, c0, c1, c2, c3, c4, f4, hlc, hC, hset⟩ := Sq_lev HS2.out t.length (up x) (by simp)
      have HC := Aside0.mk hC
      have hl : (t ++ [x]).length = t.length + 1 := by simp
      have hg1 : w2.cell? ⟨g, 1, none⟩ = some (.slice (some ⟨b, o, none⟩) (t.length + 1) cap) := by rw [← hl]; exact (blk_cell HS2.out.blk 1).trans rfl
      have f1 := blk_frozen HS2.out.blk 1
      rw [hl] at HS2
      rw [hlu.1] at c0 c1 c2 hlc HC
      rw [hlu.2.1] at c3
      rw [hlu.2.2] at c4
      clear hset hn1 hC hl hlu hcap2 hbb hbg hblt
      by_cases hlt : x.f2 + 1 < manyI x
      · have hd : decide (x.f2 + 1 < manyI x) = true := by simpa using hlt
        rw [if_pos hlt] at HNX
        go_region_held3 (fun W => W.cell? ⟨b, o + t.length * 5, none⟩ = some (.int .i64 x.f0.f0) ∧ W.cell? ⟨b, o + t.length * 5 + 1, none⟩ = some (.int .i64 x.f0.f1) ∧ W.cell? ⟨b, o + t.length * 5 + 2, none⟩ = some (.slice A x.f0.f2.length c) ∧ W.cell? ⟨b, o + t.length * 5 + 3, none⟩ = some (.bool x.f1) ∧ W.cell? ⟨b, o + t.length * 5 + 4, none⟩ = some (.int .i64 (x.f2 + 1)))
          (first | go_keep | (refine ⟨?_, ?_, ?_, ?_, ?_⟩ <;> with_reducible exact keep_call hb (by assumption)))
          (first | (go_at_call 28; refine (many_x x _ A c _ (Kd.C_below HC.out (below_drew (Below.refl _ _))) hlc q4).mono ?_; rintro e w' ⟨rfl, hb⟩))
        have hb := below_of_drew hb
        have HS3 := Aside0.mk (HS2.out.below hb)
        have HK3 := Aside0.mk (HK2.out.below hb)
        have HB3 := Aside0.mk (HB2.out.trans (hb.mono (Nat.le_trans (Nat.le_trans HBB.out HBL.out) HZ2.out)))
        have hg1 := pw_cell_below hb hg1
        clear hb c0 c1 c2 c3 c4 f4 f1 HC HK2 HB2 hlc
        go_wp2_with fail
        refine (depth_calls base ok g _ _ _ HS3.out).mono ?_
        rintro e w1 ⟨rfl, rfl⟩
        go_wp2
        try rw [Exit.noGoto_ret]
        go_ret
        rw [HN.out] at HNX
        exact ⟨ret_bool (by rw [HNX.out]; simp), ⟨_, by rw [HNX.out]; exact HS3.out, by rw [← HO1.out]; rfl⟩, HK3.out, HB3.out⟩
      · have hd : decide (x.f2 + 1 < manyI x) = false := by simpa using hlt
        rw [if_neg hlt] at HNX
        go_region_held3 (fun W => W.cell? ⟨b, o + t.length * 5, none⟩ = some (.int .i64 x.f0.f0) ∧ W.cell? ⟨b, o + t.length * 5 + 1, none⟩ = some (.int .i64 x.f0.f1) ∧ W.cell? ⟨b, o + t.length * 5 + 2, none⟩ = some (.slice A x.f0.f2.length c) ∧ W.cell? ⟨b, o + t.length * 5 + 3, none⟩ = some (.bool x.f1) ∧ W.cell? ⟨b, o + t.length * 5 + 4, none⟩ = some (.int .i64 (x.f2 + 1)))
          (first | go_keep | (refine ⟨?_, ?_, ?_, ?_, ?_⟩ <;> with_reducible exact keep_call hb (by assumption)))
          (first | (go_at_call 28; refine (many_x x _ A c _ (Kd.C_below HC.out (below_drew (Below.refl _ _))) hlc q4).mono ?_; rintro e w' ⟨rfl, hb⟩))
        have hb := below_of_drew hb
        have HS3 := Aside0.mk (HS2.out.below hb)
        have HK3 := Aside0.mk (HK2.out.below hb)
        have HB3 := Aside0.mk (HB2.out.trans (hb.mono (Nat.le_trans (Nat.le_trans HBB.out HBL.out) HZ2.out)))
        have hg1 := pw_cell_below hb hg1
        clear hb c0 c1 c2 c3 c4 f4 f1 HC HK2 HB2 hlc
        go_wp2_with fail
        have f1' := blk_frozen HS3.out.blk 1
        go_region
        go_wp2_with fail
        go_roundg t.length
        case measure => have := HK1.out; simp at this; omega
        case rel =>
          have hk := (HK3.out.drewN 1).setCell (p := ⟨g, 1, none⟩) (.inl (.inl rfl)) (.slice (some ⟨b, o, none⟩) t.length cap)
          have hb3 := (pw_below_drewN HB3.out 1).setCell (p := ⟨g, 1, none⟩) HS3.out.hg (.slice (some ⟨b, o, none⟩) t.length cap)
          exact ⟨_, t, ⟨rfl⟩, ⟨HS3.out.take 1⟩, ⟨by rw [← HN.out, HNX.out]⟩, ⟨fun y hy => HF1.out y (by simp [hy])⟩, ⟨by rw [← HO1.out]; rfl⟩, ⟨hk⟩, ⟨hb3⟩⟩
end Go.Proofs.YtfmlpcdbllpcaaaDoor.HQ
