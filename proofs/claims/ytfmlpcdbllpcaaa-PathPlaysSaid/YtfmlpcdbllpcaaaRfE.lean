/-
  CONTRACTS BY HAND (paths, 15): the document's stack: Push: what is answered, what the stack is then; what else was there stays.
-/
import Derived.Test.YtfmlpcdbllpcaaaRfC
import Derived.Test.YtfmlpcdbllpcaaaHX
namespace Go.Proofs.Ytfmlpcdbllpcaaa.HQ
open Go.Proofs.Ytfmlpcdbllpcaaa.HD Go.Proofs.Ytfmlpcdbllpcaaa.HU Go.RowKit Go.Proofs.Ytfmlpcdbllpcaaa.HK Go.Proofs.Ytfmlpcdbllpcaaa.HP Go.Proofs.YtfmlpcdbllpcaaaW.PrintWords Go.Proofs.YtfmlpcdbllpcaaaW.PrintLast Go.Proofs.YtfmlpcdbllpcaaaW.PrintMore
set_option linter.unusedVariables false
set_option linter.unusedSimpArgs false
theorem infoPt : (Try.prog.info? 34).map (fun i => (i.zero, i.size, i.bytes)) = some (some (.agg #[.int .i64 0, .int .i64 0, .slice none 0 0]), 3, 40) := by kernel_rfl
theorem infoB : (Try.prog.info? 4).map (fun i => (i.zero, i.size, i.bytes)) = some (some (.bool false), 1, 1) := by kernel_rfl
theorem infoI : (Try.prog.info? 3).map (fun i => (i.zero, i.size, i.bytes)) = some (some (.int .i64 0), 1, 8) := by kernel_rfl
theorem rpush_bad (p : Value) (r q : Int) (A : Option Addr) (c : Nat) (l : List Ch) (off : Bool) (w : World) (hr : Kd.C k43 w A l.length l) (hc : l.length ≤ c) (hm : mayP r q l = false) :
    Calls Try.prog 8 #[p, .agg #[.int .i64 r, .int .i64 q, .slice A l.length c], .bool off] w fun e w' => e = .returned (.int .i64 2) ∧ Below w.heap.size w w' := by
  have HR := Aside0.mk hr
  clear hr
  go_enter Try.func8, Try.ntmps8
  go_wp2_with fail
  have hb1 := below_alloc (Below.refl w.heap.size w) (.cells #[.int .i64 r, .int .i64 q, .slice A l.length c] 34)
  refine (may_r r q A c l _ (Kd.C_below HR.out hb1) hc).mono ?_
  rintro e w1 ⟨rfl, hbx⟩
  have HB := Aside0.mk (below_then hb1 hb1.size hbx)
  clear hb1 hbx
  rw [hm]
  go_wp2
  go_ret
  exact ⟨rfl, HB.out⟩
theorem rpush_full (base : Nat) (ok : Nat → Prop) (g : Nat) (vp vo va : Value) (ls : List Lv) (r q : Int) (A : Option Addr) (c : Nat) (l : List Ch) (off : Bool) (w : World) (h : Rf w base ok g vp vo va ls) (hr : Kd.C k43 w A l.length l) (hc : l.length ≤ c) (hm : mayP r q l = true) (hn : 2000 ≤ ls.length) :
    Calls Try.prog 8 #[.pointer (some ⟨g, 0, none⟩), .agg #[.int .i64 r, .int .i64 q, .slice A l.length c], .bool off] w fun e w' => e = .returned (.int .i64 4) ∧ Below w.heap.size w w' := by
  have HR := Aside0.mk hr
  obtain ⟨A0, c0, A1, c1, A2, c2, rfl, rfl, rfl, hl0, hl1, hl2⟩ := h.forms
  have hg0 : w.cell? ⟨g, 0, none⟩ = some (.slice A0 ls.length c0) := (blk_cell h.blk 0).trans rfl
  clear hr h
  go_enter Try.func8, Try.ntmps8
  go_wp2_with fail
  have hb1 := below_alloc (Below.refl w.heap.size w) (.cells #[.int .i64 r, .int .i64 q, .slice A l.length c] 34)
  refine (may_r r q A c l _ (Kd.C_below HR.out hb1) hc).mono ?_
  rintro e w1 ⟨rfl, hbx⟩
  have HB := Aside0.mk (below_then hb1 hb1.size hbx)
  have hg0 := pw_cell_below HB.out hg0
  clear hb1 hbx
  have hd : decide ((2000 : Int) ≤ (ls.length : Int)) = true := by simpa using (by omega : (2000 : Int) ≤ ls.length)
  rw [hm]
  go_wp2
  go_ret
  exact ⟨rfl, HB.out⟩
/-- what a new point is made of -/
theorem rp_facts {w w1 w2 : World} {base : Nat} {ok : Nat → Prop} {g : Nat} {vp vo va : Value} {ls : List Lv} {r q : Int} {l : List Ch} {An : Option Addr} {n cn : Nat} (hb : base ≤ w.heap.size) (hok : ∀ k, w.heap.size ≤ k → ok k) (HB : Below w.heap.size w w1)
    (HS1 : Rf w base ok g vp vo va ls) (hrow : Kd.R k43 43 w2 w1.heap.size (fun k => w1.heap.size ≤ k) (.slice An n cn) l) (hbl : Below w1.heap.size (w1.drew.alloc (.cells #[] 43)) w2) :
    Kd.M k34 w2 base (fun k => w1.heap.size ≤ k ∧ k < w2.heap.size) ⟨r, q, l⟩ [.int .i64 r, .int .i64 q, .slice An n cn] ∧
    (∀ k, (w1.heap.size ≤ k ∧ k < w2.heap.size) → ok k ∧ some k ≠ vp.ownBlock) ∧ (∀ k, w2.heap.size ≤ k → ok k) ∧ Below w1.heap.size w1 w2 ∧ Rf w2 base ok g vp vo va ls ∧ base ≤ w2.heap.size := by
  have h1 := HB.size
  have hb2 : Below w1.heap.size w1 w2 := (below_alloc (w := w1) (below_drew (Below.refl _ _)) _).trans hbl
  have h2 := hb2.size
  refine ⟨k34_mkM w2 base _ ⟨r, q, l⟩ (Kd.R_mono (Kd.R_lower (Kd.R_bound hrow) (by omega)) (fun k hk => ⟨hk.2.1, hk.2.2.1⟩)), fun k hk => ⟨hok k (by omega), fun he => ?_⟩, fun k hk => hok k (by omega), hb2, (HS1.below HB).below hb2, by omega⟩
  have := Kd.Q_lt HS1.rp k he.symm
  omega
/-- the document's stack when a new point is in, and what goes with it is not yet -/
def Mid (w wx : World) (base : Nat) (ok : Nat → Prop) (g : Nat) (vp vo va : Value) (ls : List Lv) (p : Pt) : Prop :=
  ∃ vp', wx.heap[g]? = some (.cells #[vp', vo, va] 31 (0, 0)) ∧ Kd.Q k34 34 wx base ok vp' (ls.map (·.f0) ++ [p]) ∧ Kd.Q Kd.bool 4 wx base ok vo (ls.map (·.f1)) ∧
    Kd.Q (Kd.int .i64) 3 wx base ok va (ls.map (·.f2)) ∧ Kept w wx (WrR g vp vo va) ∧ Below base w wx
theorem mid_of {w w1 w2 w3 : World} {base : Nat} {ok : Nat → Prop} {g : Nat} {vp vo va v2 : Value} {ls : List Lv} {p : Pt} (HS2 : Rf w2 base ok g vp vo va ls) (HB : Below w.heap.size w w1) (hb2 : Below w1.heap.size w1 w2)
    (hrow : Kd.Q k34 34 w3 base ok v2 (ls.map (·.f0) ++ [p])) (hbl : Below base w w3) (hgr : w2.grownBy w3 vp.ownBlock) : Mid w (w3.setCell ⟨g, 0, none⟩ v2) base ok g vp vo va ls p := by
  have BG3 := blk_grown HS2.blk hgr (Kd.Q_ne HS2.rp HS2.blk (by decide))
  have hty := Kd.Q_typed HS2.rp
  refine ⟨v2, blk_put (cs' := #[v2, vo, va]) BG3 0 v2 rfl, Kd.Q_set hrow BG3 E34r 0 _, Kd.Q_set (Kd.Q_over' HS2.ro hty (by decide) hgr) BG3 E4r 0 _, Kd.Q_set (Kd.Q_over' HS2.ra hty (by decide) hgr) BG3 E3r 0 _, ?_, hbl.setCell (p := ⟨g, 0, none⟩) HS2.hg _⟩
  exact ((((Kept.of_below HB (WrR g vp vo va)).below hb2).of_grown hgr (fun k hk => .inl (.inr (.inl hk.symm)))).setCell (p := ⟨g, 0, none⟩) (.inl (.inl rfl)) _)
theorem six_ok {wc W : World} {ok : Nat → Prop} (h : ∀ k, wc.heap.size ≤ k → ok k) (hb : Below wc.drew.heap.size wc.drew W) : ∀ k, W.heap.size ≤ k → ok k := fun k hk => h k (Nat.le_trans hb.size hk)
theorem six_b {w wc W : World} {base : Nat} (h : Below base w wc) (hs : base ≤ wc.heap.size) (hb : Below wc.drew.heap.size wc.drew W) : Below base w W := h.trans ((below_of_drew hb).mono hs)
theorem six_s {wc W : World} {base : Nat} (hs : base ≤ wc.heap.size) (hb : Below wc.drew.heap.size wc.drew W) : base ≤ W.heap.size := Nat.le_trans hs hb.size
theorem six_one {w wc W w4 : World} {base : Nat} {ok : Nat → Prop} {g : Nat} {vp vp' vo va : Value} {ls : List Lv} {p : Pt} (hb : Below wc.drew.heap.size wc.drew W) (hblk : wc.heap[g]? = some (.cells #[vp', vo, va] 31 (0, 0)))
    (hrp : Kd.Q k34 34 wc base ok vp' (ls.map (·.f0) ++ [p])) (hra : Kd.Q (Kd.int .i64) 3 wc base ok va (ls.map (·.f2))) (hro : Kd.Q Kd.bool 4 wc base ok vo (ls.map (·.f1))) (hk : Kept w wc (WrR g vp vo va)) (hg : W.grownBy w4 vo.ownBlock) :
    w4.heap[g]? = some (.cells #[vp', vo, va] 31 (0, 0)) ∧ Kd.Q k34 34 w4 base ok vp' (ls.map (·.f0) ++ [p]) ∧ Kd.Q (Kd.int .i64) 3 w4 base ok va (ls.map (·.f2)) ∧ Kept w w4 (WrR g vp vo va) ∧ wc.heap.size ≤ w4.heap.size := by
  have hb := below_of_drew hb
  have hty := Kd.Q_typed (Kd.Q_below hro hb)
  have hB := blk_below hblk hb
  exact ⟨blk_grown hB hg (Kd.Q_ne (Kd.Q_below hro hb) hB (by decide)), Kd.Q_over' (Kd.Q_below hrp hb) hty (by decide) hg, Kd.Q_over' (Kd.Q_below hra hb) hty (by decide) hg, (hk.below hb).of_grown hg (fun k hk => .inl (.inr (.inr (.inl hk.symm)))), Nat.le_trans hb.size hg.size⟩
theorem seven_ok {wc w4 W : World} {ok : Nat → Prop} (h : ∀ k, wc.heap.size ≤ k → ok k) (hs : wc.heap.size ≤ w4.heap.size) (hb : Below w4.heap.size w4 W) : ∀ k, W.heap.size ≤ k → ok k := fun k hk => h k (Nat.le_trans hs (Nat.le_trans hb.size hk))
theorem seven_b {w wc w4 W : World} {base : Nat} (h : Below base w w4) (hs : base ≤ wc.heap.size) (h4 : wc.heap.size ≤ w4.heap.size) (hb : Below w4.heap.size w4 W) : Below base w W := h.trans (hb.mono (Nat.le_trans hs h4))
theorem seven_s {wc w4 W : World} {base : Nat} (hs : base ≤ wc.heap.size) (h4 : wc.heap.size ≤ w4.heap.size) (hb : Below w4.heap.size w4 W) : base ≤ W.heap.size := Nat.le_trans hs (Nat.le_trans h4 hb.size)
theorem seven_one {w w4 W w5 : World} {n base : Nat} {ok : Nat → Prop} {g : Nat} {vp vp' vo vo' va : Value} {ls : List Lv} {p : Pt} {bs : List Bool} (hb : Below w4.heap.size w4 W)
    (h4 : w4.heap[g]? = some (.cells #[vp', vo, va] 31 (0, 0)) ∧ Kd.Q k34 34 w4 base ok vp' (ls.map (·.f0) ++ [p]) ∧ Kd.Q (Kd.int .i64) 3 w4 base ok va (ls.map (·.f2)) ∧ Kept w w4 (WrR g vp vo va) ∧ n ≤ w4.heap.size)
    (ho : Kd.Q Kd.bool 4 w4 base ok vo' bs) (hg : W.grownBy w5 va.ownBlock) :
    w5.heap[g]? = some (.cells #[vp', vo, va] 31 (0, 0)) ∧ Kd.Q k34 34 w5 base ok vp' (ls.map (·.f0) ++ [p]) ∧ Kd.Q Kd.bool 4 w5 base ok vo' bs ∧ Kept w w5 (WrR g vp vo va) := by
  obtain ⟨hblk, hrp, hra, hk, _⟩ := h4
  have hty := Kd.Q_typed (Kd.Q_below hra hb)
  have hB := blk_below hblk hb
  exact ⟨blk_grown hB hg (Kd.Q_ne (Kd.Q_below hra hb) hB (by decide)), Kd.Q_over' (Kd.Q_below hrp hb) hty (by decide) hg, Kd.Q_over' (Kd.Q_below ho hb) hty (by decide) hg, (hk.below hb).of_grown hg (fun k hk => .inl (.inr (.inr (.inr hk.symm))))⟩
theorem seven_end {w w5 : World} {base : Nat} {ok : Nat → Prop} {g : Nat} {vp vp' vo vo' va va' : Value} {ls : List Lv} {x : Lv} (hgb : base ≤ g)
    (h5 : w5.heap[g]? = some (.cells #[vp', vo, va] 31 (0, 0)) ∧ Kd.Q k34 34 w5 base ok vp' (ls.map (·.f0) ++ [x.f0]) ∧ Kd.Q Kd.bool 4 w5 base ok vo' (ls.map (·.f1) ++ [x.f1]) ∧ Kept w w5 (WrR g vp vo va))
    (ha : Kd.Q (Kd.int .i64) 3 w5 base ok va' (ls.map (·.f2) ++ [x.f2])) (hb : Below base w w5) :
    Rf ((w5.setCell ⟨g, 1, none⟩ vo').setCell ⟨g, 2, none⟩ va') base ok g vp' vo' va' (ls ++ [x]) ∧ Kept w ((w5.setCell ⟨g, 1, none⟩ vo').setCell ⟨g, 2, none⟩ va') (WrR g vp vo va) ∧ Below base w ((w5.setCell ⟨g, 1, none⟩ vo').setCell ⟨g, 2, none⟩ va') := by
  obtain ⟨hblk, hrp, hro, hk⟩ := h5
  have b1 := blk_put (cs' := #[vp', vo', va]) hblk 1 vo' rfl
  have b2 := blk_put (cs' := #[vp', vo', va']) b1 2 va' rfl
  refine ⟨⟨b2, hgb, ?_, ?_, ?_⟩, (hk.setCell (p := ⟨g, 1, none⟩) (.inl (.inl rfl)) _).setCell (p := ⟨g, 2, none⟩) (.inl (.inl rfl)) _, (hb.setCell (p := ⟨g, 1, none⟩) hgb _).setCell (p := ⟨g, 2, none⟩) hgb _⟩
  · rw [List.map_append, List.map_singleton]
    exact Kd.Q_set (Kd.Q_set hrp hblk E34r 1 _) b1 E34r 2 _
  · rw [List.map_append, List.map_singleton]
    exact Kd.Q_set (Kd.Q_set hro hblk E4r 1 _) b1 E4r 2 _
  · rw [List.map_append, List.map_singleton]
    exact Kd.Q_set (Kd.Q_set ha hblk E3r 1 _) b1 E3r 2 _
set_option maxHeartbeats 8000000 in
theorem rpush_ok (base : Nat) (ok : Nat → Prop) (g : Nat) (vp vo va : Value) (ls : List Lv) (r q : Int) (A : Option Addr) (c : Nat) (l : List Ch) (off : Bool) (w : World) (h : Rf w base ok g vp vo va ls) (hb : base ≤ w.heap.size) (hok : ∀ k, w.heap.size ≤ k → ok k)
    (hr : Kd.C k43 w A l.length l) (hc : l.length ≤ c) (hl : l.length ≤ 1000) (hm : mayP r q l = true) (hn : ls.length < 2000) :
    Calls Try.prog 8 #[.pointer (some ⟨g, 0, none⟩), .agg #[.int .i64 r, .int .i64 q, .slice A l.length c], .bool off] w fun e w' => e = .returned (.int .i64 0) ∧
      (∃ vp' vo' va', Rf w' base ok g vp' vo' va' (ls ++ [⟨⟨r, q, l⟩, off, 0⟩])) ∧ Kept w w' (WrR g vp vo va) ∧ Below base w w' := by
  have HR := Aside0.mk hr
  have HS := Aside0.mk h
  have HOK0 := Aside0.mk hok
  obtain ⟨A0, c0, A1, c1, A2, c2, rfl, rfl, rfl, hl0, hl1, hl2⟩ := h.forms
  have hg0 : w.cell? ⟨g, 0, none⟩ = some (.slice A0 ls.length c0) := (blk_cell h.blk 0).trans rfl
  have hgl := blk_lt h.blk
  clear hr h hok
  go_enter Try.func8, Try.ntmps8
  go_wp2_with fail
  have hb1 := below_alloc (Below.refl w.heap.size w) (.cells #[.int .i64 r, .int .i64 q, .slice A l.length c] 34)
  have BP := Aside0.mk (blk_new w (.cells #[.int .i64 r, .int .i64 q, .slice A l.length c] 34))
  refine (may_r r q A c l _ (Kd.C_below HR.out hb1) hc).mono ?_
  rintro e w1 ⟨rfl, hbx⟩
  have HB := Aside0.mk (below_then hb1 hb1.size hbx)
  have hg0 := pw_cell_below HB.out hg0
  have BP1 := Aside0.mk (blk_below BP.out hbx)
  clear hb1 hbx BP
  have hd : decide ((2000 : Int) ≤ (ls.length : Int)) = false := by simpa using (by omega : ¬ (2000 : Int) ≤ ls.length)
  have hp0 : w1.cell? ⟨w.heap.size, 0, none⟩ = some (.int .i64 r) := (blk_cell BP1.out 0).trans rfl
  have hp1 : w1.cell? ⟨w.heap.size, 1, none⟩ = some (.int .i64 q) := (blk_cell BP1.out 1).trans rfl
  have hp2 : w1.cell? ⟨w.heap.size, 2, none⟩ = some (.slice A l.length c) := (blk_cell BP1.out 2).trans rfl
  have HS1 := Aside0.mk (HS.out.below HB.out)
  have HR1 := Aside0.mk (Kd.C_below HR.out HB.out)
  have HNB : Aside0 (some w.heap.size ≠ (Value.slice A0 ls.length c0).ownBlock) := ⟨fun he => by have := Kd.Q_lt HS.out.rp _ he.symm; omega⟩
  rw [hm]
  go_upto_region 5 with (fail)
  clear hd
  go_cut [] (fun wx => Mid w wx base ok g (.slice A0 ls.length c0) (.slice A1 ls.length c1) (.slice A2 ls.length c2) ls ⟨r, q, l⟩)
  case first =>
    have hg0a := cell_alloc1 hg0
    have HNE : Aside0 (w.heap.size ≠ g) := ⟨by omega⟩
    refine HU.region_T (S := (fun W => W.cell? ⟨g, 0, none⟩ = some (.slice A0 ls.length c0) ∧ W.cell? ⟨w.heap.size, 0, none⟩ = some (.int .i64 r) ∧ W.cell? ⟨w.heap.size, 1, none⟩ = some (.int .i64 q) ∧ W.cell? ⟨w.heap.size, 2, none⟩ = some (.slice A l.length c))) (T := (fun k => decide (18 ≤ k))) (by kernel_rfl) ?_
    have hSw : (fun W => W.cell? ⟨g, 0, none⟩ = some (.slice A0 ls.length c0) ∧ W.cell? ⟨w.heap.size, 0, none⟩ = some (.int .i64 r) ∧ W.cell? ⟨w.heap.size, 1, none⟩ = some (.int .i64 q) ∧ W.cell? ⟨w.heap.size, 2, none⟩ = some (.slice A l.length c)) w1.drew := ⟨hg0, hp0, hp1, hp2⟩
    refine takeP (i := 0) (v := ?vp1) rfl (by kernel_rfl) (by kernel_rfl) (by kernel_rfl) (by rfl) (fun _ _ _ h => h) (Or.inl ⟨by rfl, ?hp1⟩) (by assumption) ?rp1
    case hp1 => ((intro w hSw'); (try dsimp only at hSw'); go_simp; (try with_reducible rfl))
    try simp only [Act.put, List.setIfInBounds_toArray, List.set_cons_zero, List.set_cons_succ]
    refine takeP (i := 1) (v := ?vp2) rfl (by kernel_rfl) (by kernel_rfl) (by kernel_rfl) (by rfl) (fun _ _ _ h => h) (Or.inl ⟨by rfl, ?hp2⟩) (by assumption) ?rp2
    case hp2 => ((intro w hSw'); (try dsimp only at hSw'); go_simp; (try with_reducible rfl))
    try simp only [Act.put, List.setIfInBounds_toArray, List.set_cons_zero, List.set_cons_succ]
    refine takeP (i := 2) (v := ?vp3) rfl (by kernel_rfl) (by kernel_rfl) (by kernel_rfl) (by rfl) (fun _ _ _ h => h) (Or.inl ⟨by rfl, ?hp3⟩) (by assumption) ?rp3
    case hp3 => ((intro w hSw'); (try dsimp only at hSw'); go_simp; (try with_reducible rfl))
    try simp only [Act.put, List.setIfInBounds_toArray, List.set_cons_zero, List.set_cons_succ]
    refine takeP (i := 3) (v := ?vp4) rfl (by kernel_rfl) (by kernel_rfl) (by kernel_rfl) (by rfl) (fun _ _ _ h => h) (Or.inl ⟨by rfl, ?hp4⟩) (by assumption) ?rp4
    case hp4 => ((intro w hSw'); (try dsimp only at hSw'); go_simp; (try with_reducible rfl))
    try simp only [Act.put, List.setIfInBounds_toArray, List.set_cons_zero, List.set_cons_succ]
    refine takeT (i := 4) (v := ?vp5) rfl (by kernel_rfl) (by kernel_rfl) (by kernel_rfl) (by kernel_rfl) (by rfl) (by kernel_rfl) (fun _ _ _ h => h) (Or.inl ⟨by rfl, ?hp5⟩) (by assumption) ?rp5
    case hp5 => ((intro w hSw'); (try dsimp only at hSw'); go_simp; (try with_reducible rfl))
    try simp only [Act.put, List.setIfInBounds_toArray, List.set_cons_zero, List.set_cons_succ]
    refine takeP (i := 5) (v := ?vp6) rfl (by kernel_rfl) (by kernel_rfl) (by kernel_rfl) (by rfl) (fun _ _ _ h => h) (Or.inl ⟨by rfl, ?hp6⟩) (by assumption) ?rp6
    case hp6 => ((intro w hSw'); (try dsimp only at hSw'); go_simp; (try with_reducible rfl))
    try simp only [Act.put, List.setIfInBounds_toArray, List.set_cons_zero, List.set_cons_succ]
    refine takeT (i := 6) (v := ?vp7) rfl (by kernel_rfl) (by kernel_rfl) (by kernel_rfl) (by kernel_rfl) (by rfl) (by kernel_rfl) (fun _ _ _ h => h) (Or.inl ⟨by rfl, ?hp7⟩) (by assumption) ?rp7
    case hp7 => ((intro w hSw'); (try dsimp only at hSw'); go_simp; (try with_reducible rfl))
    try simp only [Act.put, List.setIfInBounds_toArray, List.set_cons_zero, List.set_cons_succ]
    refine takeP (i := 7) (v := ?vp8) rfl (by kernel_rfl) (by kernel_rfl) (by kernel_rfl) (by rfl) (fun _ _ _ h => h) (Or.inl ⟨by rfl, ?hp8⟩) (by assumption) ?rp8
    case hp8 => ((intro w hSw'); (try dsimp only at hSw'); go_simp; (try with_reducible rfl))
    try simp only [Act.put, List.setIfInBounds_toArray, List.set_cons_zero, List.set_cons_succ]
    refine takeT (i := 8) (v := ?vp9) rfl (by kernel_rfl) (by kernel_rfl) (by kernel_rfl) (by kernel_rfl) (by rfl) (by kernel_rfl) (fun _ _ _ h => h) (Or.inl ⟨by rfl, ?hp9⟩) (by assumption) ?rp9
    case hp9 => ((intro w hSw'); (try dsimp only at hSw'); go_simp; (try with_reducible rfl))
    try simp only [Act.put, List.setIfInBounds_toArray, List.set_cons_zero, List.set_cons_succ]
    refine takeP (i := 10) (v := ?vp10) rfl (by kernel_rfl) (by kernel_rfl) (by kernel_rfl) (by rfl) (fun _ _ _ h => h) (Or.inl ⟨by rfl, ?hp10⟩) (by assumption) ?rp10
    case hp10 => ((intro w hSw'); (try dsimp only at hSw'); go_simp; (try with_reducible rfl))
    try simp only [Act.put, List.setIfInBounds_toArray, List.set_cons_zero, List.set_cons_succ]
    refine takeT (i := 11) (v := ?vp11) rfl (by kernel_rfl) (by kernel_rfl) (by kernel_rfl) (by kernel_rfl) (by rfl) (by kernel_rfl) (fun _ _ _ h => h) (Or.inl ⟨by rfl, ?hp11⟩) (by assumption) ?rp11
    case hp11 => ((intro w hSw'); (try dsimp only at hSw'); go_simp; (try with_reducible rfl))
    try simp only [Act.put, List.setIfInBounds_toArray, List.set_cons_zero, List.set_cons_succ]
    refine anyT_all (rs := [9]) (by kernel_rfl) (by simp) (consT rfl (fun K hK => ?bp12) AllT.nil)
    case bp12 =>
      go_simp
      refine hK.out _ _ ?sp12 (fun hSw => ?tp12)
      case sp12 => (first | exact ⟨cz, ck0, ck1, ck2⟩ | exact ⟨cell_alloc1 (keep_calla hbl hg0) _, cell_alloc1 (keep_calla hbl hp0) _, cell_alloc1 (keep_calla hbl hp1) _, cell_alloc1 (keep_calla hbl hp2) _⟩ | exact ⟨keep_calla hbl hg0, keep_calla hbl hp0, keep_calla hbl hp1, keep_calla hbl hp2⟩ | exact ⟨cell_alloc1 hg0 _, cell_alloc1 hp0 _, cell_alloc1 hp1 _, cell_alloc1 hp2 _⟩)
      clear hK K
      try simp only [Act.put, List.setIfInBounds_toArray, List.set_cons_zero, List.set_cons_succ]
      refine anyT_all (rs := [12]) (by kernel_rfl) (by simp) (consT rfl (fun K hK => ?bp13) AllT.nil)
      case bp13 =>
        refine app_new_step (Rr := Kd.K k43 (w1.drew.alloc (.cells #[] 43))) k43 w1.heap.size w1.heap.size (by rfl) (.tmp 25) (.tmp 27) 32 43 (.agg #[.int .i64 0, .int .i64 0, .int .i64 0, .int .i64 0, .int .i64 0]) 40 (by rfl) (by rfl) Try.underlying32 infoC (by rfl) (by decide) (by omega) l A l.length c (fun k => w1.heap.size ≤ k) (fun _ => False) (by rfl) (by rfl) (blk_new w1.drew _) (Nat.le_refl _) (Nat.le_refl _) (Kd.C_alloc (C_drew HR1.out) _) (fun _ _ h => h) (fun _ h => h.elim) (fun k hk => Nat.le_trans (Nat.le_succ _) (by simpa using hk)) (by omega) ?_; intro v1 w2 hrow hat hbl hkp; obtain ⟨An, cn, rfl, hln, _⟩ := Kd.R_reads hrow; obtain ⟨HP, HOK, HF, hb2, HS2, hbs⟩ := rp_facts (r := r) (q := q) hb HOK0.out HB.out HS.out hrow hbl; have xg0 := keep_calla hbl hg0; have xg0a := cell_alloc1 xg0; have HP := Aside0.mk HP; have HOK := Aside0.mk HOK; have HF := Aside0.mk HF; have HS2 := Aside0.mk HS2; have HB2 := Aside0.mk hb2; have hbs := Aside0.mk hbs; have HROW := Aside0.mk hrow; have HAT := Aside0.mk hat; have HKP := Aside0.mk hkp; clear hrow hat hkp
        refine hK.out _ _ ?sp13 (fun hSw => ?tp13)
        case sp13 => (first | exact ⟨cz, ck0, ck1, ck2⟩ | exact ⟨cell_alloc1 (keep_calla hbl hg0) _, cell_alloc1 (keep_calla hbl hp0) _, cell_alloc1 (keep_calla hbl hp1) _, cell_alloc1 (keep_calla hbl hp2) _⟩ | exact ⟨keep_calla hbl hg0, keep_calla hbl hp0, keep_calla hbl hp1, keep_calla hbl hp2⟩ | exact ⟨cell_alloc1 hg0 _, cell_alloc1 hp0 _, cell_alloc1 hp1 _, cell_alloc1 hp2 _⟩)
        clear hK K
        try simp only [Act.put, List.setIfInBounds_toArray, List.set_cons_zero, List.set_cons_succ]
        refine takeP (i := 13) (v := ?vp14) rfl (by kernel_rfl) (by kernel_rfl) (by kernel_rfl) (by rfl) (fun _ _ _ h => h) (Or.inl ⟨by rfl, ?hp14⟩) (by assumption) ?rp14
        case hp14 => ((intro w hSw'); (try dsimp only at hSw'); go_simp; (try with_reducible rfl))
        try simp only [Act.put, List.setIfInBounds_toArray, List.set_cons_zero, List.set_cons_succ]
        refine anyT_all (rs := [14]) (by kernel_rfl) (by simp) (consT rfl (fun K hK => ?bp15) AllT.nil)
        case bp15 =>
          go_simp
          refine hK.out _ _ ?sp15 (fun hSw => ?tp15)
          case sp15 => (first | exact ⟨cz, ck0, ck1, ck2⟩ | exact ⟨cell_alloc1 (keep_calla hbl hg0) _, cell_alloc1 (keep_calla hbl hp0) _, cell_alloc1 (keep_calla hbl hp1) _, cell_alloc1 (keep_calla hbl hp2) _⟩ | exact ⟨keep_calla hbl hg0, keep_calla hbl hp0, keep_calla hbl hp1, keep_calla hbl hp2⟩ | exact ⟨cell_alloc1 hg0 _, cell_alloc1 hp0 _, cell_alloc1 hp1 _, cell_alloc1 hp2 _⟩)
          clear hK K
          try simp only [Act.put, List.setIfInBounds_toArray, List.set_cons_zero, List.set_cons_succ]
          refine anyT_all (rs := [15]) (by kernel_rfl) (by simp) (consT rfl (fun K hK => ?bp16) AllT.nil)
          case bp16 =>
            refine Kd.Q_append_step k34 (w0 := w) (W := w2) base (by rfl) (.tmp 20) (.tmp 30) 27 34 (.agg #[.int .i64 0, .int .i64 0, .slice none 0 0]) 40 (by rfl) Try.underlying27 infoPt (by rfl) (by decide) (by omega) (.slice A0 ls.length c0) (ls.map (·.f0)) ⟨r, q, l⟩ [.int .i64 r, .int .i64 q, .slice An l.length cn] ok (fun k => w1.heap.size ≤ k ∧ k < w2.heap.size) (by rfl) (by rfl) HP.out HOK.out HF.out HS2.out.rp ((HB.out.trans (HB2.out.mono HB.out.size)).mono hb) hbs.out (by simp; omega) ?_; intro v2 w3 ho2 hbl2 hgr2 hat2; obtain ⟨Ap, cp, rfl, hlp, _⟩ := Kd.Q_reads ho2; have BG3 := blk_grown HS2.out.blk hgr2 (Kd.Q_ne HS2.out.rp HS2.out.blk (by decide)); have cz : w3.cell? ⟨g, 0, none⟩ = some (.slice A0 ls.length c0) := (blk_cell BG3 0).trans rfl; have fz := blk_frozen BG3 0; have BB3 := blk_grown (blk_below BP1.out HB2.out) hgr2 HNB.out; have ck0 : w3.cell? ⟨w.heap.size, 0, none⟩ = some (.int .i64 r) := (blk_cell BB3 0).trans rfl; have ck1 : w3.cell? ⟨w.heap.size, 1, none⟩ = some (.int .i64 q) := (blk_cell BB3 1).trans rfl; have ck2 : w3.cell? ⟨w.heap.size, 2, none⟩ = some (.slice A l.length c) := (blk_cell BB3 2).trans rfl
            refine hK.out _ _ ?sp16 (fun hSw => ?tp16)
            case sp16 => (first | exact ⟨cz, ck0, ck1, ck2⟩ | exact ⟨cell_alloc1 (keep_calla hbl hg0) _, cell_alloc1 (keep_calla hbl hp0) _, cell_alloc1 (keep_calla hbl hp1) _, cell_alloc1 (keep_calla hbl hp2) _⟩ | exact ⟨keep_calla hbl hg0, keep_calla hbl hp0, keep_calla hbl hp1, keep_calla hbl hp2⟩ | exact ⟨cell_alloc1 hg0 _, cell_alloc1 hp0 _, cell_alloc1 hp1 _, cell_alloc1 hp2 _⟩)
            clear hK K
            try simp only [Act.put, List.setIfInBounds_toArray, List.set_cons_zero, List.set_cons_succ]
            refine takeP (i := 16) (v := ?vp17) rfl (by kernel_rfl) (by kernel_rfl) (by kernel_rfl) (by rfl) (fun _ _ _ h => h) (Or.inl ⟨by rfl, ?hp17⟩) (by assumption) ?rp17
            case hp17 => ((intro w hSw'); (try dsimp only at hSw'); go_simp; (try with_reducible rfl))
            try simp only [Act.put, List.setIfInBounds_toArray, List.set_cons_zero, List.set_cons_succ]
            refine takeP (i := 17) (v := ?vp18) rfl (by kernel_rfl) (by kernel_rfl) (by kernel_rfl) (by rfl) (fun _ _ _ h => h) (Or.inl ⟨by rfl, ?hp18⟩) (by assumption) ?rp18
            case hp18 => ((intro w hSw'); (try dsimp only at hSw'); go_simp; (try with_reducible rfl))
            try simp only [Act.put, List.setIfInBounds_toArray, List.set_cons_zero, List.set_cons_succ]
            refine anyT_all (rs := [18]) (by kernel_rfl) (by simp) (lastT rfl (by kernel_rfl) (fun K hK => ?_))
            go_simp
            refine hK.out _ _ ?_
            clear hK K
            try simp only [Act.put, List.setIfInBounds_toArray, List.set_cons_zero, List.set_cons_succ]
            refine anyT_done (by kernel_rfl) ?_ _
            have hmid := Aside0.mk (mid_of HS2.out HB.out HB2.out ho2 hbl2 hgr2)
            rw [show (ls.map (·.f0) ++ [(⟨r, q, l⟩ : Pt)]).length = ls.length + 1 by simp] at hmid
            clear hbl2 hgr2 hat2 ho2 hbl hb2
            go_wp2_with fail
            go_meet
            exact hmid.out
  case rest =>
    obtain ⟨vp', hblk, hrp, hro, hra, hkp, hbl⟩ := hcut
    have HBK := Aside0.mk hblk
    have HRP := Aside0.mk hrp
    have HRO := Aside0.mk hro
    have HRA := Aside0.mk hra
    have HKP := Aside0.mk hkp
    have HBL := Aside0.mk hbl
    have hg1 : wc.cell? ⟨g, 1, none⟩ = some (.slice A1 ls.length c1) := (blk_cell hblk 1).trans rfl
    have hg2 : wc.cell? ⟨g, 2, none⟩ = some (.slice A2 ls.length c2) := (blk_cell hblk 2).trans rfl
    clear hblk hrp hro hra hkp hbl hp0 hp1 hp2 hg0 HB BP1 HS1 HR1
    go_upto_region 6 with (fail)
    have hg1a := cell_alloc1 hg1
    have hg1b := cell_alloc2 hg1
    have hg2a := cell_alloc1 hg2
    have hg2b := cell_alloc2 hg2
    have HFW : Aside0 (∀ k, wc.heap.size ≤ k → ok k) := ⟨fun k hk => HOK0.out k (Nat.le_trans HKP.out.1 hk)⟩
    have HBW : Aside0 (base ≤ wc.heap.size) := ⟨Nat.le_trans hb HKP.out.1⟩
    have HN0 : Aside0 (some wc.heap.size ≠ (Value.slice A1 ls.length c1).ownBlock) := ⟨Kd.Q_ne_new HRO.out 0⟩
    have HN1 : Aside0 (some (wc.heap.size + 1) ≠ (Value.slice A1 ls.length c1).ownBlock) := ⟨Kd.Q_ne_new HRO.out 1⟩
    refine HU.region_T (S := (fun W => W.cell? ⟨g, 1, none⟩ = some (.slice A1 ls.length c1) ∧ W.cell? ⟨g, 2, none⟩ = some (.slice A2 ls.length c2))) (T := (fun k => decide (17 ≤ k))) (by kernel_rfl) ?_
    have hSw : (fun W => W.cell? ⟨g, 1, none⟩ = some (.slice A1 ls.length c1) ∧ W.cell? ⟨g, 2, none⟩ = some (.slice A2 ls.length c2)) wc.drew := ⟨hg1, hg2⟩
    refine takeP (i := 0) (v := ?vs1) rfl (by kernel_rfl) (by kernel_rfl) (by kernel_rfl) (by rfl) (fun _ _ _ h => h) (Or.inl ⟨by rfl, ?hs1⟩) (by assumption) ?rs1
    case hs1 => ((intro w hSw'); (try dsimp only at hSw'); go_simp; (try with_reducible rfl))
    try simp only [Act.put, List.setIfInBounds_toArray, List.set_cons_zero, List.set_cons_succ]
    refine takeP (i := 1) (v := ?vs2) rfl (by kernel_rfl) (by kernel_rfl) (by kernel_rfl) (by rfl) (fun _ _ _ h => h) (Or.inl ⟨by rfl, ?hs2⟩) (by assumption) ?rs2
    case hs2 => ((intro w hSw'); (try dsimp only at hSw'); go_simp; (try with_reducible rfl))
    try simp only [Act.put, List.setIfInBounds_toArray, List.set_cons_zero, List.set_cons_succ]
    refine takeP (i := 2) (v := ?vs3) rfl (by kernel_rfl) (by kernel_rfl) (by kernel_rfl) (by rfl) (fun _ _ _ h => h) (Or.inl ⟨by rfl, ?hs3⟩) (by assumption) ?rs3
    case hs3 => ((intro w hSw'); (try dsimp only at hSw'); go_simp; (try with_reducible rfl))
    try simp only [Act.put, List.setIfInBounds_toArray, List.set_cons_zero, List.set_cons_succ]
    refine takeP (i := 3) (v := ?vs4) rfl (by kernel_rfl) (by kernel_rfl) (by kernel_rfl) (by rfl) (fun _ _ _ h => h) (Or.inl ⟨by rfl, ?hs4⟩) (by assumption) ?rs4
    case hs4 => ((intro w hSw'); (try dsimp only at hSw'); go_simp; (try with_reducible rfl))
    try simp only [Act.put, List.setIfInBounds_toArray, List.set_cons_zero, List.set_cons_succ]
    refine takeP (i := 4) (v := ?vs5) rfl (by kernel_rfl) (by kernel_rfl) (by kernel_rfl) (by rfl) (fun _ _ _ h => h) (Or.inl ⟨by rfl, ?hs5⟩) (by assumption) ?rs5
    case hs5 => ((intro w hSw'); (try dsimp only at hSw'); go_simp; (try with_reducible rfl))
    try simp only [Act.put, List.setIfInBounds_toArray, List.set_cons_zero, List.set_cons_succ]
    refine takeT (i := 5) (v := ?vs6) rfl (by kernel_rfl) (by kernel_rfl) (by kernel_rfl) (by kernel_rfl) (by rfl) (by kernel_rfl) (fun _ _ _ h => h) (Or.inl ⟨by rfl, ?hs6⟩) (by assumption) ?rs6
    case hs6 => ((intro w hSw'); (try dsimp only at hSw'); go_simp; (try with_reducible rfl))
    try simp only [Act.put, List.setIfInBounds_toArray, List.set_cons_zero, List.set_cons_succ]
    refine takeP (i := 6) (v := ?vs7) rfl (by kernel_rfl) (by kernel_rfl) (by kernel_rfl) (by rfl) (fun _ _ _ h => h) (Or.inl ⟨by rfl, ?hs7⟩) (by assumption) ?rs7
    case hs7 => ((intro w hSw'); (try dsimp only at hSw'); go_simp; (try with_reducible rfl))
    try simp only [Act.put, List.setIfInBounds_toArray, List.set_cons_zero, List.set_cons_succ]
    refine takeP (i := 9) (v := ?vs8) rfl (by kernel_rfl) (by kernel_rfl) (by kernel_rfl) (by rfl) (fun _ _ _ h => h) (Or.inl ⟨by rfl, ?hs8⟩) (by assumption) ?rs8
    case hs8 => ((intro w hSw'); (try dsimp only at hSw'); go_simp; (try with_reducible rfl))
    try simp only [Act.put, List.setIfInBounds_toArray, List.set_cons_zero, List.set_cons_succ]
    refine takeP (i := 10) (v := ?vs9) rfl (by kernel_rfl) (by kernel_rfl) (by kernel_rfl) (by rfl) (fun _ _ _ h => h) (Or.inl ⟨by rfl, ?hs9⟩) (by assumption) ?rs9
    case hs9 => ((intro w hSw'); (try dsimp only at hSw'); go_simp; (try with_reducible rfl))
    try simp only [Act.put, List.setIfInBounds_toArray, List.set_cons_zero, List.set_cons_succ]
    refine takeP (i := 11) (v := ?vs10) rfl (by kernel_rfl) (by kernel_rfl) (by kernel_rfl) (by rfl) (fun _ _ _ h => h) (Or.inl ⟨by rfl, ?hs10⟩) (by assumption) ?rs10
    case hs10 => ((intro w hSw'); (try dsimp only at hSw'); go_simp; (try with_reducible rfl))
    try simp only [Act.put, List.setIfInBounds_toArray, List.set_cons_zero, List.set_cons_succ]
    refine takeT (i := 12) (v := ?vs11) rfl (by kernel_rfl) (by kernel_rfl) (by kernel_rfl) (by kernel_rfl) (by rfl) (by kernel_rfl) (fun _ _ _ h => h) (Or.inl ⟨by rfl, ?hs11⟩) (by assumption) ?rs11
    case hs11 => ((intro w hSw'); (try dsimp only at hSw'); go_simp; (try with_reducible rfl))
    try simp only [Act.put, List.setIfInBounds_toArray, List.set_cons_zero, List.set_cons_succ]
    refine anyT_all (rs := [7, 13]) (by kernel_rfl) (by simp) (consT rfl (fun K hK => ?bs13) (consT rfl (fun K hK => ?bs12) AllT.nil))
    case bs13 =>
      go_simp
      refine hK.out _ _ ?ss13 (fun hSw => ?ts13)
      case ss13 => (first | exact ⟨z1, z2⟩ | exact ⟨cell_alloc1 y1' _, cell_alloc1 y2 _⟩ | exact ⟨y1', y2⟩ | exact ⟨cell_alloc2 hg1 _ _, cell_alloc2 hg2 _ _⟩ | exact ⟨cell_alloc1 hg1 _, cell_alloc1 hg2 _⟩)
      clear hK K
      try simp only [Act.put, List.setIfInBounds_toArray, List.set_cons_zero, List.set_cons_succ]
      refine anyT_all (rs := [8, 13]) (by kernel_rfl) (by simp) (consT rfl (fun K hK => ?bs15) (consT rfl (fun K hK => ?bs14) AllT.nil))
      case bs15 =>
        refine app_one_step Kd.bool (w0 := w) base _ (by rfl) (.tmp 39) (.tmp 41) 28 4 (.bool false) 1 (by rfl) Try.underlying28 infoB (by rfl) (by decide) (by omega) (.slice A1 ls.length c1) (ls.map (·.f1)) off [.bool off] ok (fun _ => False) (by rfl) (by rfl) (by first | exact blk_new wc.drew (.cells #[.bool off] 4) | exact blk_alloc (blk_new wc.drew (.cells #[.bool off] 4)) (.cells #[.int .i64 0] 3) | exact blk_second wc.drew (.cells #[.int .i64 0] 3) (.cells #[.bool off] 4)) (by rfl) (fun _ h => h.elim) (by first | exact six_ok HFW.out (below_alloc2 _ _ _) | exact six_ok HFW.out (below_alloc0 _ _)) (by first | exact Kd.Q_alloc (Kd.Q_alloc (Kd.Q_drew HRO.out) _) _ | exact Kd.Q_alloc (Kd.Q_drew HRO.out) _) (by first | exact six_b HBL.out HBW.out (below_alloc2 _ _ _) | exact six_b HBL.out HBW.out (below_alloc0 _ _)) (by first | exact six_s HBW.out (below_alloc2 _ _ _) | exact six_s HBW.out (below_alloc0 _ _)) (by simp; omega) ?_; intro v4 w4 ho4 hbl4 hgr4 hat4; obtain ⟨Ab, cb, rfl, hlb, _⟩ := Kd.Q_reads ho4; have SX := Aside0.mk (six_one (by first | exact below_alloc2 _ _ _ | exact below_alloc0 _ _) HBK.out HRP.out HRA.out HRO.out HKP.out hgr4); have y2 : w4.cell? ⟨g, 2, none⟩ = some (.slice A2 ls.length c2) := (blk_cell SX.out.1 2).trans rfl; have y1' : w4.cell? ⟨g, 1, none⟩ = some (.slice A1 ls.length c1) := (blk_cell SX.out.1 1).trans rfl; have HO4 := Aside0.mk ho4; have HB4 := Aside0.mk hbl4
        refine hK.out _ _ ?ss15 (fun hSw => ?ts15)
        case ss15 => (first | exact ⟨z1, z2⟩ | exact ⟨cell_alloc1 y1' _, cell_alloc1 y2 _⟩ | exact ⟨y1', y2⟩ | exact ⟨cell_alloc2 hg1 _ _, cell_alloc2 hg2 _ _⟩ | exact ⟨cell_alloc1 hg1 _, cell_alloc1 hg2 _⟩)
        clear hK K
        try simp only [Act.put, List.setIfInBounds_toArray, List.set_cons_zero, List.set_cons_succ]
        refine anyT_all (rs := [13]) (by kernel_rfl) (by simp) (consT rfl (fun K hK => ?bs16) AllT.nil)
        case bs16 =>
          go_simp
          refine hK.out _ _ ?ss16 (fun hSw => ?ts16)
          case ss16 => (first | exact ⟨z1, z2⟩ | exact ⟨cell_alloc1 y1' _, cell_alloc1 y2 _⟩ | exact ⟨y1', y2⟩ | exact ⟨cell_alloc2 hg1 _ _, cell_alloc2 hg2 _ _⟩ | exact ⟨cell_alloc1 hg1 _, cell_alloc1 hg2 _⟩)
          clear hK K
          try simp only [Act.put, List.setIfInBounds_toArray, List.set_cons_zero, List.set_cons_succ]
          refine anyT_all (rs := [14]) (by kernel_rfl) (by simp) (consT rfl (fun K hK => ?bs17) AllT.nil)
          case bs17 =>
            refine app_one_step (Kd.int .i64) (w0 := w) base _ (by rfl) (.tmp 46) (.tmp 47) 29 3 (.int .i64 0) 8 (by rfl) Try.underlying29 infoI (by rfl) (by decide) (by omega) (.slice A2 ls.length c2) (ls.map (·.f2)) 0 [.int .i64 0] ok (fun _ => False) (by rfl) (by rfl) (by first | exact blk_new w4 (.cells #[.int .i64 0] 3) | exact blk_grown (blk_second wc.drew (.cells #[.bool off] 4) (.cells #[.int .i64 0] 3)) hgr4 HN1.out | exact blk_grown (blk_alloc (blk_new wc.drew (.cells #[.int .i64 0] 3)) (.cells #[.bool off] 4)) hgr4 HN0.out) (by rfl) (fun _ h => h.elim) (by first | exact seven_ok HFW.out SX.out.2.2.2.2 (Below.refl _ _) | exact seven_ok HFW.out SX.out.2.2.2.2 (below_alloc0 _ _)) (by first | exact SX.out.2.2.1 | exact Kd.Q_alloc SX.out.2.2.1 _) (by first | exact HB4.out | exact seven_b HB4.out HBW.out SX.out.2.2.2.2 (below_alloc0 _ _)) (by first | exact seven_s HBW.out SX.out.2.2.2.2 (Below.refl _ _) | exact seven_s HBW.out SX.out.2.2.2.2 (below_alloc0 _ _)) (by simp; omega) ?_; intro v5 w5 ho5 hbl5 hgr5 hat5; obtain ⟨Aa, ca, rfl, hla, _⟩ := Kd.Q_reads ho5; have SY := Aside0.mk (seven_one (by first | exact Below.refl _ _ | exact below_alloc0 _ _) SX.out HO4.out hgr5); have z1 : w5.cell? ⟨g, 1, none⟩ = some (.slice A1 ls.length c1) := (blk_cell SY.out.1 1).trans rfl; have z2 : w5.cell? ⟨g, 2, none⟩ = some (.slice A2 ls.length c2) := (blk_cell SY.out.1 2).trans rfl; have y1 := blk_frozen SY.out.1 1; have y2 := blk_frozen SY.out.1 2; have HO5 := Aside0.mk ho5; have HB5 := Aside0.mk hbl5; clear hgr5 hat5 ho5 hbl5
            refine hK.out _ _ ?ss17 (fun hSw => ?ts17)
            case ss17 => (first | exact ⟨z1, z2⟩ | exact ⟨cell_alloc1 y1' _, cell_alloc1 y2 _⟩ | exact ⟨y1', y2⟩ | exact ⟨cell_alloc2 hg1 _ _, cell_alloc2 hg2 _ _⟩ | exact ⟨cell_alloc1 hg1 _, cell_alloc1 hg2 _⟩)
            clear hK K
            try simp only [Act.put, List.setIfInBounds_toArray, List.set_cons_zero, List.set_cons_succ]
            refine takeP (i := 15) (v := ?vs18) rfl (by kernel_rfl) (by kernel_rfl) (by kernel_rfl) (by rfl) (fun _ _ _ h => h) (Or.inl ⟨by rfl, ?hs18⟩) (by assumption) ?rs18
            case hs18 => ((intro w hSw'); (try dsimp only at hSw'); go_simp; (try with_reducible rfl))
            try simp only [Act.put, List.setIfInBounds_toArray, List.set_cons_zero, List.set_cons_succ]
            refine takeP (i := 16) (v := ?vs19) rfl (by kernel_rfl) (by kernel_rfl) (by kernel_rfl) (by rfl) (fun _ _ _ h => h) (Or.inl ⟨by rfl, ?hs19⟩) (by assumption) ?rs19
            case hs19 => ((intro w hSw'); (try dsimp only at hSw'); go_simp; (try with_reducible rfl))
            try simp only [Act.put, List.setIfInBounds_toArray, List.set_cons_zero, List.set_cons_succ]
            refine anyT_all (rs := [17]) (by kernel_rfl) (by simp) (lastT rfl (by kernel_rfl) (fun K hK => ?_))
            go_simp
            refine hK.out _ _ ?_
            clear hK K
            try simp only [Act.put, List.setIfInBounds_toArray, List.set_cons_zero, List.set_cons_succ]
            refine anyT_all (rs := [18]) (by kernel_rfl) (by simp) (lastT rfl (by kernel_rfl) (fun K hK => ?_))
            go_simp
            refine hK.out _ _ ?_
            clear hK K
            try simp only [Act.put, List.setIfInBounds_toArray, List.set_cons_zero, List.set_cons_succ]
            refine anyT_all (rs := [19]) (by kernel_rfl) (by simp) (lastT rfl (by kernel_rfl) (fun K hK => ?_))
            go_simp
            refine hK.out _ _ ?_
            clear hK K
            try simp only [Act.put, List.setIfInBounds_toArray, List.set_cons_zero, List.set_cons_succ]
            refine anyT_all (rs := [20]) (by kernel_rfl) (by simp) (lastT rfl (by kernel_rfl) (fun K hK => ?_))
            go_simp
            refine hK.out _ _ ?_
            clear hK K
            try simp only [Act.put, List.setIfInBounds_toArray, List.set_cons_zero, List.set_cons_succ]
            refine anyT_done (by kernel_rfl) ?_ _
            have hend := Aside0.mk (seven_end (x := (⟨⟨r, q, l⟩, off, 0⟩ : Lv)) HS.out.hg SY.out HO5.out HB5.out)
            simp only [List.length_append, List.length_map, List.length_singleton] at hend
            clear z1 z2 y2 SX SY HO4 HB4 HO5 HB5
            go_wp2
            go_ret
            exact ⟨rfl, ⟨_, _, _, hend.out.1⟩, hend.out.2.1, hend.out.2.2⟩
      case bs14 =>
        go_simp
        refine hK.out _ _ ?ss14 (fun hSw => ?ts14)
        case ss14 => (first | exact ⟨z1, z2⟩ | exact ⟨cell_alloc1 y1' _, cell_alloc1 y2 _⟩ | exact ⟨y1', y2⟩ | exact ⟨cell_alloc2 hg1 _ _, cell_alloc2 hg2 _ _⟩ | exact ⟨cell_alloc1 hg1 _, cell_alloc1 hg2 _⟩)
        clear hK K
        try simp only [Act.put, List.setIfInBounds_toArray, List.set_cons_zero, List.set_cons_succ]
        refine anyT_all (rs := [8]) (by kernel_rfl) (by simp) (consT rfl (fun K hK => ?bs20) AllT.nil)
        case bs20 =>
          refine app_one_step Kd.bool (w0 := w) base _ (by rfl) (.tmp 39) (.tmp 41) 28 4 (.bool false) 1 (by rfl) Try.underlying28 infoB (by rfl) (by decide) (by omega) (.slice A1 ls.length c1) (ls.map (·.f1)) off [.bool off] ok (fun _ => False) (by rfl) (by rfl) (by first | exact blk_new wc.drew (.cells #[.bool off] 4) | exact blk_alloc (blk_new wc.drew (.cells #[.bool off] 4)) (.cells #[.int .i64 0] 3) | exact blk_second wc.drew (.cells #[.int .i64 0] 3) (.cells #[.bool off] 4)) (by rfl) (fun _ h => h.elim) (by first | exact six_ok HFW.out (below_alloc2 _ _ _) | exact six_ok HFW.out (below_alloc0 _ _)) (by first | exact Kd.Q_alloc (Kd.Q_alloc (Kd.Q_drew HRO.out) _) _ | exact Kd.Q_alloc (Kd.Q_drew HRO.out) _) (by first | exact six_b HBL.out HBW.out (below_alloc2 _ _ _) | exact six_b HBL.out HBW.out (below_alloc0 _ _)) (by first | exact six_s HBW.out (below_alloc2 _ _ _) | exact six_s HBW.out (below_alloc0 _ _)) (by simp; omega) ?_; intro v4 w4 ho4 hbl4 hgr4 hat4; obtain ⟨Ab, cb, rfl, hlb, _⟩ := Kd.Q_reads ho4; have SX := Aside0.mk (six_one (by first | exact below_alloc2 _ _ _ | exact below_alloc0 _ _) HBK.out HRP.out HRA.out HRO.out HKP.out hgr4); have y2 : w4.cell? ⟨g, 2, none⟩ = some (.slice A2 ls.length c2) := (blk_cell SX.out.1 2).trans rfl; have y1' : w4.cell? ⟨g, 1, none⟩ = some (.slice A1 ls.length c1) := (blk_cell SX.out.1 1).trans rfl; have HO4 := Aside0.mk ho4; have HB4 := Aside0.mk hbl4
          refine hK.out _ _ ?ss20 (fun hSw => ?ts20)
          case ss20 => (first | exact ⟨z1, z2⟩ | exact ⟨cell_alloc1 y1' _, cell_alloc1 y2 _⟩ | exact ⟨y1', y2⟩ | exact ⟨cell_alloc2 hg1 _ _, cell_alloc2 hg2 _ _⟩ | exact ⟨cell_alloc1 hg1 _, cell_alloc1 hg2 _⟩)
          clear hK K
          try simp only [Act.put, List.setIfInBounds_toArray, List.set_cons_zero, List.set_cons_succ]
          refine anyT_all (rs := [14]) (by kernel_rfl) (by simp) (consT rfl (fun K hK => ?bs21) AllT.nil)
          case bs21 =>
            refine app_one_step (Kd.int .i64) (w0 := w) base _ (by rfl) (.tmp 46) (.tmp 47) 29 3 (.int .i64 0) 8 (by rfl) Try.underlying29 infoI (by rfl) (by decide) (by omega) (.slice A2 ls.length c2) (ls.map (·.f2)) 0 [.int .i64 0] ok (fun _ => False) (by rfl) (by rfl) (by first | exact blk_new w4 (.cells #[.int .i64 0] 3) | exact blk_grown (blk_second wc.drew (.cells #[.bool off] 4) (.cells #[.int .i64 0] 3)) hgr4 HN1.out | exact blk_grown (blk_alloc (blk_new wc.drew (.cells #[.int .i64 0] 3)) (.cells #[.bool off] 4)) hgr4 HN0.out) (by rfl) (fun _ h => h.elim) (by first | exact seven_ok HFW.out SX.out.2.2.2.2 (Below.refl _ _) | exact seven_ok HFW.out SX.out.2.2.2.2 (below_alloc0 _ _)) (by first | exact SX.out.2.2.1 | exact Kd.Q_alloc SX.out.2.2.1 _) (by first | exact HB4.out | exact seven_b HB4.out HBW.out SX.out.2.2.2.2 (below_alloc0 _ _)) (by first | exact seven_s HBW.out SX.out.2.2.2.2 (Below.refl _ _) | exact seven_s HBW.out SX.out.2.2.2.2 (below_alloc0 _ _)) (by simp; omega) ?_; intro v5 w5 ho5 hbl5 hgr5 hat5; obtain ⟨Aa, ca, rfl, hla, _⟩ := Kd.Q_reads ho5; have SY := Aside0.mk (seven_one (by first | exact Below.refl _ _ | exact below_alloc0 _ _) SX.out HO4.out hgr5); have z1 : w5.cell? ⟨g, 1, none⟩ = some (.slice A1 ls.length c1) := (blk_cell SY.out.1 1).trans rfl; have z2 : w5.cell? ⟨g, 2, none⟩ = some (.slice A2 ls.length c2) := (blk_cell SY.out.1 2).trans rfl; have y1 := blk_frozen SY.out.1 1; have y2 := blk_frozen SY.out.1 2; have HO5 := Aside0.mk ho5; have HB5 := Aside0.mk hbl5; clear hgr5 hat5 ho5 hbl5
            refine hK.out _ _ ?ss21 (fun hSw => ?ts21)
            case ss21 => (first | exact ⟨z1, z2⟩ | exact ⟨cell_alloc1 y1' _, cell_alloc1 y2 _⟩ | exact ⟨y1', y2⟩ | exact ⟨cell_alloc2 hg1 _ _, cell_alloc2 hg2 _ _⟩ | exact ⟨cell_alloc1 hg1 _, cell_alloc1 hg2 _⟩)
            clear hK K
            try simp only [Act.put, List.setIfInBounds_toArray, List.set_cons_zero, List.set_cons_succ]
            refine takeP (i := 15) (v := ?vs22) rfl (by kernel_rfl) (by kernel_rfl) (by kernel_rfl) (by rfl) (fun _ _ _ h => h) (Or.inl ⟨by rfl, ?hs22⟩) (by assumption) ?rs22
            case hs22 => ((intro w hSw'); (try dsimp only at hSw'); go_simp; (try with_reducible rfl))
            try simp only [Act.put, List.setIfInBounds_toArray, List.set_cons_zero, List.set_cons_succ]
            refine takeP (i := 16) (v := ?vs23) rfl (by kernel_rfl) (by kernel_rfl) (by kernel_rfl) (by rfl) (fun _ _ _ h => h) (Or.inl ⟨by rfl, ?hs23⟩) (by assumption) ?rs23
            case hs23 => ((intro w hSw'); (try dsimp only at hSw'); go_simp; (try with_reducible rfl))
            try simp only [Act.put, List.setIfInBounds_toArray, List.set_cons_zero, List.set_cons_succ]
            refine anyT_all (rs := [17]) (by kernel_rfl) (by simp) (lastT rfl (by kernel_rfl) (fun K hK => ?_))
            go_simp
            refine hK.out _ _ ?_
            clear hK K
            try simp only [Act.put, List.setIfInBounds_toArray, List.set_cons_zero, List.set_cons_succ]
            refine anyT_all (rs := [18]) (by kernel_rfl) (by simp) (lastT rfl (by kernel_rfl) (fun K hK => ?_))
            go_simp
            refine hK.out _ _ ?_
            clear hK K
            try simp only [Act.put, List.setIfInBounds_toArray, List.set_cons_zero, List.set_cons_succ]
            refine anyT_all (rs := [19]) (by kernel_rfl) (by simp) (lastT rfl (by kernel_rfl) (fun K hK => ?_))
            go_simp
            refine hK.out _ _ ?_
            clear hK K
            try simp only [Act.put, List.setIfInBounds_toArray, List.set_cons_zero, List.set_cons_succ]
            refine anyT_all (rs := [20]) (by kernel_rfl) (by simp) (lastT rfl (by kernel_rfl) (fun K hK => ?_))
            go_simp
            refine hK.out _ _ ?_
            clear hK K
            try simp only [Act.put, List.setIfInBounds_toArray, List.set_cons_zero, List.set_cons_succ]
            refine anyT_done (by kernel_rfl) ?_ _
            have hend := Aside0.mk (seven_end (x := (⟨⟨r, q, l⟩, off, 0⟩ : Lv)) HS.out.hg SY.out HO5.out HB5.out)
            simp only [List.length_append, List.length_map, List.length_singleton] at hend
            clear z1 z2 y2 SX SY HO4 HB4 HO5 HB5
            go_wp2
            go_ret
            exact ⟨rfl, ⟨_, _, _, hend.out.1⟩, hend.out.2.1, hend.out.2.2⟩
    case bs12 =>
      go_simp
      refine hK.out _ _ ?ss12 (fun hSw => ?ts12)
      case ss12 => (first | exact ⟨z1, z2⟩ | exact ⟨cell_alloc1 y1' _, cell_alloc1 y2 _⟩ | exact ⟨y1', y2⟩ | exact ⟨cell_alloc2 hg1 _ _, cell_alloc2 hg2 _ _⟩ | exact ⟨cell_alloc1 hg1 _, cell_alloc1 hg2 _⟩)
      clear hK K
      try simp only [Act.put, List.setIfInBounds_toArray, List.set_cons_zero, List.set_cons_succ]
      refine anyT_all (rs := [7]) (by kernel_rfl) (by simp) (consT rfl (fun K hK => ?bs24) AllT.nil)
      case bs24 =>
        go_simp
        refine hK.out _ _ ?ss24 (fun hSw => ?ts24)
        case ss24 => (first | exact ⟨z1, z2⟩ | exact ⟨cell_alloc1 y1' _, cell_alloc1 y2 _⟩ | exact ⟨y1', y2⟩ | exact ⟨cell_alloc2 hg1 _ _, cell_alloc2 hg2 _ _⟩ | exact ⟨cell_alloc1 hg1 _, cell_alloc1 hg2 _⟩)
        clear hK K
        try simp only [Act.put, List.setIfInBounds_toArray, List.set_cons_zero, List.set_cons_succ]
        refine anyT_all (rs := [8]) (by kernel_rfl) (by simp) (consT rfl (fun K hK => ?bs25) AllT.nil)
        case bs25 =>
          refine app_one_step Kd.bool (w0 := w) base _ (by rfl) (.tmp 39) (.tmp 41) 28 4 (.bool false) 1 (by rfl) Try.underlying28 infoB (by rfl) (by decide) (by omega) (.slice A1 ls.length c1) (ls.map (·.f1)) off [.bool off] ok (fun _ => False) (by rfl) (by rfl) (by first | exact blk_new wc.drew (.cells #[.bool off] 4) | exact blk_alloc (blk_new wc.drew (.cells #[.bool off] 4)) (.cells #[.int .i64 0] 3) | exact blk_second wc.drew (.cells #[.int .i64 0] 3) (.cells #[.bool off] 4)) (by rfl) (fun _ h => h.elim) (by first | exact six_ok HFW.out (below_alloc2 _ _ _) | exact six_ok HFW.out (below_alloc0 _ _)) (by first | exact Kd.Q_alloc (Kd.Q_alloc (Kd.Q_drew HRO.out) _) _ | exact Kd.Q_alloc (Kd.Q_drew HRO.out) _) (by first | exact six_b HBL.out HBW.out (below_alloc2 _ _ _) | exact six_b HBL.out HBW.out (below_alloc0 _ _)) (by first | exact six_s HBW.out (below_alloc2 _ _ _) | exact six_s HBW.out (below_alloc0 _ _)) (by simp; omega) ?_; intro v4 w4 ho4 hbl4 hgr4 hat4; obtain ⟨Ab, cb, rfl, hlb, _⟩ := Kd.Q_reads ho4; have SX := Aside0.mk (six_one (by first | exact below_alloc2 _ _ _ | exact below_alloc0 _ _) HBK.out HRP.out HRA.out HRO.out HKP.out hgr4); have y2 : w4.cell? ⟨g, 2, none⟩ = some (.slice A2 ls.length c2) := (blk_cell SX.out.1 2).trans rfl; have y1' : w4.cell? ⟨g, 1, none⟩ = some (.slice A1 ls.length c1) := (blk_cell SX.out.1 1).trans rfl; have HO4 := Aside0.mk ho4; have HB4 := Aside0.mk hbl4
          refine hK.out _ _ ?ss25 (fun hSw => ?ts25)
          case ss25 => (first | exact ⟨z1, z2⟩ | exact ⟨cell_alloc1 y1' _, cell_alloc1 y2 _⟩ | exact ⟨y1', y2⟩ | exact ⟨cell_alloc2 hg1 _ _, cell_alloc2 hg2 _ _⟩ | exact ⟨cell_alloc1 hg1 _, cell_alloc1 hg2 _⟩)
          clear hK K
          try simp only [Act.put, List.setIfInBounds_toArray, List.set_cons_zero, List.set_cons_succ]
          refine anyT_all (rs := [14]) (by kernel_rfl) (by simp) (consT rfl (fun K hK => ?bs26) AllT.nil)
          case bs26 =>
            refine app_one_step (Kd.int .i64) (w0 := w) base _ (by rfl) (.tmp 46) (.tmp 47) 29 3 (.int .i64 0) 8 (by rfl) Try.underlying29 infoI (by rfl) (by decide) (by omega) (.slice A2 ls.length c2) (ls.map (·.f2)) 0 [.int .i64 0] ok (fun _ => False) (by rfl) (by rfl) (by first | exact blk_new w4 (.cells #[.int .i64 0] 3) | exact blk_grown (blk_second wc.drew (.cells #[.bool off] 4) (.cells #[.int .i64 0] 3)) hgr4 HN1.out | exact blk_grown (blk_alloc (blk_new wc.drew (.cells #[.int .i64 0] 3)) (.cells #[.bool off] 4)) hgr4 HN0.out) (by rfl) (fun _ h => h.elim) (by first | exact seven_ok HFW.out SX.out.2.2.2.2 (Below.refl _ _) | exact seven_ok HFW.out SX.out.2.2.2.2 (below_alloc0 _ _)) (by first | exact SX.out.2.2.1 | exact Kd.Q_alloc SX.out.2.2.1 _) (by first | exact HB4.out | exact seven_b HB4.out HBW.out SX.out.2.2.2.2 (below_alloc0 _ _)) (by first | exact seven_s HBW.out SX.out.2.2.2.2 (Below.refl _ _) | exact seven_s HBW.out SX.out.2.2.2.2 (below_alloc0 _ _)) (by simp; omega) ?_; intro v5 w5 ho5 hbl5 hgr5 hat5; obtain ⟨Aa, ca, rfl, hla, _⟩ := Kd.Q_reads ho5; have SY := Aside0.mk (seven_one (by first | exact Below.refl _ _ | exact below_alloc0 _ _) SX.out HO4.out hgr5); have z1 : w5.cell? ⟨g, 1, none⟩ = some (.slice A1 ls.length c1) := (blk_cell SY.out.1 1).trans rfl; have z2 : w5.cell? ⟨g, 2, none⟩ = some (.slice A2 ls.length c2) := (blk_cell SY.out.1 2).trans rfl; have y1 := blk_frozen SY.out.1 1; have y2 := blk_frozen SY.out.1 2; have HO5 := Aside0.mk ho5; have HB5 := Aside0.mk hbl5; clear hgr5 hat5 ho5 hbl5
            refine hK.out _ _ ?ss26 (fun hSw => ?ts26)
            case ss26 => (first | exact ⟨z1, z2⟩ | exact ⟨cell_alloc1 y1' _, cell_alloc1 y2 _⟩ | exact ⟨y1', y2⟩ | exact ⟨cell_alloc2 hg1 _ _, cell_alloc2 hg2 _ _⟩ | exact ⟨cell_alloc1 hg1 _, cell_alloc1 hg2 _⟩)
            clear hK K
            try simp only [Act.put, List.setIfInBounds_toArray, List.set_cons_zero, List.set_cons_succ]
            refine takeP (i := 15) (v := ?vs27) rfl (by kernel_rfl) (by kernel_rfl) (by kernel_rfl) (by rfl) (fun _ _ _ h => h) (Or.inl ⟨by rfl, ?hs27⟩) (by assumption) ?rs27
            case hs27 => ((intro w hSw'); (try dsimp only at hSw'); go_simp; (try with_reducible rfl))
            try simp only [Act.put, List.setIfInBounds_toArray, List.set_cons_zero, List.set_cons_succ]
            refine takeP (i := 16) (v := ?vs28) rfl (by kernel_rfl) (by kernel_rfl) (by kernel_rfl) (by rfl) (fun _ _ _ h => h) (Or.inl ⟨by rfl, ?hs28⟩) (by assumption) ?rs28
            case hs28 => ((intro w hSw'); (try dsimp only at hSw'); go_simp; (try with_reducible rfl))
            try simp only [Act.put, List.setIfInBounds_toArray, List.set_cons_zero, List.set_cons_succ]
            refine anyT_all (rs := [17]) (by kernel_rfl) (by simp) (lastT rfl (by kernel_rfl) (fun K hK => ?_))
            go_simp
            refine hK.out _ _ ?_
            clear hK K
            try simp only [Act.put, List.setIfInBounds_toArray, List.set_cons_zero, List.set_cons_succ]
            refine anyT_all (rs := [18]) (by kernel_rfl) (by simp) (lastT rfl (by kernel_rfl) (fun K hK => ?_))
            go_simp
            refine hK.out _ _ ?_
            clear hK K
            try simp only [Act.put, List.setIfInBounds_toArray, List.set_cons_zero, List.set_cons_succ]
            refine anyT_all (rs := [19]) (by kernel_rfl) (by simp) (lastT rfl (by kernel_rfl) (fun K hK => ?_))
            go_simp
            refine hK.out _ _ ?_
            clear hK K
            try simp only [Act.put, List.setIfInBounds_toArray, List.set_cons_zero, List.set_cons_succ]
            refine anyT_all (rs := [20]) (by kernel_rfl) (by simp) (lastT rfl (by kernel_rfl) (fun K hK => ?_))
            go_simp
            refine hK.out _ _ ?_
            clear hK K
            try simp only [Act.put, List.setIfInBounds_toArray, List.set_cons_zero, List.set_cons_succ]
            refine anyT_done (by kernel_rfl) ?_ _
            have hend := Aside0.mk (seven_end (x := (⟨⟨r, q, l⟩, off, 0⟩ : Lv)) HS.out.hg SY.out HO5.out HB5.out)
            simp only [List.length_append, List.length_map, List.length_singleton] at hend
            clear z1 z2 y2 SX SY HO4 HB4 HO5 HB5
            go_wp2
            go_ret
            exact ⟨rfl, ⟨_, _, _, hend.out.1⟩, hend.out.2.1, hend.out.2.2⟩
end Go.Proofs.Ytfmlpcdbllpcaaa.HQ
