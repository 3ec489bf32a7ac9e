/-
  CONTRACTS BY HAND (paths, 5): a stack's state whose levels are written, New, Depth, Push: what is answered, what the stack is then; what else was there stays.
-/
import Derived.Test.YtfmlpcdbllpcaaaDoorPtP
import Derived.Deep.RegionLaw
namespace Go.Proofs.YtfmlpcdbllpcaaaDoor.HQ
open Go.Proofs.YtfmlpcdbllpcaaaDoor.HD Go.RowKit Go.Proofs.YtfmlpcdbllpcaaaDoor.HK Go.Proofs.YtfmlpcdbllpcaaaDoor.HP Go.Proofs.YtfmlpcdbllpcaaaDoorW.PrintWords Go.Proofs.YtfmlpcdbllpcaaaDoorW.PrintLast Go.Proofs.YtfmlpcdbllpcaaaDoorW.PrintMore
set_option linter.unusedVariables false
set_option linter.unusedSimpArgs false
theorem ret_int {k : IntKind} {a b : Int} (h : a = b) : Ending.returned (.int k a) = .returned (.int k b) := by rw [h]
theorem ret_bool {a b : Bool} (h : a = b) : Ending.returned (.bool a) = .returned (.bool b) := by rw [h]
abbrev Lv := S63
theorem infoL : (Tryd.prog.info? 63).map (fun i => (i.zero, i.size, i.bytes)) = some (some (.agg #[.int .i64 0, .int .i64 0, .slice none 0 0, .bool false, .int .i64 0]), 5, 56) := by kernel_rfl
/-- a stack's state: its block, its row of levels -/
structure Sq (W : World) (base : Nat) (ok : Nat → Prop) (g : Nat) (v : Value) (ls : List Lv) : Prop where
  blk : W.heap[g]? = some (.cells #[.bool true, v] 59 (0, 0))
  hg : base ≤ g
  row : Kd.Q k63 63 W base ok v ls
theorem new_calls (w : World) (ok : Nat → Prop) : Calls Tryd.prog 11 #[] w fun e w' => e = .returned (.pointer (some ⟨w.heap.size, 0, none⟩)) ∧ Sq w' w.heap.size ok w.heap.size (.slice none 0 0) [] ∧ Below w.heap.size w w' := by
  go_enter Tryd.func11, Tryd.ntmps11
  go_wp2
  go_ret
  exact ⟨rfl, ⟨blk_new _ _, Nat.le_refl _, Kd.Q_nil _ _ _ _ _⟩, below_alloc (Below.refl _ _) _⟩
theorem depth_calls (base : Nat) (ok : Nat → Prop) (g : Nat) (v : Value) (ls : List Lv) (w : World) (h : Sq w base ok g v ls) : Calls Tryd.prog 16 #[.pointer (some ⟨g, 0, none⟩)] w fun e w' => e = .returned (.int .i64 ls.length) ∧ w = w' := by
  obtain ⟨A, c, rfl, hl, hr⟩ := Kd.Q_reads h.row
  have h1 := (blk_cell h.blk 1).trans rfl
  go_enter Tryd.func16, Tryd.ntmps16
  go_wp2
  go_ret
  exact ⟨rfl, rfl⟩
theorem E58 : ∀ q, q ∈ 63 :: (k63).E → q ≠ 38 := by decide
theorem E43 : ∀ q, q ∈ 49 :: (k49).E → q ≠ 38 := by decide
theorem E58s : ∀ q, q ∈ 63 :: (k63).E → q ≠ 59 := by decide
set_option maxHeartbeats 2000000 in
theorem push_ok (base : Nat) (ok : Nat → Prop) (g : Nat) (v : Value) (ls : List Lv) (r q : Int) (A : Option Addr) (c : Nat) (l : List Ch) (off : Bool) (w : World) (h : Sq w base ok g v ls) (hb : base ≤ w.heap.size) (hok : ∀ k, w.heap.size ≤ k → ok k)
    (hr : Kd.C k49 w A l.length l) (hc : l.length ≤ c) (hl : l.length ≤ 1000) (hm : mayP r q l = true) (hn : ls.length < 2000) :
    Calls Tryd.prog 14 #[.pointer (some ⟨g, 0, none⟩), .agg #[.int .i64 r, .int .i64 q, .slice A l.length c], .bool off] w fun e w' => e = .returned (.int .i64 0) ∧ (∃ v', Sq w' base ok g v' (ls ++ [⟨⟨r, q, l⟩, off, 0⟩]) ∧ (v'.ownBlock = v.ownBlock ∨ ∃ b, v'.ownBlock = some b ∧ w.heap.size ≤ b)) ∧ Kept w w' (fun k => k = g ∨ some k = v.ownBlock) ∧ Below base w w' := by
  have hg0 := (blk_cell h.blk 0).trans rfl
  have HR := Aside0.mk hr
  have HS := Aside0.mk h
  have hgl := blk_lt h.blk
  obtain ⟨Av, cv, hve, hlv, hrv⟩ := Kd.Q_reads h.row
  have HV := Aside0.mk hve
  have hg1 := (blk_cell h.blk 1).trans rfl
  clear hr h hve hrv
  go_enter Tryd.func14, Tryd.ntmps14
  go_wp2_with fail
  have hb1 := below_alloc (Below.refl w.heap.size w) (.cells #[.int .i64 r, .int .i64 q, .slice A l.length c] 38)
  have BP := Aside0.mk (blk_new w (.cells #[.int .i64 r, .int .i64 q, .slice A l.length c] 38))
  refine (may_c r q A c l _ (Kd.C_below HR.out hb1) hc).mono ?_
  rintro e w1 ⟨rfl, hbx⟩
  have HB := Aside0.mk (below_then hb1 hb1.size hbx)
  have BP1 := Aside0.mk (blk_below BP.out hbx)
  have hg0 := pw_cell_below HB.out hg0
  have hg1 := pw_cell_below HB.out hg1
  clear hb1 hbx BP
  rw [hm]
  have hlen : ((ls.length : Int) == 2000) = false := by simp; omega
  have hp0 := (blk_cell BP1.out 0).trans rfl
  have hp1 := (blk_cell BP1.out 1).trans rfl
  have hp2 := (blk_cell BP1.out 2).trans rfl
  have hf2 := blk_frozen BP1.out 2
  rw [HV.out] at hg1
  go_wp2_with fail
  refine (clone_c A c l w1 (Kd.C_below HR.out HB.out) hc (by omega)).mono ?_
  rintro e w2 ⟨VN, rfl, RN, hb2⟩
  obtain ⟨An, cn, rfl, hln, _⟩ := Kd.R_reads RN
  have HB2 := Aside0.mk (below_then HB.out HB.out.size hb2)
  have BP2 := Aside0.mk (blk_below BP1.out hb2)
  have hg0 := pw_cell_below hb2 hg0
  have hg1 := pw_cell_below hb2 hg1
  have hz12 := Aside0.mk hb2.size
  clear hb2 BP1 hp0 hp1 hp2 hf2
  have hp0 := (blk_cell BP2.out 0).trans rfl
  have hp1 := (blk_cell BP2.out 1).trans rfl
  have hp2 := (blk_cell BP2.out 2).trans rfl
  have hf2 := blk_frozen BP2.out 2
  have RN0 := Aside0.mk RN
  clear RN
  go_wp2_with fail
  have B3 := blk_put (cs' := #[.int .i64 r, .int .i64 q, .slice An l.length cn]) BP2.out 2 (.slice An l.length cn) rfl
  have HB3 := Aside0.mk (HB2.out.setCell (p := ⟨w.heap.size, 2, none⟩) (Nat.le_refl _) (.slice An l.length cn))
  have R3 := Aside0.mk (Kd.Q_set (Kd.Q_below HS.out.row HB2.out) BP2.out E58 2 (.slice An l.length cn))
  have RN3 := Aside0.mk (Kd.R_set RN0.out BP2.out E43 2 (.slice An l.length cn))
  have hs3 : (w2.setCell ⟨w.heap.size, 2, none⟩ (.slice An l.length cn)).heap.size = w2.heap.size := by simp
  have hg0 : (w2.setCell ⟨w.heap.size, 2, none⟩ (.slice An l.length cn)).cell? ⟨g, 0, none⟩ = some (.bool true) := (blk_cell (blk_far (blk_below HS.out.blk HB2.out) (by show g ≠ w.heap.size; omega) (.slice An l.length cn)) 0).trans rfl
  have hg1 : (w2.setCell ⟨w.heap.size, 2, none⟩ (.slice An l.length cn)).cell? ⟨g, 1, none⟩ = some (.slice Av ls.length cv) := (blk_cell (blk_far (blk_below HS.out.blk HB2.out) (by show g ≠ w.heap.size; omega) (.slice An l.length cn)) 1).trans (by rw [HV.out]; rfl)
  have BG0 := blk_far (blk_below HS.out.blk HB2.out) (p := ⟨w.heap.size, 2, none⟩) (by show g ≠ w.heap.size; omega) (.slice An l.length cn)
  rw [HV.out] at BG0
  have hs3 := Aside0.mk hs3
  clear hp0 hp1 hp2 hf2
  generalize w2.setCell ⟨w.heap.size, 2, none⟩ (.slice An l.length cn) = w3 at B3 HB3 R3 RN3 hs3 hg0 hg1 BG0 ⊢
  have hp0 := (blk_cell B3 0).trans rfl
  have hp1 := (blk_cell B3 1).trans rfl
  have hp2 := (blk_cell B3 2).trans rfl
  have BP3 := Aside0.mk B3
  clear B3 BP2 RN0
  rw [HV.out] at R3
  have BG := Aside0.mk (show w3.heap[g]? = some (.cells #[.bool true, .slice Av ls.length cv] 59 (0, 0)) from BG0)
  have NG : some g ≠ (Value.slice Av ls.length cv).ownBlock := Kd.Q_ne R3.out BG.out (by decide)
  have NG := Aside0.mk NG
  clear hg0
  have hOwn : ∀ k, (Value.slice Av ls.length cv).ownBlock = some k → k < w.heap.size := by
    intro k hk
    exact Kd.Q_lt HS.out.row k (by rw [HV.out]; exact hk)
  have HOwn := Aside0.mk hOwn
  have HP : Aside0 (Kd.M k63 w3.drew base (fun k => w1.heap.size ≤ k ∧ k < w3.heap.size) ⟨⟨r, q, l⟩, off, 0⟩ [.int .i64 r, .int .i64 q, .slice An l.length cn, .bool off, .int .i64 0]) :=
    ⟨k63_mkM w3.drew base _ ⟨⟨r, q, l⟩, off, 0⟩ (Kd.R_mono (Kd.R_lower (Kd.R_bound RN3.out) (Nat.le_trans hb HB.out.size)) (fun k hk => ⟨hk.2.1, hk.2.2.1⟩))⟩
  have HOK : Aside0 (∀ k, (w1.heap.size ≤ k ∧ k < w3.heap.size) → ok k ∧ some k ≠ (Value.slice Av ls.length cv).ownBlock) :=
    ⟨fun k hk => ⟨hok k (Nat.le_trans HB.out.size hk.1), fun he => by have h1 := hOwn k he.symm; have h2 := HB.out.size; have h3 := hk.1; omega⟩⟩
  have HF : Aside0 (∀ k, w3.drew.heap.size ≤ k → ok k) := ⟨fun k hk => hok k (Nat.le_trans HB3.out.size hk)⟩
  have HBD : Aside0 (Below base w w3.drew) := ⟨(HB3.out.mono hb).drew⟩
  have hbs : Aside0 (base ≤ w3.drew.heap.size) := ⟨Nat.le_trans hb HB3.out.size⟩
  clear hOwn
  have hg1a := fun o => pw_cell_below (below_alloc (Below.refl w3.heap.size w3) o) hg1
  go_region_law ((refine Kd.Q_append_step k63 (w0 := w) (W := w3.drew) base (by rfl) (.tmp 36) (.tmp 40) 57 63 (.agg #[.int .i64 0, .int .i64 0, .slice none 0 0, .bool false, .int .i64 0]) 56 (by rfl) Tryd.underlying57 infoL (by rfl) (by decide) (by omega) (.slice Av ls.length cv) ls ⟨⟨r, q, l⟩, off, 0⟩ [.int .i64 r, .int .i64 q, .slice An l.length cn, .bool off, .int .i64 0] ok (fun k => w1.heap.size ≤ k ∧ k < w3.heap.size) (by rfl) (by rfl) HP.out HOK.out HF.out R3.out HBD.out hbs.out (by omega) ?_; intro v1 w4 ho hbl hgr hat; obtain ⟨A1, c1, rfl, hl1, _⟩ := Kd.Q_reads ho; have BG4 := blk_grown (w := w3.drew) BG.out hgr NG.out; have cz1 := (blk_cell BG4 1).trans rfl; have fz1 := blk_frozen BG4 1; have HO4 := Aside0.mk ho; have BG5 := Aside0.mk BG4; have HBL := Aside0.mk hbl; have HGR := Aside0.mk hgr; have HAT := Aside0.mk hat; clear ho hbl hgr hat BG4))
  all_goals (
    have BG6 := blk_put (cs' := #[.bool true, .slice A1 (ls ++ [(⟨⟨r, q, l⟩, off, 0⟩ : Lv)]).length c1]) BG5.out 1 (.slice A1 (ls ++ [(⟨⟨r, q, l⟩, off, 0⟩ : Lv)]).length c1) rfl
    have R6 := Aside0.mk (Kd.Q_set HO4.out BG5.out E58s 1 (.slice A1 (ls ++ [(⟨⟨r, q, l⟩, off, 0⟩ : Lv)]).length c1))
    have HBL6 := Aside0.mk (HBL.out.setCell (p := ⟨g, 1, none⟩) HS.out.hg (.slice A1 (ls ++ [(⟨⟨r, q, l⟩, off, 0⟩ : Lv)]).length c1))
    have K6 : Aside0 (Kept w (w4.setCell ⟨g, 1, none⟩ (.slice A1 (ls ++ [(⟨⟨r, q, l⟩, off, 0⟩ : Lv)]).length c1)) (fun k => k = g ∨ some k = v.ownBlock)) :=
      ⟨((Kept.of_below HB3.out.drew _).of_grown HGR.out (fun k hk => .inl (.inr (by rw [HV.out]; exact hk.symm)))).setCell (.inl (.inl rfl)) _⟩
    have BG6 := Aside0.mk BG6
    have HAT6 : Aside0 ((Value.slice A1 (ls ++ [(⟨⟨r, q, l⟩, off, 0⟩ : Lv)]).length c1).ownBlock = v.ownBlock ∨ ∃ b, (Value.slice A1 (ls ++ [(⟨⟨r, q, l⟩, off, 0⟩ : Lv)]).length c1).ownBlock = some b ∧ w.heap.size ≤ b) :=
      ⟨HAT.out.imp (fun h => by rw [h, HV.out]) (fun ⟨b, h, hb⟩ => ⟨b, h, Nat.le_trans HB3.out.size hb⟩)⟩
    rw [show (ls ++ [(⟨⟨r, q, l⟩, off, 0⟩ : Lv)]).length = ls.length + 1 by simp] at BG6 R6 HBL6 K6 HAT6
    clear cz1 fz1 hg1 hg1a hp0 hp1 hp2
    go_wp2
    go_ret
    exact ⟨rfl, ⟨_, ⟨BG6.out, HS.out.hg, R6.out⟩, HAT6.out⟩, K6.out, HBL6.out⟩)
end Go.Proofs.YtfmlpcdbllpcaaaDoor.HQ
