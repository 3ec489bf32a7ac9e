/-
  CONTRACTS BY HAND (groups, 12): the document's Add.
-/
import Derived.Test.YtkifmhfgplhabaaGrB
import Derived.Test.YtkifmhfgplhabaaHX
namespace Go.Proofs.Ytkifmhfgplhabaa.HQ
open Go.Proofs.Ytkifmhfgplhabaa.HU Go.RowKit Go.Proofs.Ytkifmhfgplhabaa.HK Go.Proofs.Ytkifmhfgplhabaa.HP Go.Proofs.YtkifmhfgplhabaaW.PrintWords Go.Proofs.YtkifmhfgplhabaaW.PrintLast Go.Proofs.YtkifmhfgplhabaaW.PrintMore
set_option linter.unusedVariables false
set_option linter.unusedSimpArgs false
theorem infoGp : (Try.prog.info? 24).map (fun i => (i.zero, i.size, i.bytes)) = some (some (.agg #[.string ⟨#[]⟩, .slice none 0 0]), 2, 40) := by kernel_rfl
theorem infoB : (Try.prog.info? 4).map (fun i => (i.zero, i.size, i.bytes)) = some (some (.bool false), 1, 1) := by kernel_rfl
theorem E24r : ∀ q, q ∈ 24 :: (k24).E → q ≠ 58 := by decide
theorem E4r : ∀ q, q ∈ 4 :: (Kd.bool).E → q ≠ 58 := by decide
section
variable {w w1 w2 w4 w5 : World} {base g : Nat} {ok : Nat → Prop} {vg vo v1 v2 : Value} {ls : List Sl} {s : ByteArray} {An A : Option Addr} {cn c : Nat} {l : List Int}
theorem radd_M {o : Obj} (hb2 : Below w1.heap.size w1 w2) (hb : base ≤ w.heap.size) (HB : Below w.heap.size w w1) (hR : Kd.R (Kd.int .i64) 3 w2 w1.drew.heap.size (fun _ => True) (.slice An l.length cn) l) :
    Kd.M k24 (w2.alloc o) base (fun k => w1.heap.size ≤ k ∧ k < w2.heap.size) ⟨s, l⟩ [.string s, .slice An l.length cn] :=
  k24_mkM _ base _ (⟨s, l⟩ : Gp) (Kd.R_alloc (Kd.R_mono (Kd.R_lower (Kd.R_bound hR) (Nat.le_trans hb HB.size)) (fun k hk => ⟨hk.2.1, hk.2.2.1⟩)) _)
theorem radd_ok (hok : ∀ k, w.heap.size ≤ k → ok k) (HB : Below w.heap.size w w1) (h : Gr w base ok g vg vo ls) : ∀ k, (w1.heap.size ≤ k ∧ k < w2.heap.size) → ok k ∧ some k ≠ vg.ownBlock := fun k hk =>
  ⟨hok k (Nat.le_trans HB.size hk.1), fun he => by have h1 := Kd.Q_lt h.rg k he.symm; have h2 := HB.size; have h3 := hk.1; omega⟩
theorem radd_row (HB : Below w.heap.size w w1) (h : Gr w base ok g vg vo ls) (hb2 : Below w1.heap.size w1 w2) (o : Obj) : Kd.Q k24 24 (w2.alloc o) base ok vg (ls.map (·.f0)) := Kd.Q_alloc (Kd.Q_below (Kd.Q_below h.rg HB) hb2) o
/-- the table amid an Add: the first row is longer -/
def MidO (w wx : World) (base : Nat) (ok : Nat → Prop) (g : Nat) (vg vo v1 : Value) (ls : List Sl) (p : Gp) : Prop :=
  wx.heap[g]? = some (.cells #[v1, vo] 58 (0, 0)) ∧ Kd.Q k24 24 wx base ok v1 (ls.map (·.f0) ++ [p]) ∧ Kd.Q Kd.bool 4 wx base ok vo (ls.map (·.f1)) ∧ Kept w wx (WrO g vg vo) ∧ Below base w wx ∧ w.heap.size ≤ wx.heap.size
theorem radd_mid {o : Obj} {p : Gp} (h : Gr w base ok g vg vo ls) (HB : Below w.heap.size w w1) (hb2 : Below w1.heap.size w1 w2) (hrow : Kd.Q k24 24 w4 base ok v1 (ls.map (·.f0) ++ [p])) (hbl : Below base w w4) (hgr : (w2.alloc o).grownBy w4 vg.ownBlock)
    (hp : w1.heap[w.heap.size]? = some (.cells #[.string s, .slice A l.length c] 24 (0, 0))) (hne : some w.heap.size ≠ vg.ownBlock) :
    MidO w (w4.setCell ⟨g, 0, none⟩ v1) base ok g vg vo v1 ls p ∧ w4.heap[g]? = some (.cells #[vg, vo] 58 (0, 0)) ∧
      w4.cell? ⟨w.heap.size, 0, none⟩ = some (.string s) ∧ w4.cell? ⟨w.heap.size, 1, none⟩ = some (.slice A l.length c) := by
  have h2 := ((h.below HB).below hb2).below (below_alloc (Below.refl _ _) o)
  have hgk := blk_grown h2.blk hgr (Kd.Q_ne h2.rg h2.blk (by decide))
  have hp2 := blk_alloc (blk_below hp hb2) o
  have hpk := blk_grown hp2 hgr hne
  have hty := Kd.Q_typed h2.rg
  refine ⟨⟨blk_put (cs' := #[v1, vo]) hgk 0 v1 rfl, Kd.Q_set hrow hgk E24r 0 _, Kd.Q_set (Kd.Q_over' h2.ro hty (by decide) hgr) hgk E4r 0 _, ?_, hbl.setCell (p := ⟨g, 0, none⟩) h.hg _, ?_⟩, hgk, (blk_cell hpk 0).trans rfl, (blk_cell hpk 1).trans rfl⟩
  · exact (((Kept.of_below (below_alloc (below_then HB HB.size hb2) o) (WrO g vg vo)).of_grown hgr (fun k hk => .inl (.inr (.inl hk.symm)))).setCell (p := ⟨g, 0, none⟩) (.inl (.inl rfl)) _)
  · have h3 := HB.size
    have h4 := hb2.size
    have h5 := hgr.size
    simp at h5 ⊢
    omega
theorem radd_end {x : Sl} (hg : base ≤ g) (h : MidO w w4 base ok g vg vo v1 ls x.f0) (hrow : Kd.Q Kd.bool 4 w5 base ok v2 (ls.map (·.f1) ++ [x.f1])) (hbl : Below base w4 w5) (hgr : w4.grownBy w5 vo.ownBlock) :
    (Gr (w5.setCell ⟨g, 1, none⟩ v2) base ok g v1 v2 (ls ++ [x]) ∧ Kept w (w5.setCell ⟨g, 1, none⟩ v2) (WrO g vg vo) ∧ Below base w (w5.setCell ⟨g, 1, none⟩ v2)) ∧ w5.heap[g]? = some (.cells #[v1, vo] 58 (0, 0)) := by
  obtain ⟨m1, m2, m3, m4, m5, m6⟩ := h
  have hgk := blk_grown m1 hgr (Kd.Q_ne m3 m1 (by decide))
  have hty := Kd.Q_typed m3
  refine ⟨⟨⟨blk_put (cs' := #[v1, v2]) hgk 1 v2 rfl, hg, ?_, ?_⟩, (m4.of_grown hgr (fun k hk => .inl (.inr (.inr hk.symm)))).setCell (p := ⟨g, 1, none⟩) (.inl (.inl rfl)) _, (m5.trans hbl).setCell (p := ⟨g, 1, none⟩) hg _⟩, hgk⟩
  · rw [List.map_append, List.map_singleton]
    exact Kd.Q_set (Kd.Q_over' m2 hty (by decide) hgr) hgk E24r 1 _
  · rw [List.map_append, List.map_singleton]
    exact Kd.Q_set hrow hgk E4r 1 _
end
set_option maxHeartbeats 4000000 in
theorem radd_fits (base : Nat) (ok : Nat → Prop) (g : Nat) (vg vo : Value) (ls : List Sl) (s : ByteArray) (A : Option Addr) (c : Nat) (l : List Int) (w : World) (h : Gr w base ok g vg vo ls) (hb : base ≤ w.heap.size) (hok : ∀ k, w.heap.size ≤ k → ok k)
    (hr : Kd.C (Kd.int .i64) w A l.length l) (hc : l.length ≤ c) (hl : l.length ≤ 1000) (hm : mayB l = true) (hn : ls.length < 32) :
    Calls Try.prog 13 #[.pointer (some ⟨g, 0, none⟩), .agg #[.string s, .slice A l.length c]] w fun e w' => e = .returned (.tuple #[.int .i64 ls.length, .int .i64 0]) ∧ (∃ vg' vo', Gr w' base ok g vg' vo' (ls ++ [⟨⟨s, l⟩, false⟩])) ∧ Kept w w' (WrO g vg vo) ∧ Below base w w' := by
  have HR := Aside0.mk hr
  have HS := Aside0.mk h
  have HOK0 := Aside0.mk hok
  have hb1 := below_alloc (Below.refl w.heap.size w) (.cells #[.string s, .slice A l.length c] 24)
  have BP := Aside0.mk (blk_new w (.cells #[.string s, .slice A l.length c] 24))
  obtain ⟨Av, cv, Ao, co, rfl, rfl, hlv, hlo⟩ := h.forms
  have hg0 : w.cell? ⟨g, 0, none⟩ = some (.slice Av ls.length cv) := (blk_cell h.blk 0).trans rfl
  have hg1 : w.cell? ⟨g, 1, none⟩ = some (.slice Ao ls.length co) := (blk_cell h.blk 1).trans rfl
  have b1 : decide ((32 : Int) ≤ (ls.length : Int)) = false := decide_eq_false (by omega)
  have HNE : Aside0 (some w.heap.size ≠ (Value.slice Av ls.length cv).ownBlock) := ⟨fun he => by have := Kd.Q_lt h.rg _ he.symm; omega⟩
  clear hr h hok
  go_enter Try.func13, Try.ntmps13
  go_wp2_with fail
  refine (rmay_c s A c l _ (Kd.C_below HR.out hb1) hc).mono ?_
  rintro e w1 ⟨rfl, hbx⟩
  have HB := Aside0.mk (below_then hb1 hb1.size hbx)
  have HP0 := Aside0.mk (blk_below BP.out hbx)
  have HR1 := Aside0.mk (Kd.C_below HR.out HB.out)
  have hg0 := pw_cell_below HB.out hg0
  have hg1 := pw_cell_below HB.out hg1
  clear hb1 hbx BP
  have hp0 := (blk_cell HP0.out 0).trans rfl
  have hp1 := (blk_cell HP0.out 1).trans rfl
  rw [hm]
  go_upto_region 5 with (fail)
  refine HU.region_T (S := (fun W => W.cell? ⟨g, 0, none⟩ = some (.slice Av ls.length cv) ∧ W.cell? ⟨w.heap.size, 0, none⟩ = some (.string s) ∧ W.cell? ⟨w.heap.size, 1, none⟩ = some (.slice A l.length c))) (T := (fun k => decide (11 ≤ k))) (by kernel_rfl) ?_
  have hSw : (fun W => W.cell? ⟨g, 0, none⟩ = some (.slice Av ls.length cv) ∧ W.cell? ⟨w.heap.size, 0, none⟩ = some (.string s) ∧ W.cell? ⟨w.heap.size, 1, none⟩ = some (.slice A l.length c)) w1.drew := ⟨hg0, hp0, hp1⟩
  refine takeP (i := 0) (v := ?va1) rfl (by kernel_rfl) (by kernel_rfl) (by kernel_rfl) (by rfl) (fun _ _ _ h => h) (Or.inl ⟨by rfl, ?ha1⟩) (by assumption) ?ra1
  case ha1 => ((intro w hSw'); (try dsimp only at hSw'); go_simp; (try with_reducible rfl))
  try simp only [Act.put, List.setIfInBounds_toArray, List.set_cons_zero, List.set_cons_succ]
  refine takeP (i := 1) (v := ?va2) rfl (by kernel_rfl) (by kernel_rfl) (by kernel_rfl) (by rfl) (fun _ _ _ h => h) (Or.inl ⟨by rfl, ?ha2⟩) (by assumption) ?ra2
  case ha2 => ((intro w hSw'); (try dsimp only at hSw'); go_simp; (try with_reducible rfl))
  try simp only [Act.put, List.setIfInBounds_toArray, List.set_cons_zero, List.set_cons_succ]
  refine takeP (i := 2) (v := ?va3) rfl (by kernel_rfl) (by kernel_rfl) (by kernel_rfl) (by rfl) (fun _ _ _ h => h) (Or.inl ⟨by rfl, ?ha3⟩) (by assumption) ?ra3
  case ha3 => ((intro w hSw'); (try dsimp only at hSw'); go_simp; (try with_reducible rfl))
  try simp only [Act.put, List.setIfInBounds_toArray, List.set_cons_zero, List.set_cons_succ]
  refine takeP (i := 3) (v := ?va4) rfl (by kernel_rfl) (by kernel_rfl) (by kernel_rfl) (by rfl) (fun _ _ _ h => h) (Or.inl ⟨by rfl, ?ha4⟩) (by assumption) ?ra4
  case ha4 => ((intro w hSw'); (try dsimp only at hSw'); go_simp; (try with_reducible rfl))
  try simp only [Act.put, List.setIfInBounds_toArray, List.set_cons_zero, List.set_cons_succ]
  refine takeT (i := 4) (v := ?va5) rfl (by kernel_rfl) (by kernel_rfl) (by kernel_rfl) (by kernel_rfl) (by rfl) (by kernel_rfl) (fun _ _ _ h => h) (Or.inl ⟨by rfl, ?ha5⟩) (by assumption) ?ra5
  case ha5 => ((intro w hSw'); (try dsimp only at hSw'); go_simp; (try with_reducible rfl))
  try simp only [Act.put, List.setIfInBounds_toArray, List.set_cons_zero, List.set_cons_succ]
  refine takeT (i := 5) (v := ?va6) rfl (by kernel_rfl) (by kernel_rfl) (by kernel_rfl) (by kernel_rfl) (by rfl) (by kernel_rfl) (fun _ _ _ h => h) (Or.inl ⟨by rfl, ?ha6⟩) (by assumption) ?ra6
  case ha6 => ((intro w hSw'); (try dsimp only at hSw'); go_simp; (try with_reducible rfl))
  try simp only [Act.put, List.setIfInBounds_toArray, List.set_cons_zero, List.set_cons_succ]
  refine anyT_all (rs := [6]) (by kernel_rfl) (by simp) (consT rfl (fun K hK => ?ba7) AllT.nil)
  case ba7 =>
    go_simp; refine (rcopy_c s A c l _ (C_drew HR1.out) hc (by omega)).mono ?_; rintro e w2 ⟨u, rfl, hR, hb2⟩; obtain ⟨An, cn, rfl, hln, _⟩ := Kd.R_reads hR; have HR2 := Aside0.mk hR; clear hR
    refine hK.out _ _ ?sa7 (fun hSw => ?ta7)
    case sa7 => (first | exact ⟨cell_alloc1 (keep_call hb2 hg0) _, cell_alloc1 (keep_call hb2 hp0) _, cell_alloc1 (keep_call hb2 hp1) _⟩ | exact ⟨keep_call hb2 hg0, keep_call hb2 hp0, keep_call hb2 hp1⟩ | exact ⟨cz, ck0, ck1⟩)
    clear hK K
    try simp only [Act.put, List.setIfInBounds_toArray, List.set_cons_zero, List.set_cons_succ]
    refine anyT_all (rs := [7]) (by kernel_rfl) (by simp) (consT rfl (fun K hK => ?ba8) AllT.nil)
    case ba8 =>
      go_simp
      refine hK.out _ _ ?sa8 (fun hSw => ?ta8)
      case sa8 => (first | exact ⟨cell_alloc1 (keep_call hb2 hg0) _, cell_alloc1 (keep_call hb2 hp0) _, cell_alloc1 (keep_call hb2 hp1) _⟩ | exact ⟨keep_call hb2 hg0, keep_call hb2 hp0, keep_call hb2 hp1⟩ | exact ⟨cz, ck0, ck1⟩)
      clear hK K
      try simp only [Act.put, List.setIfInBounds_toArray, List.set_cons_zero, List.set_cons_succ]
      refine anyT_all (rs := [8]) (by kernel_rfl) (by simp) (consT rfl (fun K hK => ?ba9) AllT.nil)
      case ba9 =>
        refine app_one_step k24 (w0 := w) base w2.heap.size (by rfl) (.tmp 19) (.tmp 22) 55 24 (.agg #[.string ⟨#[]⟩, .slice none 0 0]) 40 (by rfl) Try.underlying55 infoGp (by rfl) (by decide) (by omega) (.slice Av ls.length cv) (ls.map (·.f0)) ⟨s, l⟩ [.string s, .slice An l.length cn] ok (fun k => w1.heap.size ≤ k ∧ k < w2.heap.size) (by rfl) (by rfl) (blk_new w2 _) (radd_M (below_of_drew hb2) hb HB.out HR2.out) (radd_ok HOK0.out HB.out HS.out) (addF_fresh HOK0.out HB.out (below_of_drew hb2)) (radd_row HB.out HS.out (below_of_drew hb2) _) (addF_below hb HB.out (below_of_drew hb2) _) (addF_base hb HB.out (below_of_drew hb2) _) (by simp; omega) ?_; intro v1 w4 hrow hbl hgr hat; obtain ⟨A1, c1, rfl, hl1, _⟩ := Kd.Q_reads hrow; obtain ⟨hE, xb, ck0, ck1⟩ := radd_mid HS.out HB.out (below_of_drew hb2) hrow hbl hgr HP0.out HNE.out; rw [List.length_append, List.length_singleton, List.length_map] at hE; have HE := Aside0.mk hE; have cz := (blk_cell xb 0).trans rfl; have fz := blk_frozen xb 0; clear hE hrow hbl hgr hat
        refine hK.out _ _ ?sa9 (fun hSw => ?ta9)
        case sa9 => (first | exact ⟨cell_alloc1 (keep_call hb2 hg0) _, cell_alloc1 (keep_call hb2 hp0) _, cell_alloc1 (keep_call hb2 hp1) _⟩ | exact ⟨keep_call hb2 hg0, keep_call hb2 hp0, keep_call hb2 hp1⟩ | exact ⟨cz, ck0, ck1⟩)
        clear hK K
        try simp only [Act.put, List.setIfInBounds_toArray, List.set_cons_zero, List.set_cons_succ]
        refine takeP (i := 9) (v := ?va10) rfl (by kernel_rfl) (by kernel_rfl) (by kernel_rfl) (by rfl) (fun _ _ _ h => h) (Or.inl ⟨by rfl, ?ha10⟩) (by assumption) ?ra10
        case ha10 => ((intro w hSw'); (try dsimp only at hSw'); go_simp; (try with_reducible rfl))
        try simp only [Act.put, List.setIfInBounds_toArray, List.set_cons_zero, List.set_cons_succ]
        refine takeP (i := 10) (v := ?va11) rfl (by kernel_rfl) (by kernel_rfl) (by kernel_rfl) (by rfl) (fun _ _ _ h => h) (Or.inl ⟨by rfl, ?ha11⟩) (by assumption) ?ra11
        case ha11 => ((intro w hSw'); (try dsimp only at hSw'); go_simp; (try with_reducible rfl))
        try simp only [Act.put, List.setIfInBounds_toArray, List.set_cons_zero, List.set_cons_succ]
        refine anyT_all (rs := [11]) (by kernel_rfl) (by simp) (lastT rfl (by kernel_rfl) (fun K hK => ?_))
        go_simp
        refine hK.out _ _ ?_
        clear hK K
        try simp only [Act.put, List.setIfInBounds_toArray, List.set_cons_zero, List.set_cons_succ]
        refine anyT_done (by kernel_rfl) ?_ _
        generalize w4.setCell ⟨g, 0, none⟩ (.slice A1 (ls.length + 1) c1) = w5 at HE ⊢
        clear cz fz
        have y1 := (blk_cell HE.out.1 1).trans rfl
        have HF5 : Aside0 (∀ k, w5.heap.size ≤ k → ok k) := ⟨fun k hk => HOK0.out k (Nat.le_trans HE.out.2.2.2.2.2 hk)⟩
        have HB5 : Aside0 (base ≤ w5.heap.size) := ⟨Nat.le_trans hb HE.out.2.2.2.2.2⟩
        have hgB := Aside0.mk HS.out.hg
        have hw1 : IntKind.i64.wrap (((ls.length : Int) + 1) - 1) = (ls.length : Int) := by rw [i64w (by omega) (by omega)]; omega
        have hw2 : (ls.length : Int) + 1 - 1 = (ls.length : Int) := by omega
        go_wp2_with (at_builtin; refine Kd.Q_append Kd.bool (w0 := w5) base rfl (.tmp 30) (.tmp 31) 56 4 (.bool false) 1 rfl Try.underlying56 infoB rfl (by decide) (by omega) (.slice Ao ls.length co) (ls.map (·.f1)) false [.bool false] ok (fun _ => False) rfl rfl rfl (fun _ h => h.elim) HF5.out HE.out.2.2.1 (Below.refl base w5) HB5.out (by simp; omega) ?_; intro v2 w6 hrow hbl hgr hat; obtain ⟨A2, c2, rfl, hl2, _⟩ := Kd.Q_reads hrow; obtain ⟨hF, xb⟩ := radd_end (x := ⟨⟨s, l⟩, false⟩) hgB.out HE.out hrow hbl hgr; rw [List.length_append, List.length_singleton, List.length_map] at hF; have HF := Aside0.mk hF; have cz0 := (blk_cell xb 0).trans rfl; have cz1 := (blk_cell xb 1).trans rfl; have fz1 := blk_frozen xb 1; clear hF hrow hbl hgr hat y1)
        go_ret2
        exact ⟨rfl, ⟨_, _, HF.out.1⟩, HF.out.2⟩
end Go.Proofs.Ytkifmhfgplhabaa.HQ
