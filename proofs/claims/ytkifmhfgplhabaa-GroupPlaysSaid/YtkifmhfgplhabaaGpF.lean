/-
  CONTRACTS BY HAND (groups, 7): Add: what is answered, what the table is then.
-/
import Derived.Test.YtkifmhfgplhabaaGpE
import Derived.Test.YtkifmhfgplhabaaHX
namespace Go.Proofs.Ytkifmhfgplhabaa.HQ
open Go.Proofs.Ytkifmhfgplhabaa.HU Go.RowKit Go.Proofs.Ytkifmhfgplhabaa.HK Go.Proofs.Ytkifmhfgplhabaa.HP Go.Proofs.YtkifmhfgplhabaaW.PrintWords Go.Proofs.YtkifmhfgplhabaaW.PrintLast Go.Proofs.YtkifmhfgplhabaaW.PrintMore
set_option linter.unusedVariables false
set_option linter.unusedSimpArgs false
theorem infoSl : (Try.prog.info? 62).map (fun i => (i.zero, i.size, i.bytes)) = some (some (.agg #[.string ⟨#[]⟩, .slice none 0 0, .bool false]), 3, 48) := by kernel_rfl
theorem E62s : ∀ q, q ∈ 62 :: (k62).E → q ≠ 29 := by decide
/-- the blocks that a table writes -/
def WrG (g : Nat) (v : Value) (k : Nat) : Prop := k = g ∨ some k = v.ownBlock
section
variable {w w1 w2 w4 : World} {base g : Nat} {ok : Nat → Prop} {v : Value} {ls : List Sl} {s : ByteArray} {An : Option Addr} {cn : Nat} {l : List Int}
theorem addF_M {o : Obj} (hb2 : Below w1.heap.size w1 w2) (hb : base ≤ w.heap.size) (HB : Below w.heap.size w w1) (hR : Kd.R (Kd.int .i64) 3 w2 w1.drew.heap.size (fun _ => True) (.slice An l.length cn) l) :
    Kd.M k62 (w2.alloc o) base (fun k => w1.heap.size ≤ k ∧ k < w2.heap.size) ⟨⟨s, l⟩, false⟩ [.string s, .slice An l.length cn, .bool false] :=
  k62_mkM _ base _ (⟨⟨s, l⟩, false⟩ : Sl) (Kd.R_alloc (Kd.R_mono (Kd.R_lower (Kd.R_bound hR) (Nat.le_trans hb HB.size)) (fun k hk => ⟨hk.2.1, hk.2.2.1⟩)) _)
theorem addF_ok (hok : ∀ k, w.heap.size ≤ k → ok k) (HB : Below w.heap.size w w1) (h : Gs w base ok g v ls) : ∀ k, (w1.heap.size ≤ k ∧ k < w2.heap.size) → ok k ∧ some k ≠ v.ownBlock := fun k hk =>
  ⟨hok k (Nat.le_trans HB.size hk.1), fun he => by have h1 := Kd.Q_lt h.row k he.symm; have h2 := HB.size; have h3 := hk.1; omega⟩
theorem addF_fresh {o : Obj} (hok : ∀ k, w.heap.size ≤ k → ok k) (HB : Below w.heap.size w w1) (hb2 : Below w1.heap.size w1 w2) : ∀ k, (w2.alloc o).heap.size ≤ k → ok k := fun k hk =>
  hok k (Nat.le_trans (Nat.le_trans HB.size hb2.size) (by simp at hk; omega))
theorem addF_row (HB : Below w.heap.size w w1) (h : Gs w base ok g v ls) (hb2 : Below w1.heap.size w1 w2) (o : Obj) : Kd.Q k62 62 (w2.alloc o) base ok v ls := Kd.Q_alloc (Kd.Q_below (Kd.Q_below h.row HB) hb2) o
theorem addF_below (hb : base ≤ w.heap.size) (HB : Below w.heap.size w w1) (hb2 : Below w1.heap.size w1 w2) (o : Obj) : Below base w (w2.alloc o) := (below_alloc (below_then HB HB.size hb2) o).mono hb
theorem addF_base (hb : base ≤ w.heap.size) (HB : Below w.heap.size w w1) (hb2 : Below w1.heap.size w1 w2) (o : Obj) : base ≤ (w2.alloc o).heap.size := Nat.le_trans hb (Nat.le_trans HB.size (Nat.le_trans hb2.size (by simp)))
theorem addF_end {o : Obj} {v1 : Value} {ys : List Sl} (h : Gs w base ok g v ls) (HB : Below w.heap.size w w1) (hb2 : Below w1.heap.size w1 w2) (hrow : Kd.Q k62 62 w4 base ok v1 ys) (hbl : Below base w w4) (hgr : (w2.alloc o).grownBy w4 v.ownBlock)
    (hp : w1.heap[w.heap.size]? = some (.cells #[.string s, .slice An l.length cn] 24 (0, 0))) :
    (Gs (w4.setCell ⟨g, 0, none⟩ v1) base ok g v1 ys ∧ Kept w (w4.setCell ⟨g, 0, none⟩ v1) (WrG g v) ∧ Below base w (w4.setCell ⟨g, 0, none⟩ v1)) ∧ w4.heap[g]? = some (.cells #[v] 29 (0, 0)) ∧
      w4.cell? ⟨w.heap.size, 0, none⟩ = some (.string s) ∧ w4.cell? ⟨w.heap.size, 1, none⟩ = some (.slice An l.length cn) := by
  have h2 := ((h.below HB).below hb2).below (below_alloc (Below.refl _ _) o)
  have hgk := blk_grown h2.blk hgr (Kd.Q_ne h2.row h2.blk (by decide))
  have hp2 := blk_alloc (blk_below hp hb2) o
  have hpk := blk_grown hp2 hgr (Kd.Q_ne h2.row hp2 (by decide))
  refine ⟨⟨⟨blk_put (cs' := #[v1]) hgk 0 v1 rfl, h.hg, Kd.Q_set hrow hgk E62s 0 _⟩, ?_, hbl.setCell (p := ⟨g, 0, none⟩) h.hg _⟩, hgk, (blk_cell hpk 0).trans rfl, (blk_cell hpk 1).trans rfl⟩
  exact (((Kept.of_below (below_alloc (below_then HB HB.size hb2) o) (WrG g v)).of_grown hgr (fun k hk => .inl (.inr hk.symm))).setCell (p := ⟨g, 0, none⟩) (.inl (.inl rfl)) _)
end
theorem ret_pair {a b : Int} (h : a = b) : Ending.returned (.tuple #[.int .i64 a, .int .i64 0]) = .returned (.tuple #[.int .i64 b, .int .i64 0]) := by rw [h]
set_option maxHeartbeats 4000000 in
theorem add_ok (base : Nat) (ok : Nat → Prop) (g : Nat) (v : Value) (ls : List Sl) (s : ByteArray) (A : Option Addr) (c : Nat) (l : List Int) (w : World) (h : Gs w base ok g v ls) (hb : base ≤ w.heap.size) (hok : ∀ k, w.heap.size ≤ k → ok k)
    (hr : Kd.C (Kd.int .i64) w A l.length l) (hc : l.length ≤ c) (hl : l.length ≤ 1000) (hm : mayB l = true) (hp : 0 < ls.length) (hn : ls.length < 32) :
    Calls Try.prog 6 #[.pointer (some ⟨g, 0, none⟩), .agg #[.string s, .slice A l.length c]] w fun e w' => e = .returned (.tuple #[.int .i64 ls.length, .int .i64 0]) ∧ (∃ v', Gs w' base ok g v' (ls ++ [⟨⟨s, l⟩, false⟩])) ∧ Kept w w' (WrG g v) ∧ Below base w w' := by
  have HR := Aside0.mk hr
  have HS := Aside0.mk h
  have HOK0 := Aside0.mk hok
  have hb1 := below_alloc (Below.refl w.heap.size w) (.cells #[.string s, .slice A l.length c] 24)
  have HM := Aside0.mk (many_c base ok g v ls _ (h.below hb1))
  have BP := Aside0.mk (blk_new w (.cells #[.string s, .slice A l.length c] 24))
  obtain ⟨Av, cv, rfl, hlv, _⟩ := Kd.Q_reads h.row
  have hg0 : w.cell? ⟨g, 0, none⟩ = some (.slice Av ls.length cv) := (blk_cell h.blk 0).trans rfl
  have b0 : ((ls.length : Int) == 0) = false := beq_eq_false_iff_ne.2 (by omega)
  have b1 : ((ls.length : Int) == 32) = false := beq_eq_false_iff_ne.2 (by omega)
  clear hr h hok
  go_enter Try.func6, Try.ntmps6
  go_wp2_with fail
  refine HM.out.mono ?_
  rintro e w1 ⟨rfl, rfl⟩
  go_wp2_with fail
  have hp0 := (blk_cell BP.out 0).trans rfl
  have hp1 := (blk_cell BP.out 1).trans rfl
  go_wp2_with fail
  refine (may_c s A c l _ (Kd.C_below HR.out hb1) hc).mono ?_
  rintro e w1 ⟨rfl, hbx⟩
  have HB := Aside0.mk (below_then hb1 hb1.size hbx)
  have HP0 := Aside0.mk (blk_below BP.out hbx)
  have HR1 := Aside0.mk (Kd.C_below HR.out HB.out)
  have hg0 := pw_cell_below HB.out hg0
  clear hb1 hbx BP hp0 hp1
  have hp0 := (blk_cell HP0.out 0).trans rfl
  have hp1 := (blk_cell HP0.out 1).trans rfl
  rw [hm]
  go_upto_region 2 with (fail)
  refine HU.region_T (S := (fun W => W.cell? ⟨g, 0, none⟩ = some (.slice Av ls.length cv) ∧ W.cell? ⟨w.heap.size, 0, none⟩ = some (.string s) ∧ W.cell? ⟨w.heap.size, 1, none⟩ = some (.slice A l.length c))) (T := (fun k => decide (12 ≤ k))) (by kernel_rfl) ?_
  have hSw : (fun W => W.cell? ⟨g, 0, none⟩ = some (.slice Av ls.length cv) ∧ W.cell? ⟨w.heap.size, 0, none⟩ = some (.string s) ∧ W.cell? ⟨w.heap.size, 1, none⟩ = some (.slice A l.length c)) w1.drew := ⟨hg0, hp0, hp1⟩
  refine takeP (i := 0) (v := ?va1) rfl (by kernel_rfl) (by kernel_rfl) (by kernel_rfl) (by rfl) (fun _ _ _ h => h) (Or.inl ⟨by rfl, ?ha1⟩) (by assumption) ?ra1
  case ha1 => ((intro w hSw'); (try dsimp only at hSw'); go_simp; (try with_reducible rfl))
  try simp only [Act.put, List.setIfInBounds_toArray, List.set_cons_zero, List.set_cons_succ]
  refine takeP (i := 1) (v := ?va2) rfl (by kernel_rfl) (by kernel_rfl) (by kernel_rfl) (by rfl) (fun _ _ _ h => h) (Or.inl ⟨by rfl, ?ha2⟩) (by assumption) ?ra2
  case ha2 => ((intro w hSw'); (try dsimp only at hSw'); go_simp; (try with_reducible rfl))
  try simp only [Act.put, List.setIfInBounds_toArray, List.set_cons_zero, List.set_cons_succ]
  refine takeP (i := 2) (v := ?va3) rfl (by kernel_rfl) (by kernel_rfl) (by kernel_rfl) (by rfl) (fun _ _ _ h => h) (Or.inl ⟨by rfl, ?ha3⟩) (by assumption) ?ra3
  case ha3 => ((intro w hSw'); (try dsimp only at hSw'); go_simp; (try with_reducible rfl))
  try simp only [Act.put, List.setIfInBounds_toArray, List.set_cons_zero, List.set_cons_succ]
  refine takeP (i := 3) (v := ?va4) rfl (by kernel_rfl) (by kernel_rfl) (by kernel_rfl) (by rfl) (fun _ _ _ h => h) (Or.inl ⟨by rfl, ?ha4⟩) (by assumption) ?ra4
  case ha4 => ((intro w hSw'); (try dsimp only at hSw'); go_simp; (try with_reducible rfl))
  try simp only [Act.put, List.setIfInBounds_toArray, List.set_cons_zero, List.set_cons_succ]
  refine takeT (i := 4) (v := ?va5) rfl (by kernel_rfl) (by kernel_rfl) (by kernel_rfl) (by kernel_rfl) (by rfl) (by kernel_rfl) (fun _ _ _ h => h) (Or.inl ⟨by rfl, ?ha5⟩) (by assumption) ?ra5
  case ha5 => ((intro w hSw'); (try dsimp only at hSw'); go_simp; (try with_reducible rfl))
  try simp only [Act.put, List.setIfInBounds_toArray, List.set_cons_zero, List.set_cons_succ]
  refine takeT (i := 5) (v := ?va6) rfl (by kernel_rfl) (by kernel_rfl) (by kernel_rfl) (by kernel_rfl) (by rfl) (by kernel_rfl) (fun _ _ _ h => h) (Or.inl ⟨by rfl, ?ha6⟩) (by assumption) ?ra6
  case ha6 => ((intro w hSw'); (try dsimp only at hSw'); go_simp; (try with_reducible rfl))
  try simp only [Act.put, List.setIfInBounds_toArray, List.set_cons_zero, List.set_cons_succ]
  refine anyT_all (rs := [6]) (by kernel_rfl) (by simp) (consT rfl (fun K hK => ?ba7) AllT.nil)
  case ba7 =>
    go_simp; refine (own_c s A c l _ (C_drew HR1.out) hc (by omega)).mono ?_; rintro e w2 ⟨u, rfl, hR, hb2⟩; obtain ⟨An, cn, rfl, hln, _⟩ := Kd.R_reads hR; have HR2 := Aside0.mk hR; clear hR
    refine hK.out _ _ ?sa7 (fun hSw => ?ta7)
    case sa7 => (first | exact ⟨cell_alloc1 (keep_call hb2 hg0) _, cell_alloc1 (keep_call hb2 hp0) _, cell_alloc1 (keep_call hb2 hp1) _⟩ | exact ⟨keep_call hb2 hg0, keep_call hb2 hp0, keep_call hb2 hp1⟩ | exact ⟨cz, ck0, ck1⟩)
    clear hK K
    try simp only [Act.put, List.setIfInBounds_toArray, List.set_cons_zero, List.set_cons_succ]
    refine takeP (i := 7) (v := ?va8) rfl (by kernel_rfl) (by kernel_rfl) (by kernel_rfl) (by rfl) (fun _ _ _ h => h) (Or.inl ⟨by rfl, ?ha8⟩) (by assumption) ?ra8
    case ha8 => ((intro w hSw'); (try dsimp only at hSw'); go_simp; (try with_reducible rfl))
    try simp only [Act.put, List.setIfInBounds_toArray, List.set_cons_zero, List.set_cons_succ]
    refine anyT_all (rs := [8]) (by kernel_rfl) (by simp) (consT rfl (fun K hK => ?ba9) AllT.nil)
    case ba9 =>
      go_simp
      refine hK.out _ _ ?sa9 (fun hSw => ?ta9)
      case sa9 => (first | exact ⟨cell_alloc1 (keep_call hb2 hg0) _, cell_alloc1 (keep_call hb2 hp0) _, cell_alloc1 (keep_call hb2 hp1) _⟩ | exact ⟨keep_call hb2 hg0, keep_call hb2 hp0, keep_call hb2 hp1⟩ | exact ⟨cz, ck0, ck1⟩)
      clear hK K
      try simp only [Act.put, List.setIfInBounds_toArray, List.set_cons_zero, List.set_cons_succ]
      refine anyT_all (rs := [9]) (by kernel_rfl) (by simp) (consT rfl (fun K hK => ?ba10) AllT.nil)
      case ba10 =>
        refine app_one_step k62 (w0 := w) base w2.heap.size (by rfl) (.tmp 13) (.tmp 17) 27 62 (.agg #[.string ⟨#[]⟩, .slice none 0 0, .bool false]) 48 (by rfl) Try.underlying27 infoSl (by rfl) (by decide) (by omega) (.slice Av ls.length cv) ls ⟨⟨s, l⟩, false⟩ [.string s, .slice An l.length cn, .bool false] ok (fun k => w1.heap.size ≤ k ∧ k < w2.heap.size) (by rfl) (by rfl) (blk_new w2 _) (addF_M (below_of_drew hb2) hb HB.out HR2.out) (addF_ok HOK0.out HB.out HS.out) (addF_fresh HOK0.out HB.out (below_of_drew hb2)) (addF_row HB.out HS.out (below_of_drew hb2) _) (addF_below hb HB.out (below_of_drew hb2) _) (addF_base hb HB.out (below_of_drew hb2) _) (by omega) ?_; intro v1 w4 hrow hbl hgr hat; obtain ⟨A1, c1, rfl, hl1, _⟩ := Kd.Q_reads hrow; obtain ⟨hE, xb, ck0, ck1⟩ := addF_end HS.out HB.out (below_of_drew hb2) hrow hbl hgr HP0.out; rw [List.length_append, List.length_singleton] at hE; have HE := Aside0.mk hE; have cz := (blk_cell xb 0).trans rfl; have fz := blk_frozen xb 0; clear hE hrow hbl hgr hat
        refine hK.out _ _ ?sa10 (fun hSw => ?ta10)
        case sa10 => (first | exact ⟨cell_alloc1 (keep_call hb2 hg0) _, cell_alloc1 (keep_call hb2 hp0) _, cell_alloc1 (keep_call hb2 hp1) _⟩ | exact ⟨keep_call hb2 hg0, keep_call hb2 hp0, keep_call hb2 hp1⟩ | exact ⟨cz, ck0, ck1⟩)
        clear hK K
        try simp only [Act.put, List.setIfInBounds_toArray, List.set_cons_zero, List.set_cons_succ]
        refine takeP (i := 10) (v := ?va11) rfl (by kernel_rfl) (by kernel_rfl) (by kernel_rfl) (by rfl) (fun _ _ _ h => h) (Or.inl ⟨by rfl, ?ha11⟩) (by assumption) ?ra11
        case ha11 => ((intro w hSw'); (try dsimp only at hSw'); go_simp; (try with_reducible rfl))
        try simp only [Act.put, List.setIfInBounds_toArray, List.set_cons_zero, List.set_cons_succ]
        refine takeP (i := 11) (v := ?va12) rfl (by kernel_rfl) (by kernel_rfl) (by kernel_rfl) (by rfl) (fun _ _ _ h => h) (Or.inl ⟨by rfl, ?ha12⟩) (by assumption) ?ra12
        case ha12 => ((intro w hSw'); (try dsimp only at hSw'); go_simp; (try with_reducible rfl))
        try simp only [Act.put, List.setIfInBounds_toArray, List.set_cons_zero, List.set_cons_succ]
        refine anyT_all (rs := [12]) (by kernel_rfl) (by simp) (lastT rfl (by kernel_rfl) (fun K hK => ?_))
        go_simp
        refine hK.out _ _ ?_
        clear hK K
        try simp only [Act.put, List.setIfInBounds_toArray, List.set_cons_zero, List.set_cons_succ]
        refine anyT_done (by kernel_rfl) ?_ _
        go_wp2
        go_ret2
        exact ⟨rfl, ⟨_, HE.out.1⟩, HE.out.2⟩
end Go.Proofs.Ytkifmhfgplhabaa.HQ
