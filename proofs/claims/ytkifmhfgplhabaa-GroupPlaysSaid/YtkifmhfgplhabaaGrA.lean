/-
  CONTRACTS BY HAND (groups, 10): the document's table: its state, New, At, Free.
-/
import Derived.Test.YtkifmhfgplhabaaGpG
namespace Go.Proofs.Ytkifmhfgplhabaa.HQ
open Go.Proofs.Ytkifmhfgplhabaa.HU Go.RowKit Go.Proofs.Ytkifmhfgplhabaa.HK Go.Proofs.Ytkifmhfgplhabaa.HP Go.Proofs.YtkifmhfgplhabaaW.PrintWords Go.Proofs.YtkifmhfgplhabaaW.PrintLast Go.Proofs.YtkifmhfgplhabaaW.PrintMore
set_option linter.unusedVariables false
set_option linter.unusedSimpArgs false
/-- the document's table: its block, its two rows -/
structure Gr (W : World) (base : Nat) (ok : Nat → Prop) (g : Nat) (vg vo : Value) (ls : List Sl) : Prop where
  blk : W.heap[g]? = some (.cells #[vg, vo] 58 (0, 0))
  hg : base ≤ g
  rg : Kd.Q k24 24 W base ok vg (ls.map (·.f0))
  ro : Kd.Q Kd.bool 4 W base ok vo (ls.map (·.f1))
section
variable {W W' : World} {base g : Nat} {ok : Nat → Prop} {vg vo : Value} {ls : List Sl}
theorem Gr.below (h : Gr W base ok g vg vo ls) (hb : Below W.heap.size W W') : Gr W' base ok g vg vo ls := ⟨blk_below h.blk hb, h.hg, Kd.Q_below h.rg hb, Kd.Q_below h.ro hb⟩
theorem Gr.max (h : Gr W base ok g vg vo ls) : ls.length ≤ 9223372036854775807 := by
  obtain ⟨A, c, _, _, hc⟩ := Kd.Q_reads h.rg
  have := Kd.C_max hc
  rwa [List.length_map] at this
theorem Gr.forms (h : Gr W base ok g vg vo ls) : ∃ A c A2 c2, vg = .slice A ls.length c ∧ vo = .slice A2 ls.length c2 ∧ ls.length ≤ c ∧ ls.length ≤ c2 := by
  obtain ⟨A, c, h1, h2, _⟩ := Kd.Q_reads h.rg
  obtain ⟨A2, c2, h3, h4, _⟩ := Kd.Q_reads h.ro
  rw [List.length_map] at h1 h2 h3 h4
  exact ⟨A, c, A2, c2, h1, h3, h2, h4⟩
/-- a handle of it: where it lies, what it reads as -/
theorem Gr.slot (h : Gr W base ok g vg vo ls) (i : Nat) (x : Sl) (hi : ls[i]? = some x) :
    ∃ b o c A cc b2 o2 c2, vg = .slice (some ⟨b, o, none⟩) ls.length c ∧ vo = .slice (some ⟨b2, o2, none⟩) ls.length c2 ∧ W.cell? ⟨b, o + i * 2, none⟩ = some (.string x.f0.f0) ∧ W.cell? ⟨b, o + i * 2 + 1, none⟩ = some (.slice A x.f0.f1.length cc) ∧
      W.cell? ⟨b2, o2 + i, none⟩ = some (.bool x.f1) ∧ W.frozen? ⟨b2, o2 + i, none⟩ = false ∧ x.f0.f1.length ≤ cc ∧ Kd.C (Kd.int .i64) W A x.f0.f1.length x.f0.f1 ∧ base ≤ b2 ∧ b2 ≠ g := by
  have hil : i < ls.length := (List.getElem?_eq_some_iff.1 hi).1
  obtain ⟨b, o, c, hv, hb, _, cells, hcp⟩ := Kd.Q_form h.rg (by simp; omega)
  obtain ⟨b2, o2, c2, hv2, hb2, _, cells2, hcp2⟩ := Kd.Q_form h.ro (by simp; omega)
  rw [List.length_map] at hv hv2
  have rg := h.rg
  have ro := h.ro
  have hgb := h.blk
  subst hv hv2
  obtain ⟨cs, hcl, hM, hcc, hfr⟩ := Kd.Q_elem rg z24 (i : Int) (by omega) (by omega)
  rw [Int.toNat_natCast] at hM hcc hfr
  have hx : (ls.map (·.f0)).getD i z24 = x.f0 := by simp [List.getD, hi]
  rw [hx] at hM
  obtain ⟨v2, hce, hR⟩ := k24_openM hM
  obtain ⟨A, cc, hv2, hcl2, hC⟩ := Kd.R_reads hR
  subst hv2
  have hsz : (k24).sz = 2 := rfl
  rw [hsz] at hcc
  have hbo := Kd.Q_cell false ro (i : Int) (by omega) (by omega)
  have hbx : rdOf false (ls.map (·.f1)) (i : Int) = x.f1 := by simp [rdOf, List.getD, hi]
  rw [hbx, Int.toNat_natCast] at hbo
  refine ⟨b, o, c, A, cc, b2, o2, c2, rfl, rfl, hcc 0 _ (by rw [hce]; rfl), hcc 1 _ (by rw [hce]; rfl), hbo.1, hbo.2, hcl2, hC, hb2, ?_⟩
  rintro rfl
  rw [hcp2] at hgb
  injection hgb with hgb
  injection hgb with _ h2
  exact absurd (show (4 : Nat) = 58 from h2) (by decide)
end
theorem blk_third (w : World) (a b c : Obj) : (((w.alloc a).alloc b).alloc c).heap[w.heap.size + 1 + 1]? = some c := by
  have := blk_new ((w.alloc a).alloc b) c
  rwa [World.size_alloc, World.size_alloc] at this
theorem rnew_no (s : ByteArray) (A : Option Addr) (c : Nat) (l : List Int) (w : World) (hr : Kd.C (Kd.int .i64) w A l.length l) (hc : l.length ≤ c) (hm : mayB l = false) :
    Calls Try.prog 12 #[.agg #[.string s, .slice A l.length c]] w fun e w' => e = .returned (.tuple #[.pointer none, .int .i64 2]) ∧ Below w.heap.size w w' := by
  have HR := Aside0.mk hr
  clear hr
  go_enter Try.func12, Try.ntmps12
  go_wp2_with fail
  have hb1 := below_alloc (Below.refl w.heap.size w) (.cells #[.string s, .slice A l.length c] 24)
  refine (rmay_c s A c l _ (Kd.C_below HR.out hb1) hc).mono ?_
  rintro e w1 ⟨rfl, hbx⟩
  have HB := Aside0.mk (below_then hb1 hb1.size hbx)
  clear hb1 hbx
  rw [hm]
  go_wp2
  go_ret2
  exact ⟨rfl, HB.out⟩
theorem rnew_ok (s : ByteArray) (A : Option Addr) (c : Nat) (l : List Int) (w : World) (hr : Kd.C (Kd.int .i64) w A l.length l) (hc : l.length ≤ c) (hl : l.length ≤ 1000) (hm : mayB l = true) :
    Calls Try.prog 12 #[.agg #[.string s, .slice A l.length c]] w fun e w' => (∃ g vg vo, e = .returned (.tuple #[.pointer (some ⟨g, 0, none⟩), .int .i64 0]) ∧ Gr w' w.heap.size (fun _ => True) g vg vo [⟨⟨s, l⟩, false⟩]) ∧ Below w.heap.size w w' := by
  have HR := Aside0.mk hr
  clear hr
  go_enter Try.func12, Try.ntmps12
  go_wp2_with fail
  have hb1 := below_alloc (Below.refl w.heap.size w) (.cells #[.string s, .slice A l.length c] 24)
  have BP := Aside0.mk (blk_new w (.cells #[.string s, .slice A l.length c] 24))
  refine (rmay_c s A c l _ (Kd.C_below HR.out hb1) hc).mono ?_
  rintro e w1 ⟨rfl, hbx⟩
  have HB := Aside0.mk (below_then hb1 hb1.size hbx)
  have BP1 := Aside0.mk (blk_below BP.out hbx)
  clear hb1 hbx BP
  rw [hm]
  have g0 := (blk_cell BP1.out 0).trans rfl
  have g1 := (blk_cell BP1.out 1).trans rfl
  go_wp2_with fail
  refine (rcopy_c s A c l w1 (Kd.C_below HR.out HB.out) hc (by omega)).mono ?_
  rintro e w2 ⟨u, rfl, hR, hb⟩
  obtain ⟨An, cn, rfl, hln, _⟩ := Kd.R_reads hR
  have HB2 := Aside0.mk (below_then HB.out HB.out.size hb)
  have HR2 := Aside0.mk hR
  have hz := Aside0.mk (Nat.le_trans HB.out.size hb.size)
  have hz0 := Aside0.mk HB.out.size
  clear hR hb g0 g1
  go_wp2
  go_ret2
  have hz1 := hz.out
  have m3 := below_alloc3 w2 (.cells #[.string s, .slice An l.length cn] 24) (.cells #[.bool false] 4) (.cells #[.slice (some ⟨w2.heap.size, 0, none⟩) 1 1, .slice (some ⟨w2.heap.size + 1, 0, none⟩) 1 1] 58)
  have hq := R_one_at k24 (base := w.heap.size) (ok := fun _ => True) (okp := fun k => k < w2.heap.size) (p := (⟨s, l⟩ : Gp)) (blk_alloc (blk_alloc (blk_new w2 (.cells #[.string s, .slice An l.length cn] 24)) (.cells #[.bool false] 4)) (.cells #[.slice (some ⟨w2.heap.size, 0, none⟩) 1 1, .slice (some ⟨w2.heap.size + 1, 0, none⟩) 1 1] 58)) hz1 trivial
    (k24_mkM _ w.heap.size _ (⟨s, l⟩ : Gp) (Kd.R_below (Kd.R_mono (Kd.R_bound (Kd.R_lower HR2.out hz0.out)) (fun k hk => hk.2.2.1)) m3)) (fun k hk => ⟨trivial, by omega⟩)
  have hq2 := R_one_at Kd.bool (base := w.heap.size) (ok := fun _ => True) (okp := fun _ => False) (p := false) (blk_mid w2 (.cells #[.string s, .slice An l.length cn] 24) (.cells #[.bool false] 4) (.cells #[.slice (some ⟨w2.heap.size, 0, none⟩) 1 1, .slice (some ⟨w2.heap.size + 1, 0, none⟩) 1 1] 58)) (by omega) trivial rfl (fun _ h => h.elim)
  exact ⟨⟨_, _, _, rfl, ⟨blk_third w2 _ _ _, by omega, Kd.Q_of_R hq, Kd.Q_of_R hq2⟩⟩, below_then HB2.out hz1 m3⟩
theorem rat_none (base : Nat) (ok : Nat → Prop) (g : Nat) (vg vo : Value) (ls : List Sl) (k : Int) (w : World) (h : Gr w base ok g vg vo ls) (hx : getH k ls = none) :
    Calls Try.prog 14 #[.pointer (some ⟨g, 0, none⟩), .int .i64 k] w fun e w' => e = .returned (.tuple #[.agg #[.string ⟨#[]⟩, .slice none 0 0], .int .i64 110]) ∧ Below w.heap.size w w' := by
  have hmax := h.max
  obtain ⟨A, c, A2, c2, rfl, rfl, hl1, hl2⟩ := h.forms
  have hg0 : w.cell? ⟨g, 0, none⟩ = some (.slice A ls.length c) := (blk_cell h.blk 0).trans rfl
  have hg1 : w.cell? ⟨g, 1, none⟩ = some (.slice A2 ls.length c2) := (blk_cell h.blk 1).trans rfl
  have hg0 := cell_alloc1 hg0 (.cells #[.string ⟨#[]⟩, .slice none 0 0] 24)
  have hg1 := cell_alloc1 hg1 (.cells #[.string ⟨#[]⟩, .slice none 0 0] 24)
  have HB := Aside0.mk (blk_new w (.cells #[.string ⟨#[]⟩, .slice none 0 0] 24))
  rcases getH_none hx with h0 | h0 | ⟨x, h0, h1, hi, hgn⟩
  · have b1 : decide (k < 0) = true := decide_eq_true h0
    clear h hx
    go_enter Try.func14, Try.ntmps14
    go_wp2
    refine bodyPost_ret (results_ct rfl _ _ w.heap.size 24 #[.string ⟨#[]⟩, .slice none 0 0] (0, 0) _ rfl HB.out Try.underlying24 rfl (by kernel_rfl)) rfl ?_
    exact ⟨rfl, below_alloc (Below.refl _ _) _⟩
  · have b1 : decide (k < 0) = false := decide_eq_false (by omega)
    have b2 : decide ((ls.length : Int) ≤ k) = true := decide_eq_true h0
    clear h hx
    go_enter Try.func14, Try.ntmps14
    go_wp2
    refine bodyPost_ret (results_ct rfl _ _ w.heap.size 24 #[.string ⟨#[]⟩, .slice none 0 0] (0, 0) _ rfl HB.out Try.underlying24 rfl (by kernel_rfl)) rfl ?_
    exact ⟨rfl, below_alloc (Below.refl _ _) _⟩
  · obtain ⟨n, rfl⟩ : ∃ n : Nat, k = n := ⟨k.toNat, by omega⟩
    rw [Int.toNat_natCast] at hi
    obtain ⟨b, o, cc, A4, c4, b2, o2, c5, hve, hve2, _, _, cb, _, _, _, _, _⟩ := h.slot n x hi
    injection hve2 with hv1 hv2 hv3
    subst hv1 hv3
    rw [hgn] at cb
    have cb := cell_alloc1 cb (.cells #[.string ⟨#[]⟩, .slice none 0 0] 24)
    have b1 : decide ((n : Int) < 0) = false := decide_eq_false (by omega)
    have b3 : decide ((ls.length : Int) ≤ (n : Int)) = false := decide_eq_false (by omega)
    clear h hx hi hve
    go_enter Try.func14, Try.ntmps14
    go_wp2
    refine bodyPost_ret (results_ct rfl _ _ w.heap.size 24 #[.string ⟨#[]⟩, .slice none 0 0] (0, 0) _ rfl HB.out Try.underlying24 rfl (by kernel_rfl)) rfl ?_
    exact ⟨rfl, below_alloc (Below.refl _ _) _⟩
theorem rat_some (base : Nat) (ok : Nat → Prop) (g : Nat) (vg vo : Value) (ls : List Sl) (k : Int) (x : Sl) (w : World) (h : Gr w base ok g vg vo ls) (hx : getH k ls = some x) (hl : x.f0.f1.length ≤ 1000) :
    Calls Try.prog 14 #[.pointer (some ⟨g, 0, none⟩), .int .i64 k] w fun e w' => (∃ u, e = .returned (.tuple #[.agg #[.string x.f0.f0, u], .int .i64 0]) ∧ Kd.R (Kd.int .i64) 3 w' w.heap.size (fun _ => True) u x.f0.f1) ∧ Below w.heap.size w w' := by
  have hmax := h.max
  obtain ⟨h0, h1, hi, hgn⟩ := getH_some hx
  obtain ⟨n, rfl⟩ : ∃ n : Nat, k = n := ⟨k.toNat, by omega⟩
  rw [Int.toNat_natCast] at hi
  obtain ⟨b, o, c, A, cc, b2, o2, c2, rfl, rfl, c0, c1, cb, _, hcc, hC, _, _⟩ := h.slot n x hi
  have hg0 : w.cell? ⟨g, 0, none⟩ = some (.slice (some ⟨b, o, none⟩) ls.length c) := (blk_cell h.blk 0).trans rfl
  have hg1 : w.cell? ⟨g, 1, none⟩ = some (.slice (some ⟨b2, o2, none⟩) ls.length c2) := (blk_cell h.blk 1).trans rfl
  have hg0 := cell_alloc1 hg0 (.cells #[.string ⟨#[]⟩, .slice none 0 0] 24)
  have hg1 := cell_alloc1 hg1 (.cells #[.string ⟨#[]⟩, .slice none 0 0] 24)
  have c0 := cell_alloc1 c0 (.cells #[.string ⟨#[]⟩, .slice none 0 0] 24)
  have c1 := cell_alloc1 c1 (.cells #[.string ⟨#[]⟩, .slice none 0 0] 24)
  rw [hgn] at cb
  have cb := cell_alloc1 cb (.cells #[.string ⟨#[]⟩, .slice none 0 0] 24)
  have HC := Aside0.mk hC
  have HB := Aside0.mk (blk_new w (.cells #[.string ⟨#[]⟩, .slice none 0 0] 24))
  have b1 : decide ((n : Int) < 0) = false := decide_eq_false (by omega)
  have b3 : decide ((ls.length : Int) ≤ (n : Int)) = false := decide_eq_false (by omega)
  clear h hx hi hC
  go_enter Try.func14, Try.ntmps14
  go_wp2_with fail
  refine (rcopy_c x.f0.f0 A cc x.f0.f1 _ (Kd.C_alloc HC.out _) hcc (by omega)).mono ?_
  rintro e w2 ⟨u, rfl, hR, hb⟩
  obtain ⟨An, cn, rfl, hln, _⟩ := Kd.R_reads hR
  have HB2 := Aside0.mk (blk_below HB.out hb)
  have HR := Aside0.mk hR
  have HBL := Aside0.mk (below_then (below_alloc (Below.refl w.heap.size w) (.cells #[.string ⟨#[]⟩, .slice none 0 0] 24)) (by simp) hb)
  clear hR hb c0 c1 cb hg0 hg1
  have g0 := (blk_cell HB2.out 0).trans rfl
  have g1 := (blk_cell HB2.out 1).trans rfl
  have f0 := blk_frozen HB2.out 0
  have f1 := blk_frozen HB2.out 1
  go_wp2
  have C1 := blk_put (cs' := #[.string x.f0.f0, .slice none 0 0]) HB2.out 0 (.string x.f0.f0) rfl
  have C2 := blk_put (cs' := #[.string x.f0.f0, .slice An x.f0.f1.length cn]) C1 1 (.slice An x.f0.f1.length cn) rfl
  have R1 := Kd.R_set HR.out HB2.out E24 0 (.string x.f0.f0)
  have R2 := Kd.R_set R1 C1 E24 1 (.slice An x.f0.f1.length cn)
  refine bodyPost_ret (results_ct rfl _ _ w.heap.size 24 #[.string x.f0.f0, .slice An x.f0.f1.length cn] (0, 0) _ rfl C2 Try.underlying24 rfl (by kernel_rfl)) rfl ?_
  exact ⟨⟨_, rfl, Kd.R_lower R2 (by simp)⟩, (HBL.out.setCell (Nat.le_refl _) _).setCell (Nat.le_refl _) _⟩
end Go.Proofs.Ytkifmhfgplhabaa.HQ
