/-
  CONTRACTS BY HAND (groups, 6): find where there is none, At, Free, New.
-/
import Derived.Test.YtkifmhfgplhabaaGpD
namespace Go.Proofs.Ytkifmhfgplhabaa.HQ
open Go.Proofs.Ytkifmhfgplhabaa.HU Go.RowKit Go.Proofs.Ytkifmhfgplhabaa.HK Go.Proofs.Ytkifmhfgplhabaa.HP Go.Proofs.YtkifmhfgplhabaaW.PrintWords Go.Proofs.YtkifmhfgplhabaaW.PrintLast Go.Proofs.YtkifmhfgplhabaaW.PrintMore
set_option linter.unusedVariables false
set_option linter.unusedSimpArgs false
theorem find_none (base : Nat) (ok : Nat → Prop) (g : Nat) (v : Value) (ls : List Sl) (k : Int) (w : World) (h : Gs w base ok g v ls) (hp : 0 < ls.length) (hx : getH k ls = none) :
    Calls Try.prog 20 #[.pointer (some ⟨g, 0, none⟩), .int .i64 k] w fun e w' => e = .returned (.tuple #[.pointer none, .int .i64 110]) ∧ w = w' := by
  have hmax := h.max
  obtain ⟨Av, cv, rfl, hlv, _⟩ := Kd.Q_reads h.row
  have hg0 : w.cell? ⟨g, 0, none⟩ = some (.slice Av ls.length cv) := (blk_cell h.blk 0).trans rfl
  have b0 : ((ls.length : Int) == 0) = false := beq_eq_false_iff_ne.2 (by omega)
  have HM := Aside0.mk (many_c base ok g _ ls w h)
  rcases getH_none hx with h0 | h0 | ⟨x, h0, h1, hi, hgn⟩
  · have b1 : decide (k < 0) = true := decide_eq_true h0
    clear h hx
    go_enter Try.func20, Try.ntmps20
    go_wp2_with fail
    refine HM.out.mono ?_
    rintro e w1 ⟨rfl, rfl⟩
    go_wp2
    go_ret2
    exact ⟨rfl, rfl⟩
  · have b1 : decide (k < 0) = false := decide_eq_false (by omega)
    have b2 : decide ((ls.length : Int) ≤ k) = true := decide_eq_true h0
    clear h hx
    go_enter Try.func20, Try.ntmps20
    go_wp2_with fail
    refine HM.out.mono ?_
    rintro e w1 ⟨rfl, rfl⟩
    go_wp2
    go_ret2
    exact ⟨rfl, rfl⟩
  · obtain ⟨n, rfl⟩ : ∃ n : Nat, k = n := ⟨k.toNat, by omega⟩
    rw [Int.toNat_natCast] at hi
    obtain ⟨b, o, c, A, cc, hve, c0, c1, c2, _, _, _, _, _⟩ := h.slot n x hi
    injection hve with hv1 hv2 hv3
    subst hv1 hv3
    rw [hgn] at c2
    have b1 : decide ((n : Int) < 0) = false := decide_eq_false (by omega)
    have b2 : decide ((ls.length : Int) ≤ (n : Int)) = false := decide_eq_false (by omega)
    clear c0 c1 h hx hi
    go_enter Try.func20, Try.ntmps20
    go_wp2_with fail
    refine HM.out.mono ?_
    rintro e w1 ⟨rfl, rfl⟩
    go_wp2
    go_ret2
    exact ⟨rfl, rfl⟩
theorem at_none (base : Nat) (ok : Nat → Prop) (g : Nat) (v : Value) (ls : List Sl) (k : Int) (w : World) (h : Gs w base ok g v ls) (hp : 0 < ls.length) (hx : getH k ls = none) :
    Calls Try.prog 7 #[.pointer (some ⟨g, 0, none⟩), .int .i64 k] w fun e w' => e = .returned (.tuple #[.agg #[.string ⟨#[]⟩, .slice none 0 0], .int .i64 110]) ∧ Below w.heap.size w w' := by
  have HF := Aside0.mk (find_none base ok g v ls k _ (h.below (below_alloc (Below.refl w.heap.size w) (.cells #[.string ⟨#[]⟩, .slice none 0 0] 24))) hp hx)
  have hblk := blk_new w (.cells #[.string ⟨#[]⟩, .slice none 0 0] 24)
  have HB := Aside0.mk hblk
  clear h hx hblk
  go_enter Try.func7, Try.ntmps7
  go_wp2_with fail
  refine HF.out.mono ?_
  rintro e w1 ⟨rfl, rfl⟩
  go_wp2
  refine bodyPost_ret (results_ct rfl _ _ w.heap.size 24 #[.string ⟨#[]⟩, .slice none 0 0] (0, 0) _ rfl HB.out Try.underlying24 rfl (by kernel_rfl)) rfl ?_
  exact ⟨rfl, below_alloc (Below.refl _ _) _⟩
theorem at_some (base : Nat) (ok : Nat → Prop) (g : Nat) (v : Value) (ls : List Sl) (k : Int) (x : Sl) (w : World) (h : Gs w base ok g v ls) (hx : getH k ls = some x) (hl : x.f0.f1.length ≤ 1000) :
    Calls Try.prog 7 #[.pointer (some ⟨g, 0, none⟩), .int .i64 k] w fun e w' => (∃ u, e = .returned (.tuple #[.agg #[.string x.f0.f0, u], .int .i64 0]) ∧ Kd.R (Kd.int .i64) 3 w' w.heap.size (fun _ => True) u x.f0.f1) ∧ Below w.heap.size w w' := by
  have HF := Aside0.mk (find_some base ok g v ls k x _ (h.below (below_alloc (Below.refl w.heap.size w) (.cells #[.string ⟨#[]⟩, .slice none 0 0] 24))) hx)
  obtain ⟨h0, h1, hi, hgn⟩ := getH_some hx
  obtain ⟨b, o, c, A, cc, hve, c0, c1, c2, _, hcc, hC, _, _⟩ := h.slot _ x hi
  have HC := Aside0.mk hC
  have c0 := cell_alloc1 c0 (.cells #[.string ⟨#[]⟩, .slice none 0 0] 24)
  have c1 := cell_alloc1 c1 (.cells #[.string ⟨#[]⟩, .slice none 0 0] 24)
  have HB := Aside0.mk (blk_new w (.cells #[.string ⟨#[]⟩, .slice none 0 0] 24))
  clear h hx hi hC c2
  go_enter Try.func7, Try.ntmps7
  go_wp2_with fail
  refine HF.out.mono ?_
  rintro e w1 ⟨⟨b', o', c', hv', rfl⟩, rfl⟩
  have hbb : b = b' ∧ o = o' := by
    rw [hve] at hv'
    injection hv' with hv' _ _
    injection hv' with hv'
    injection hv' with h1 h2 _
    exact ⟨h1, h2⟩
  obtain ⟨rfl, rfl⟩ := hbb
  clear hv' hve
  go_wp2_with fail
  refine (own_c x.f0.f0 A cc x.f0.f1 _ (Kd.C_alloc HC.out _) hcc (by omega)).mono ?_
  rintro e w2 ⟨u, rfl, hR, hb⟩
  obtain ⟨An, cn, rfl, hln, _⟩ := Kd.R_reads hR
  have HB2 := Aside0.mk (blk_below HB.out hb)
  have HR := Aside0.mk hR
  have HBL := Aside0.mk (below_then (below_alloc (Below.refl w.heap.size w) (.cells #[.string ⟨#[]⟩, .slice none 0 0] 24)) (by simp) hb)
  clear hR hb c0 c1
  have g0 := (blk_cell HB2.out 0).trans rfl
  have g1 := (blk_cell HB2.out 1).trans rfl
  have f0 := blk_frozen HB2.out 0
  have f1 := blk_frozen HB2.out 1
  go_wp2
  have C1 := blk_put (cs' := #[.string x.f0.f0, .slice none 0 0]) HB2.out 0 (.string x.f0.f0) rfl
  have C2 := blk_put (cs' := #[.string x.f0.f0, .slice An x.f0.f1.length cn]) C1 1 (.slice An x.f0.f1.length cn) rfl
  have R1 := Kd.R_set HR.out HB2.out E24 0 (.string x.f0.f0)
  have R2 := Kd.R_set R1 C1 E24 1 (.slice An x.f0.f1.length cn)
  refine bodyPost_ret (results_ct rfl _ _ w.heap.size 24 #[.string x.f0.f0, .slice An x.f0.f1.length cn] (0, 0) _ rfl C2 Try.underlying24 rfl (by kernel_rfl)) rfl ?_
  exact ⟨⟨_, rfl, Kd.R_lower R2 (by simp)⟩, (HBL.out.setCell (Nat.le_refl _) _).setCell (Nat.le_refl _) _⟩
/-- the handles behind a free -/
def freeL (k : Int) (ls : List Sl) : List Sl := match getH k ls with | some x => ls.set k.toNat { x with f1 := true } | none => ls
def atE (k : Int) (ls : List Sl) : Int := if (getH k ls).isSome = true then 0 else 110
theorem free_some (base : Nat) (ok : Nat → Prop) (g : Nat) (v : Value) (ls : List Sl) (k : Int) (x : Sl) (w : World) (h : Gs w base ok g v ls) (hx : getH k ls = some x) :
    Calls Try.prog 8 #[.pointer (some ⟨g, 0, none⟩), .int .i64 k] w fun e w' => e = .returned (.int .i64 0) ∧ Gs w' base ok g v (ls.set k.toNat { x with f1 := true }) ∧ Kept w w' (fun j => some j = v.ownBlock) ∧ Below base w w' := by
  have HF := Aside0.mk (find_some base ok g v ls k x _ h hx)
  obtain ⟨h0, h1, hi, hgn⟩ := getH_some hx
  obtain ⟨b, o, c, A, cc, hve, c0, c1, c2, f2, hcc, hC, hbb, hbg⟩ := h.slot _ x hi
  have HG := Aside0.mk h
  subst hve
  have HS : Aside0 (Gs (w.setCell ⟨b, o + k.toNat * 3 + 2, none⟩ (.bool true)) base ok g (.slice (some ⟨b, o, none⟩) ls.length c) (ls.set k.toNat { x with f1 := true })) := by
    obtain ⟨cs, hcl, hM, hcc2, hfr⟩ := Kd.Q_elem h.row z62 k h0 (by omega)
    have hxx : ls.getD k.toNat z62 = x := by simp [List.getD, hi]
    rw [hxx] at hM
    obtain ⟨v2, hce, hR⟩ := k62_openM hM
    have hs := Kd.Q_seg h.row k h0 (by omega) (c := cs) (seg := [.bool true]) (j := 2) (x' := { x with f1 := true }) (okp := fun j => ok j ∧ j ≠ b) hcl hcc2 (by show _ ≤ 3; simp) (by
        rw [hce]
        exact k62_mkM w base _ { x with f1 := true } hR) (fun _ h => h)
    exact ⟨⟨blk_far h.blk (by show g ≠ b; omega) _, h.hg, hs.1⟩⟩
  have HK : Aside0 (Kept w (w.setCell ⟨b, o + k.toNat * 3 + 2, none⟩ (.bool true)) (fun j => some j = (Value.slice (some ⟨b, o, none⟩) ls.length c).ownBlock)) := ⟨Kept.setCell (p := ⟨b, o + k.toNat * 3 + 2, none⟩) (Kept.refl w (fun j => some j = (Value.slice (some ⟨b, o, none⟩) ls.length c).ownBlock)) (.inl (show some b = some b from rfl)) _⟩
  have HBL : Aside0 (Below base w (w.setCell ⟨b, o + k.toNat * 3 + 2, none⟩ (.bool true))) := ⟨(Below.refl base w).setCell hbb _⟩
  clear h hx hi hC c0 c1
  go_enter Try.func8, Try.ntmps8
  go_wp2_with fail
  refine HF.out.mono ?_
  rintro e w1 ⟨⟨b', o', c', hv', rfl⟩, rfl⟩
  injection hv' with hv' _ _
  injection hv' with hv'
  injection hv' with hb1 ho1 _
  subst hb1 ho1
  go_wp2
  go_ret
  exact ⟨rfl, HS.out, HK.out, HBL.out⟩
theorem free_none (base : Nat) (ok : Nat → Prop) (g : Nat) (v : Value) (ls : List Sl) (k : Int) (w : World) (h : Gs w base ok g v ls) (hp : 0 < ls.length) (hx : getH k ls = none) :
    Calls Try.prog 8 #[.pointer (some ⟨g, 0, none⟩), .int .i64 k] w fun e w' => e = .returned (.int .i64 110) ∧ w = w' := by
  have HF := Aside0.mk (find_none base ok g v ls k _ h hp hx)
  clear h hx
  go_enter Try.func8, Try.ntmps8
  go_wp2_with fail
  refine HF.out.mono ?_
  rintro e w1 ⟨rfl, rfl⟩
  go_wp2
  go_ret
  exact ⟨rfl, rfl⟩
theorem free_any (base : Nat) (ok : Nat → Prop) (g : Nat) (v : Value) (ls : List Sl) (k : Int) (w : World) (h : Gs w base ok g v ls) (hp : 0 < ls.length) :
    Calls Try.prog 8 #[.pointer (some ⟨g, 0, none⟩), .int .i64 k] w fun e w' => e = .returned (.int .i64 (atE k ls)) ∧ Gs w' base ok g v (freeL k ls) ∧ Kept w w' (fun j => some j = v.ownBlock) ∧ Below base w w' := by
  cases hx : getH k ls with
  | none =>
    refine (free_none base ok g v ls k w h hp hx).mono ?_
    rintro e w' ⟨rfl, rfl⟩
    have h1 : atE k ls = 110 := by unfold atE; rw [hx]; rfl
    have h2 : freeL k ls = ls := by unfold freeL; rw [hx]
    rw [h1, h2]
    exact ⟨rfl, h, Kept.refl w _, Below.refl _ _⟩
  | some x =>
    have h1 : atE k ls = 0 := by unfold atE; rw [hx]; rfl
    have h2 : freeL k ls = ls.set k.toNat { x with f1 := true } := by unfold freeL; rw [hx]
    rw [h1, h2]
    exact free_some base ok g v ls k x w h hx
theorem new_no (s : ByteArray) (A : Option Addr) (c : Nat) (l : List Int) (w : World) (hr : Kd.C (Kd.int .i64) w A l.length l) (hc : l.length ≤ c) (hm : mayB l = false) :
    Calls Try.prog 11 #[.agg #[.string s, .slice A l.length c]] w fun e w' => e = .returned (.tuple #[.pointer none, .int .i64 2]) ∧ Below w.heap.size w w' := by
  have HR := Aside0.mk hr
  clear hr
  go_enter Try.func11, Try.ntmps11
  go_wp2_with fail
  have hb1 := below_alloc (Below.refl w.heap.size w) (.cells #[.string s, .slice A l.length c] 24)
  refine (may_c s A c l _ (Kd.C_below HR.out hb1) hc).mono ?_
  rintro e w1 ⟨rfl, hbx⟩
  have HB := Aside0.mk (below_then hb1 hb1.size hbx)
  clear hb1 hbx
  rw [hm]
  go_wp2
  go_ret2
  exact ⟨rfl, HB.out⟩
theorem new_ok (s : ByteArray) (A : Option Addr) (c : Nat) (l : List Int) (w : World) (hr : Kd.C (Kd.int .i64) w A l.length l) (hc : l.length ≤ c) (hl : l.length ≤ 1000) (hm : mayB l = true) :
    Calls Try.prog 11 #[.agg #[.string s, .slice A l.length c]] w fun e w' => (∃ g v, e = .returned (.tuple #[.pointer (some ⟨g, 0, none⟩), .int .i64 0]) ∧ Gs w' w.heap.size (fun _ => True) g v [⟨⟨s, l⟩, false⟩]) ∧ Below w.heap.size w w' := by
  have HR := Aside0.mk hr
  clear hr
  go_enter Try.func11, Try.ntmps11
  go_wp2_with fail
  have hb1 := below_alloc (Below.refl w.heap.size w) (.cells #[.string s, .slice A l.length c] 24)
  have BP := Aside0.mk (blk_new w (.cells #[.string s, .slice A l.length c] 24))
  refine (may_c s A c l _ (Kd.C_below HR.out hb1) hc).mono ?_
  rintro e w1 ⟨rfl, hbx⟩
  have HB := Aside0.mk (below_then hb1 hb1.size hbx)
  have BP1 := Aside0.mk (blk_below BP.out hbx)
  clear hb1 hbx BP
  rw [hm]
  have g0 := (blk_cell BP1.out 0).trans rfl
  have g1 := (blk_cell BP1.out 1).trans rfl
  go_wp2_with fail
  refine (own_c s A c l w1 (Kd.C_below HR.out HB.out) hc (by omega)).mono ?_
  rintro e w2 ⟨u, rfl, hR, hb⟩
  obtain ⟨An, cn, rfl, hln, _⟩ := Kd.R_reads hR
  have HB2 := Aside0.mk (below_then HB.out HB.out.size hb)
  have HR2 := Aside0.mk hR
  have hz := Aside0.mk (Nat.le_trans HB.out.size hb.size)
  have hz1 := Aside0.mk hb.size
  have hz0 := Aside0.mk HB.out.size
  clear hR hb g0 g1
  go_wp2
  go_ret2
  have hq := R_one_at k62 (W := (w2.alloc (.cells #[.string s, .slice An l.length cn, .bool false] 62)).alloc (.cells #[.slice (some ⟨w2.heap.size, 0, none⟩) 1 1] 29)) (base := w.heap.size) (b := w2.heap.size) (ok := fun _ => True) (okp := fun k => k < w2.heap.size) (cs := [.string s, .slice An l.length cn, .bool false]) (p := (⟨⟨s, l⟩, false⟩ : Sl)) (blk_alloc (blk_new w2 _) _) hz.out trivial
    (k62_mkM _ w.heap.size _ (⟨⟨s, l⟩, false⟩ : Sl) (Kd.R_alloc (Kd.R_alloc (Kd.R_mono (Kd.R_bound (Kd.R_lower HR2.out hz0.out)) (fun k hk => hk.2.2.1)) _) _)) (fun k hk => ⟨trivial, by omega⟩)
  refine ⟨⟨_, _, rfl, ⟨blk_second w2 _ _, ?_, Kd.Q_of_R hq⟩⟩, below_alloc (below_alloc HB2.out _) _⟩
  have := hz.out
  omega
end Go.Proofs.Ytkifmhfgplhabaa.HQ
