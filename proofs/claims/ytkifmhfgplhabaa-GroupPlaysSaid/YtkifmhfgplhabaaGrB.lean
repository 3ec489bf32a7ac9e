/-
  CONTRACTS BY HAND (groups, 11): the document's Free.
-/
import Derived.Test.YtkifmhfgplhabaaGrA
namespace Go.Proofs.Ytkifmhfgplhabaa.HQ
open Go.Proofs.Ytkifmhfgplhabaa.HU Go.RowKit Go.Proofs.Ytkifmhfgplhabaa.HK Go.Proofs.Ytkifmhfgplhabaa.HP Go.Proofs.YtkifmhfgplhabaaW.PrintWords Go.Proofs.YtkifmhfgplhabaaW.PrintLast Go.Proofs.YtkifmhfgplhabaaW.PrintMore
set_option linter.unusedVariables false
set_option linter.unusedSimpArgs false
/-- the blocks that the document's table writes -/
def WrO (g : Nat) (vg vo : Value) (k : Nat) : Prop := k = g ∨ some k = vg.ownBlock ∨ some k = vo.ownBlock
theorem rfree_none (base : Nat) (ok : Nat → Prop) (g : Nat) (vg vo : Value) (ls : List Sl) (k : Int) (w : World) (h : Gr w base ok g vg vo ls) (hx : getH k ls = none) :
    Calls Try.prog 16 #[.pointer (some ⟨g, 0, none⟩), .int .i64 k] w fun e w' => e = .returned (.int .i64 110) ∧ Below w.heap.size w w' := by
  have HF := Aside0.mk (rat_none base ok g vg vo ls k _ h hx)
  clear h hx
  go_enter Try.func16, Try.ntmps16
  go_wp2_with fail
  refine HF.out.mono ?_
  rintro e w1 ⟨rfl, hb⟩
  have HB := Aside0.mk hb
  clear hb
  go_wp2
  go_ret
  exact ⟨rfl, below_alloc HB.out _⟩
theorem map_set0 {ls : List Sl} {n : Nat} {x : Sl} (hi : ls[n]? = some x) : (ls.set n { x with f1 := true }).map (·.f0) = ls.map (·.f0) := by
  apply List.ext_getElem?
  intro i
  rw [List.getElem?_map, List.getElem?_map, List.getElem?_set]
  split
  · rename_i h
    subst h
    have hlt := (List.getElem?_eq_some_iff.1 hi).1
    rw [if_pos hlt, hi]
    rfl
  · rfl
theorem map_set1 {ls : List Sl} {n : Nat} {x : Sl} : (ls.set n { x with f1 := true }).map (·.f1) = (ls.map (·.f1)).set n true := by rw [List.map_set]
theorem E24o : ∀ q, q ∈ 24 :: (k24).E → q ≠ 4 := by decide
theorem rfree_some (base : Nat) (ok : Nat → Prop) (g : Nat) (vg vo : Value) (ls : List Sl) (k : Int) (x : Sl) (w : World) (h : Gr w base ok g vg vo ls) (hb : base ≤ w.heap.size) (hx : getH k ls = some x) (hl : x.f0.f1.length ≤ 1000) :
    Calls Try.prog 16 #[.pointer (some ⟨g, 0, none⟩), .int .i64 k] w fun e w' => e = .returned (.int .i64 0) ∧ Gr w' base ok g vg vo (ls.set k.toNat { x with f1 := true }) ∧ Kept w w' (WrO g vg vo) ∧ Below base w w' := by
  have HF := Aside0.mk (rat_some base ok g vg vo ls k x _ h hx hl)
  have hmax := h.max
  obtain ⟨h0, h1, hi, hgn⟩ := getH_some hx
  obtain ⟨n, rfl⟩ : ∃ n : Nat, k = n := ⟨k.toNat, by omega⟩
  rw [Int.toNat_natCast] at hi ⊢
  have HG := Aside0.mk h
  obtain ⟨b, o, c, A, cc, b2, o2, c2, rfl, rfl, c0, c1, cb, fb, hcc, hC, hbb, hbg⟩ := h.slot n x hi
  have hg1 : w.cell? ⟨g, 1, none⟩ = some (.slice (some ⟨b2, o2, none⟩) ls.length c2) := (blk_cell h.blk 1).trans rfl
  have hb2l : b2 < w.heap.size := Kd.Q_lt h.ro b2 rfl
  have HI := Aside0.mk hi
  have hnl : ¬ ((ls.length : Int) ≤ (n : Int)) := by omega
  clear h hx hi hC c0 c1
  go_enter Try.func16, Try.ntmps16
  go_wp2_with fail
  refine HF.out.mono ?_
  rintro e w1 ⟨⟨u, rfl, hR⟩, hbl⟩
  obtain ⟨An, cn, rfl, hln, _⟩ := Kd.R_reads hR
  have HB := Aside0.mk hbl
  have HG1 := Aside0.mk ((HG.out.below hbl).below (below_alloc (Below.refl w1.heap.size w1) (.cells #[.string x.f0.f0, .slice An x.f0.f1.length cn] 24)))
  have hg1 := pw_cell_below hbl hg1
  clear hR cb fb
  obtain ⟨b', o', c', A', cc', b2', o2', c2', hv1, hv2, c0, c1, cb, fb, _, _, _, _⟩ := HG1.out.slot n x HI.out
  injection hv2 with hv2 _ _
  injection hv2 with hv2
  injection hv2 with he1 he2 _
  subst he1 he2
  clear c0 c1 hv1
  have hg1 := cell_alloc1 hg1 (.cells #[.string x.f0.f0, .slice An x.f0.f1.length cn] 24)
  have HB1 := Aside0.mk (below_alloc HB.out (.cells #[.string x.f0.f0, .slice An x.f0.f1.length cn] 24))
  clear hbl
  go_wp2
  go_ret
  have hq := (Kd.Q_putg HG1.out.ro (n : Int) (by omega) (by omega) true).1
  rw [Int.toNat_natCast] at hq
  have hty := Kd.Q_typed HG1.out.ro
  obtain ⟨cells, hcl⟩ := hty b2 rfl
  refine ⟨rfl, ⟨blk_far HG1.out.blk (by show g ≠ b2; omega) _, HG1.out.hg, ?_, ?_⟩, ?_, ?_⟩
  · rw [map_set0 HI.out]
    exact Kd.Q_set HG1.out.rg hcl E24o _ _
  · rw [map_set1]
    exact hq
  · exact (Kept.of_below HB1.out _).setCell (p := ⟨b2, o2 + n, none⟩) (.inl (.inr (.inr rfl))) _
  · exact (HB1.out.mono hb).setCell (p := ⟨b2, o2 + n, none⟩) hbb _
theorem rfree_any (base : Nat) (ok : Nat → Prop) (g : Nat) (vg vo : Value) (ls : List Sl) (k : Int) (w : World) (h : Gr w base ok g vg vo ls) (hb : base ≤ w.heap.size) (hl : ∀ x ∈ ls, x.f0.f1.length ≤ 1000) :
    Calls Try.prog 16 #[.pointer (some ⟨g, 0, none⟩), .int .i64 k] w fun e w' => e = .returned (.int .i64 (atE k ls)) ∧ Gr w' base ok g vg vo (freeL k ls) ∧ Kept w w' (WrO g vg vo) ∧ Below base w w' := by
  cases hx : getH k ls with
  | none =>
    refine (rfree_none base ok g vg vo ls k w h hx).mono ?_
    rintro e w' ⟨rfl, hbl⟩
    have h1 : atE k ls = 110 := by unfold atE; rw [hx]; rfl
    have h2 : freeL k ls = ls := by unfold freeL; rw [hx]
    rw [h1, h2]
    exact ⟨rfl, h.below hbl, Kept.of_below hbl _, hbl.mono hb⟩
  | some x =>
    have h1 : atE k ls = 0 := by unfold atE; rw [hx]; rfl
    have h2 : freeL k ls = ls.set k.toNat { x with f1 := true } := by unfold freeL; rw [hx]
    rw [h1, h2]
    exact rfree_some base ok g vg vo ls k x w h hb hx (hl x (List.mem_of_getElem? (getH_some hx).2.2.1))
end Go.Proofs.Ytkifmhfgplhabaa.HQ
