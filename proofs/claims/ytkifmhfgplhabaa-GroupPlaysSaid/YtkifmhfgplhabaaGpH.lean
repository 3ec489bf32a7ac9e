/-
  CONTRACTS BY HAND (groups, 9): Copy: a table of its own; what was there stays.
-/
import Derived.Test.YtkifmhfgplhabaaGpG
import Derived.Test.YtkifmhfgplhabaaHY
namespace Go.Proofs.Ytkifmhfgplhabaa.HQ
open Go.Proofs.Ytkifmhfgplhabaa.HU Go.RowKit Go.Proofs.Ytkifmhfgplhabaa.HK Go.Proofs.Ytkifmhfgplhabaa.HP Go.Proofs.YtkifmhfgplhabaaW.PrintWords Go.Proofs.YtkifmhfgplhabaaW.PrintLast Go.Proofs.YtkifmhfgplhabaaW.PrintMore
set_option linter.unusedVariables false
set_option linter.unusedSimpArgs false
/-- the blocks of a copy -/
def okC (ok : Nat → Prop) (v : Value) (n : Nat) (k : Nat) : Prop := (ok k ∧ some k ≠ v.ownBlock) ∨ n ≤ k
theorem infoSz : (Try.prog.info? 62).map (·.size) = some 3 := by kernel_rfl
theorem cpH_rows {W : World} {base b o n c : Nat} {ok : Nat → Prop} {ls : List Sl} {w : World} (h : Kd.Q k62 62 w base ok (.slice (some ⟨b, o, none⟩) n c) ls) (hb : Below w.heap.size w W) :
    ReadsRow (Kd.M k62 W base (fun k => (ok k ∧ some k ≠ (Value.slice (some ⟨b, o, none⟩) n c).ownBlock) ∧ k < w.heap.size)) (k62).sz W (some ⟨b, o, none⟩) n ls :=
  (Q_rowsM h).imp_ hb (fun p cs hp => Kd.M_below hp hb)
theorem cpH_end {w W w4 : World} {base : Nat} {ok : Nat → Prop} {v' : Value} {ls : List Sl} (hb : base ≤ w.heap.size) (b1 : Below w.heap.size w W) (k2 : W.heap[w.heap.size + 1]? = some (.cells #[v'] 29 (0, 0)))
    (hrow : Kd.R k62 62 w4 base ok v' ls) (hbl : Below w.heap.size W.drew w4) (hk : Kept W.drew w4 (fun k => k = w.heap.size)) : Gs w4 base ok (w.heap.size + 1) v' ls ∧ Below w.heap.size w w4 :=
  ⟨⟨blk_kept (blk_drew k2) hk (by omega), by omega, Kd.Q_of_R hrow⟩, (below_drew b1).trans hbl⟩
theorem cell_keptB {W w4 : World} {S : Nat → Prop} {b i : Nat} {v : Value} (h : W.cell? ⟨b, i, none⟩ = some v) (hlt : b < W.heap.size) (hk : Kept W w4 S) (hn : ¬ S b) : w4.cell? ⟨b, i, none⟩ = some v := by
  have := hk.2 b hlt hn
  simpa [World.cell?, this] using h
set_option maxHeartbeats 4000000 in
theorem copy_ok (base : Nat) (ok : Nat → Prop) (g : Nat) (v : Value) (ls : List Sl) (w : World) (h : Gs w base ok g v ls) (hb : base ≤ w.heap.size) (hp : 0 < ls.length) (hn : ls.length ≤ 32) :
    Calls Try.prog 10 #[.pointer (some ⟨g, 0, none⟩)] w fun e w' => (∃ g' v', e = .returned (.pointer (some ⟨g', 0, none⟩)) ∧ Gs w' base (okC ok v w.heap.size) g' v' ls ∧ w.heap.size ≤ g' ∧ (∀ k, v'.ownBlock = some k → w.heap.size ≤ k)) ∧ Below w.heap.size w w' := by
  have hgl := blk_lt h.blk
  obtain ⟨b, o, c, rfl, hbb, hbl, _⟩ := Kd.Q_form h.row hp
  have HQ := Aside0.mk h.row
  have hg0 : w.cell? ⟨g, 0, none⟩ = some (.slice (some ⟨b, o, none⟩) ls.length c) := (blk_cell h.blk 0).trans rfl
  have hmk := fun W => run_make_n (P := Try.prog) W 27 62 (.agg #[.string ⟨#[]⟩, .slice none 0 0, .bool false]) 3 48 ls.length Try.underlying27 (by kernel_rfl) (by omega) (by omega)
  have b1 := Aside0.mk (below_alloc2 w (.cells (madeCells #[.string ⟨#[]⟩, .slice none 0 0, .bool false] (ls.length * 3)) 62) (.cells #[.slice (some ⟨w.heap.size, 0, none⟩) ls.length ls.length] 29))
  have k1 := Aside0.mk (blk_alloc (blk_new w (.cells (madeCells #[.string ⟨#[]⟩, .slice none 0 0, .bool false] (ls.length * 3)) 62)) (.cells #[.slice (some ⟨w.heap.size, 0, none⟩) ls.length ls.length] 29))
  have k2 := Aside0.mk (blk_second w (.cells (madeCells #[.string ⟨#[]⟩, .slice none 0 0, .bool false] (ls.length * 3)) 62) (.cells #[.slice (some ⟨w.heap.size, 0, none⟩) ls.length ls.length] 29))
  clear h
  go_enter Try.func10, Try.ntmps10
  go_upto_region 4 with (fail)
  have hg0 := pw_cell_below b1.out hg0
  have hn0 := (blk_cell k2.out 0).trans rfl
  clear hmk
  generalize hW : (w.alloc (.cells (madeCells #[.string ⟨#[]⟩, .slice none 0 0, .bool false] (ls.length * 3)) 62)).alloc (.cells #[.slice (some ⟨w.heap.size, 0, none⟩) ls.length ls.length] 29) = W at hg0 hn0 b1 k1 k2 ⊢
  clear hW
  have HR := Aside0.mk (cpH_rows HQ.out (below_drew b1.out))
  have hgW : Aside0 (g < W.drew.heap.size) := ⟨Nat.lt_of_lt_of_le hgl b1.out.size⟩
  have hnW : Aside0 (w.heap.size + 1 < W.drew.heap.size) := ⟨blk_lt k2.out⟩
  refine HU.region_T (S := (fun W => W.cell? ⟨g, 0, none⟩ = some (.slice (some ⟨b, o, none⟩) ls.length c) ∧ W.cell? ⟨w.heap.size + 1, 0, none⟩ = some (.slice (some ⟨w.heap.size, 0, none⟩) ls.length ls.length))) (T := (fun k => decide (100 ≤ k))) (by kernel_rfl) ?_
  have hSw : (fun W => W.cell? ⟨g, 0, none⟩ = some (.slice (some ⟨b, o, none⟩) ls.length c) ∧ W.cell? ⟨w.heap.size + 1, 0, none⟩ = some (.slice (some ⟨w.heap.size, 0, none⟩) ls.length ls.length)) W.drew := ⟨hg0, hn0⟩
  refine takeP (i := 0) (v := ?va1) rfl (by kernel_rfl) (by kernel_rfl) (by kernel_rfl) (by rfl) (fun _ _ _ h => h) (Or.inl ⟨by rfl, ?ha1⟩) (by assumption) ?ra1
  case ha1 => ((intro w hSw'); (try dsimp only at hSw'); go_simp; (try with_reducible rfl))
  try simp only [Act.put, List.setIfInBounds_toArray, List.set_cons_zero, List.set_cons_succ]
  refine takeP (i := 1) (v := ?va2) rfl (by kernel_rfl) (by kernel_rfl) (by kernel_rfl) (by rfl) (fun _ _ _ h => h) (Or.inl ⟨by rfl, ?ha2⟩) (by assumption) ?ra2
  case ha2 => ((intro w hSw'); (try dsimp only at hSw'); go_simp; (try with_reducible rfl))
  try simp only [Act.put, List.setIfInBounds_toArray, List.set_cons_zero, List.set_cons_succ]
  refine takeP (i := 2) (v := ?va3) rfl (by kernel_rfl) (by kernel_rfl) (by kernel_rfl) (by rfl) (fun _ _ _ h => h) (Or.inl ⟨by rfl, ?ha3⟩) (by assumption) ?ra3
  case ha3 => ((intro w hSw'); (try dsimp only at hSw'); go_simp; (try with_reducible rfl))
  try simp only [Act.put, List.setIfInBounds_toArray, List.set_cons_zero, List.set_cons_succ]
  refine takeT (i := 3) (v := ?va4) rfl (by kernel_rfl) (by kernel_rfl) (by kernel_rfl) (by kernel_rfl) (by rfl) (by kernel_rfl) (fun _ _ _ h => h) (Or.inl ⟨by rfl, ?ha4⟩) (by assumption) ?ra4
  case ha4 => ((intro w hSw'); (try dsimp only at hSw'); go_simp; (try with_reducible rfl))
  try simp only [Act.put, List.setIfInBounds_toArray, List.set_cons_zero, List.set_cons_succ]
  refine takeP (i := 4) (v := ?va5) rfl (by kernel_rfl) (by kernel_rfl) (by kernel_rfl) (by rfl) (fun _ _ _ h => h) (Or.inl ⟨by rfl, ?ha5⟩) (by assumption) ?ra5
  case ha5 => ((intro w hSw'); (try dsimp only at hSw'); go_simp; (try with_reducible rfl))
  try simp only [Act.put, List.setIfInBounds_toArray, List.set_cons_zero, List.set_cons_succ]
  refine takeP (i := 5) (v := ?va6) rfl (by kernel_rfl) (by kernel_rfl) (by kernel_rfl) (by rfl) (fun _ _ _ h => h) (Or.inl ⟨by rfl, ?ha6⟩) (by assumption) ?ra6
  case ha6 => ((intro w hSw'); (try dsimp only at hSw'); go_simp; (try with_reducible rfl))
  try simp only [Act.put, List.setIfInBounds_toArray, List.set_cons_zero, List.set_cons_succ]
  refine takeP (i := 6) (v := ?va7) rfl (by kernel_rfl) (by kernel_rfl) (by kernel_rfl) (by rfl) (fun _ _ _ h => h) (Or.inl ⟨by rfl, ?ha7⟩) (by assumption) ?ra7
  case ha7 => ((intro w hSw'); (try dsimp only at hSw'); go_simp; (try with_reducible rfl))
  try simp only [Act.put, List.setIfInBounds_toArray, List.set_cons_zero, List.set_cons_succ]
  refine takeT (i := 7) (v := ?va8) rfl (by kernel_rfl) (by kernel_rfl) (by kernel_rfl) (by kernel_rfl) (by rfl) (by kernel_rfl) (fun _ _ _ h => h) (Or.inl ⟨by rfl, ?ha8⟩) (by assumption) ?ra8
  case ha8 => ((intro w hSw'); (try dsimp only at hSw'); go_simp; (try with_reducible rfl))
  try simp only [Act.put, List.setIfInBounds_toArray, List.set_cons_zero, List.set_cons_succ]
  refine anyT_all (rs := [8]) (by kernel_rfl) (by simp) (consT rfl (fun K hK => ?ba9) AllT.nil)
  case ba9 =>
    refine copy_step k62 base w.heap.size ls.length ls.length c (by rfl) (.tmp 17) (.tmp 21) 27 27 62 (by rfl) Try.underlying27 infoSz (by decide) ls ⟨b, o, none⟩ _ (okC ok (.slice (some ⟨b, o, none⟩) ls.length c) w.heap.size) (fun k => (ok k ∧ some k ≠ (Value.slice (some ⟨b, o, none⟩) ls.length c).ownBlock) ∧ k < w.heap.size) (by rfl) (by rfl) (blk_drew k1.out) (by rw [size_made]; rfl) rfl hb (.inr (Nat.le_refl _)) HR.out (fun k hk => ⟨.inl hk.1, by omega⟩) ?_; intro w4 hrow hbl hkp; have hz4 := hkp.1; have cz := cell_keptB (W := W.drew) hg0 hgW.out hkp (by omega); have cn := cell_keptB (W := W.drew) hn0 hnW.out hkp (by omega); have HE := Aside0.mk (cpH_end hb b1.out k2.out hrow hbl hkp); clear hrow hbl hkp hz4
    refine hK.out _ _ ?sa9 (fun hSw => ?ta9)
    case sa9 => (exact ⟨cz, cn⟩)
    clear hK K
    try simp only [Act.put, List.setIfInBounds_toArray, List.set_cons_zero, List.set_cons_succ]
    refine anyT_done (by kernel_rfl) ?_ _
    go_wp2
    go_ret
    exact ⟨⟨_, rfl, _, HE.out.1, Nat.le_succ _, fun k hk => Nat.le_of_eq (ownB hk)⟩, HE.out.2⟩
end Go.Proofs.Ytkifmhfgplhabaa.HQ
