/-
  CONTRACTS BY HAND (splits, 4): a dup.
-/
import Derived.Test.YtkifmhfgplhabaaDoorGdA
namespace Go.Proofs.YtkifmhfgplhabaaDoor.HQ
open Go.Proofs.YtkifmhfgplhabaaDoor.HU Go.RowKit Go.Proofs.YtkifmhfgplhabaaDoor.HK Go.Proofs.YtkifmhfgplhabaaDoor.HP Go.Proofs.YtkifmhfgplhabaaDoorW.PrintWords Go.Proofs.YtkifmhfgplhabaaDoorW.PrintLast Go.Proofs.YtkifmhfgplhabaaDoorW.PrintMore
set_option linter.unusedVariables false
set_option linter.unusedSimpArgs false
theorem cell_other2 {W : World} {b b' i : Nat} {v x y : Value} (h : W.cell? ⟨b, i, none⟩ = some v) (hne : b ≠ b') : ((W.setCell ⟨b', 0, none⟩ x).setCell ⟨b', 1, none⟩ y).cell? ⟨b, i, none⟩ = some v := by
  have e : ∀ (W' : World) (p : Addr) (u : Value), p.block = b' → (W'.setCell p u).cell? ⟨b, i, none⟩ = W'.cell? ⟨b, i, none⟩ := fun W' p u hp => by
    unfold World.cell?
    rw [Below.heap_setCell W' p u b (by rw [hp]; exact hne)]
  rw [e _ _ _ rfl, e _ _ _ rfl]
  exact h
set_option maxHeartbeats 4000000 in
theorem dup_c (s : ByteArray) (A : Option Addr) (c : Nat) (l : List Int) (k : Int) (w : World) (hr : Kd.C (Kd.int .i64) w A l.length l) (hc : l.length ≤ c) (ht : Tab w) (hs : s.size ≤ 100000) (hm : mayB l = true) (hk0 : 0 ≤ k) (hk : Rng k) (hl : l.length ≤ 1000) :
    Calls Tryd.prog 11 #[.agg #[.string s, .slice A l.length c], .int .i64 k] w fun e w' => ∃ u : Value, e = .returned (.tuple #[.agg #[.string (childB s k), u], .int .i64 0]) ∧ Kd.R (Kd.int .i64) 3 w' w.heap.size (fun _ => True) u l ∧ Below w.heap.size w w' := by
  have b0 := blk_alloc (blk_new w (.cells #[.string s, .slice A l.length c] 24)) (.cells #[.string ⟨#[]⟩, .slice none 0 0] 24)
  have b1 := blk_second w (.cells #[.string s, .slice A l.length c] 24) (.cells #[.string ⟨#[]⟩, .slice none 0 0] 24)
  have hba := below_alloc (below_alloc (Below.refl w.heap.size w) (.cells #[.string s, .slice A l.length c] 24)) (.cells #[.string ⟨#[]⟩, .slice none 0 0] 24)
  have HL1 := Aside0.mk hba
  have HT1 := Aside0.mk (ht.after hba)
  have HR1 := Aside0.mk (Kd.C_below hr hba)
  have dk : decide (k < 0) = false := decide_eq_false (by omega)
  have HMY := Aside0.mk (may_c s A c l _ HR1.out hc)
  rw [hm] at HMY
  have HCL := Aside0.mk hc
  clear hr ht hba hm
  go_enter Tryd.func11, Tryd.ntmps11
  go_wp2_with fail
  generalize (w.alloc (.cells #[.string s, .slice A l.length c] 24)).alloc (.cells #[.string ⟨#[]⟩, .slice none 0 0] 24) = w1 at b0 b1 HL1 HT1 HR1 HMY ⊢
  refine HMY.out.mono ?_
  rintro e w2 ⟨rfl, hb⟩
  have B0 := Aside0.mk (blk_below b0 hb)
  have B1 := Aside0.mk (blk_below b1 hb)
  have p0 : w2.cell? ⟨w.heap.size, 0, none⟩ = some (.string s) := pw_cell_below hb ((blk_cell b0 0).trans rfl)
  have p1 : w2.cell? ⟨w.heap.size, 1, none⟩ = some (.slice A l.length c) := pw_cell_below hb ((blk_cell b0 1).trans rfl)
  have HL2 := Aside0.mk (below_then HL1.out HL1.out.size hb)
  have HT2 := Aside0.mk (HT1.out.after hb)
  have HR2 := Aside0.mk (Kd.C_below HR1.out hb)
  have HCH := Aside0.mk (child_c s (.slice A l.length c) k w2.drew hk HT2.out.drew hs)
  clear b0 b1 hb HMY HL1 HT1 HR1
  go_wp2_with fail
  go_region_held3 (fun W => W.cell? ⟨w.heap.size, 0, none⟩ = some (.string s) ∧ W.cell? ⟨w.heap.size, 1, none⟩ = some (.slice A l.length c))
    (first | exact ⟨q2, q3⟩ | exact ⟨cell_other2 q2 (by omega), cell_other2 q3 (by omega)⟩ | exact ⟨q0, q1⟩ | exact ⟨p0, p1⟩)
    (first
      | (go_at_call 25; with_reducible refine HCH.out.mono ?_; rintro e w3 ⟨rfl, hb⟩; have HB3 := Aside0.mk (below_of_drew hb); have q0 := pw_cell_below HB3.out p0; have q1 := pw_cell_below HB3.out p1; clear hb)
      | (go_at_call 26; with_reducible refine (clone_c A c l w3 (Kd.C_below HR2.out HB3.out) HCL.out (by omega)).mono ?_; rintro e w4 ⟨u, rfl, hR, hb⟩; obtain ⟨An, cn, rfl, hln, _⟩ := Kd.R_reads hR; have HR4 := Aside0.mk hR; have HB4 := Aside0.mk (below_then HB3.out HB3.out.size hb); have q2 := pw_cell_below HB4.out p0; have q3 := pw_cell_below HB4.out p1; have B4 := Aside0.mk (blk_below B1.out HB4.out); have g0 := (blk_cell B4.out 0).trans rfl; have g1 := (blk_cell B4.out 1).trans rfl; have f0 := blk_frozen B4.out 0; have f1 := blk_frozen B4.out 1; clear hb hR))
  all_goals (
    go_wp2
    have C1 := blk_put (cs' := #[.string (childB s k), .slice none 0 0]) B4.out 0 (.string (childB s k)) rfl
    have C2 := blk_put (cs' := #[.string (childB s k), .slice An l.length cn]) C1 1 (.slice An l.length cn) rfl
    have R1 := Kd.R_set HR4.out B4.out E24 0 (.string (childB s k))
    have R2 := Kd.R_set R1 C1 E24 1 (.slice An l.length cn)
    refine bodyPost_ret (results_ct rfl _ _ (w.heap.size + 1) 24 #[.string (childB s k), .slice An l.length cn] (0, 0) _ rfl C2 Tryd.underlying24 rfl (by kernel_rfl)) rfl ?_
    exact ⟨_, rfl, Kd.R_lower R2 (Nat.le_trans HL2.out.size HB3.out.size), ((below_then HL2.out HL2.out.size HB4.out).setCell (p := ⟨w.heap.size + 1, 0, none⟩) (Nat.le_succ _) _).setCell (p := ⟨w.heap.size + 1, 1, none⟩) (Nat.le_succ _) _⟩)
end Go.Proofs.YtkifmhfgplhabaaDoor.HQ
