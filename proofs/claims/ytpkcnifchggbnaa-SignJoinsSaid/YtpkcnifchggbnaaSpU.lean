/-
  CONTRACTS BY HAND (sign, 41): slices.Grow of nothing; slices.Concat of two rows of choices.
-/
import Derived.Test.YtpkcnifchggbnaaSpC
namespace Go.Proofs.Ytpkcnifchggbnaa.HI
open Go.RowKit Go.Proofs.Ytpkcnifchggbnaa.HD Go.Proofs.Ytpkcnifchggbnaa.HK Go.Proofs.Ytpkcnifchggbnaa.HU Go.Proofs.YtpkcnifchggbnaaW.PrintWords Go.Proofs.YtpkcnifchggbnaaW.PrintLast Go.Proofs.YtpkcnifchggbnaaW.PrintMore
set_option linter.unusedVariables false
set_option linter.unusedSimpArgs false
set_option maxHeartbeats 4000000 in
set_option maxRecDepth 100000 in
theorem grow_c (n : Nat) (w : World) (hn : n ≤ 1000) :
    Calls Try.prog 44 #[.slice none 0 0, .int .i64 (n : Int)] w fun e w' => ∃ v, e = .returned v ∧ Kd.R k24 24 w' w.heap.size (fun _ => True) v [] ∧ Below w.heap.size w w' := by
  rcases Nat.eq_zero_or_pos n with rfl | hp
  · go_enter Try.func44, Try.ntmps44
    go_wp2
    go_ret
    exact ⟨_, rfl, Kd.R_nil _ _ _ _ _, Below.refl _ _⟩
  · obtain ⟨i0, hi0, hz0, hz1, hz2⟩ := info_parts infoCh
    obtain ⟨G, hG⟩ : ∃ G, G = grownCap w n 0 24 := ⟨_, rfl⟩
    obtain ⟨Z, hZ⟩ : ∃ Z, Z = (Builtin.zeroCells (Value.agg #[.int .i64 0, .int .i64 0, .int .i64 0, .int .i64 0, .int .i64 0]).cells n ++ Builtin.zeroCells (Value.agg #[.int .i64 0, .int .i64 0, .int .i64 0, .int .i64 0, .int .i64 0]).cells (G - n)).toList := ⟨_, rfl⟩
    have hGn : n ≤ G := by rw [hG]; exact grownCap_ge w _ _ _
    have hGm : G ≤ maxLen := by rw [hG]; exact grownCap_le_maxLen w _ _ _ (by simp only [maxLen]; omega)
    have hZl : Z.length = G * 5 := by
      rw [hZ, Array.toList_append, List.length_append, zero_len, zero_len]
      omega
    have hrz : ∀ ty, (Builtin.append_ #[22, 3] ty #[.slice none 0 0, .int .i64 (n : Int)]).run Try.prog w =
        .ok (.slice (some ⟨w.heap.size, 0, none⟩) n G) (w.drew.alloc (.cells Z.toArray 24)) := fun ty => by
      have h := Lib.run_append_nil_zeros w 22 3 ty 24 i0 _ .i64 .i64 Try.underlying22 Try.underlying3 hi0 hz0 n hp (by rw [hz1]; decide) (by omega) (by rw [hz2]; omega)
      rw [← hG] at h
      rw [h]
      congr 3
      rw [hZ]
    have HB := Aside0.mk (show Kd.R k24 24 (w.drew.alloc (.cells Z.toArray 24)) w.heap.size (fun _ => True) (.slice (some ⟨w.heap.size, 0, none⟩) 0 G) [] from
      R_of_block (xs := []) (sp := Z) (blk_new w.drew (.cells Z.toArray 24)) (Nat.le_refl _) trivial hGm (by simp [hZl]))
    clear hZ hG hZl hi0 hz0 hz1 hz2 hGm
    have hw1 : IntKind.i64.wrap (n : Int) = (n : Int) := i64w (by omega) (by omega)
    go_enter Try.func44, Try.ntmps44
    go_wp2_with (at_builtin; refine Lib.wpList_append_run _ rfl _ _ _ _ rfl _ _ rfl rfl _ _ (hrz _) ?_)
    go_ret
    exact ⟨_, rfl, HB.out, below_alloc (below_drew (Below.refl _ _)) _⟩
set_option maxHeartbeats 4000000 in
set_option maxRecDepth 100000 in
theorem concat_c (g : Nat) (A0 : Option Addr) (c0 : Nat) (a : List Cho) (A1 : Option Addr) (c1 : Nat) (b : List Cho) (w : World) (hg : w.heap[g]? = some (.cells #[.slice A0 a.length c0, .slice A1 b.length c1] 22 (0, 0))) (h0 : Kd.C k24 w A0 a.length a) (h1 : Kd.C k24 w A1 b.length b) (hl0 : a.length ≤ 500) (hl1 : b.length ≤ 500) :
    Calls Try.prog 34 #[.slice (some ⟨g, 0, none⟩) 2 2] w fun e w' => ∃ v, e = .returned v ∧ Kd.R k24 24 w' w.heap.size (fun _ => True) v (a ++ b) ∧ Below w.heap.size w w' := by
  have HG := Aside0.mk hg
  have HA := Aside0.mk h0
  have HB := Aside0.mk h1
  have p0 := (blk_cell hg 0).trans (show _ = some (Value.slice A0 a.length c0) from rfl)
  have p1 := (blk_cell hg 1).trans (show _ = some (Value.slice A1 b.length c1) from rfl)
  have hsum : IntKind.i64.wrap ((a.length : Int) + (b.length : Int)) = (a.length : Int) + (b.length : Int) := i64w (by omega) (by omega)
  have hs0 : (0 : Int) ≤ (a.length : Int) + (b.length : Int) := by omega
  have hs1 : (a.length : Int) + (b.length : Int) = ((a.length + b.length : Nat) : Int) := by omega
  have HS1 := Aside0.mk hs1
  clear hg h0 h1 hs1
  go_enter Try.func34, Try.ntmps34
  go_wp2
  go_loopw [3, 11] (fun v3 v11 wr => wr = w ∧ ((v11 = .int .i64 0 ∧ v3 = .int .i64 0) ∨ (v11 = .int .i64 1 ∧ v3 = .int .i64 (a.length : Int)) ∨ (v11 = .int .i64 2 ∧ v3 = .int .i64 ((a.length : Int) + (b.length : Int))))) (fun _ v11 _ => 2 - (intOf v11).toNat)
  case atStart => exact ⟨rfl, .inl ⟨rfl, rfl⟩⟩
  case round =>
    obtain ⟨hww, hrel⟩ := hrel
    obtain ⟨W, rfl⟩ : ∃ W : World, W = wr := ⟨_, rfl⟩
    subst hww
    obtain ⟨rfl, rfl⟩ | ⟨rfl, rfl⟩ | ⟨rfl, rfl⟩ := hrel
    · go_wp2
      go_roundw
      case rel => exact ⟨by first | rfl | trivial, .inr (.inl ⟨rfl, rfl⟩)⟩
      case measure => simp [intOf]
    · go_wp2
      go_roundw
      case rel => exact ⟨by first | rfl | trivial, .inr (.inr ⟨rfl, rfl⟩)⟩
      case measure => simp [intOf]
    · rw [HS1.out]
      have HGC := Aside0.mk (grow_c (a.length + b.length) W (by omega))
      go_wp2_with fail
      refine HGC.out.mono ?_
      rintro e w1 ⟨v, rfl, hR, hb⟩
      have HR1 := Aside0.mk hR
      have HB1 := Aside0.mk hb
      clear hR hb HGC hsum hs0
      go_wp2
      go_loopw [6, 27] (fun v6 v27 wq => Aside0 (Below W.heap.size W wq) ∧ ((v27 = .int .i64 0 ∧ Aside0 (Kd.R k24 24 wq W.heap.size (fun _ => True) v6 [])) ∨ (v27 = .int .i64 1 ∧ Aside0 (Kd.R k24 24 wq W.heap.size (fun _ => True) v6 a)) ∨ (v27 = .int .i64 2 ∧ Aside0 (Kd.R k24 24 wq W.heap.size (fun _ => True) v6 (a ++ b))))) (fun _ v27 _ => 2 - (intOf v27).toNat)
      case atStart => exact ⟨HB1, .inl ⟨rfl, HR1⟩⟩
      case round =>
        obtain ⟨HB2, ⟨rfl, HR2⟩ | ⟨rfl, HR2⟩ | ⟨rfl, HR2⟩⟩ := hrel
        · have q0 := (HB2.out.cell (p := ⟨g, 0, none⟩) (World.block_lt_of_cell? _ _ p0)).trans p0
          go_wp2_with (at_builtin; refine Kd.R_append_rows k24 (w0 := W) W.heap.size rfl (.tmp 31) (.tmp 32) 22 24 (.agg #[.int .i64 0, .int .i64 0, .int .i64 0, .int .i64 0, .int .i64 0]) 40 rfl Try.underlying22 infoCh rfl (by decide) (by omega) u6 [] a A0 a.length c0 (fun _ => True) (fun _ => False) rfl rfl HR2.out (Kd.C_below HA.out HB2.out) (fun x cs h => by obtain rfl := k24_open h; exact k24_mkM _ _ _ x) (fun _ h => h.elim) (fun _ _ => trivial) HB2.out HB2.out.size (by first | omega | (simp; omega)) ?_; intro v3 w3 ho hbl hgr hat; have HO := Aside0.mk ho; have HBO := Aside0.mk hbl; clear ho hbl hgr hat)
          go_roundw
          case rel => exact ⟨HBO, .inr (.inl ⟨rfl, ⟨by simpa using HO.out⟩⟩)⟩
          case measure => simp [intOf]
        · have q1 := (HB2.out.cell (p := ⟨g, 1, none⟩) (World.block_lt_of_cell? _ _ p1)).trans p1
          go_wp2_with (at_builtin; refine Kd.R_append_rows k24 (w0 := W) W.heap.size rfl (.tmp 31) (.tmp 32) 22 24 (.agg #[.int .i64 0, .int .i64 0, .int .i64 0, .int .i64 0, .int .i64 0]) 40 rfl Try.underlying22 infoCh rfl (by decide) (by omega) u6 a b A1 b.length c1 (fun _ => True) (fun _ => False) rfl rfl HR2.out (Kd.C_below HB.out HB2.out) (fun x cs h => by obtain rfl := k24_open h; exact k24_mkM _ _ _ x) (fun _ h => h.elim) (fun _ _ => trivial) HB2.out HB2.out.size (by first | omega | (simp; omega)) ?_; intro v3 w3 ho hbl hgr hat; have HO := Aside0.mk ho; have HBO := Aside0.mk hbl; clear ho hbl hgr hat)
          go_roundw
          case rel => exact ⟨HBO, .inr (.inr ⟨rfl, HO⟩)⟩
          case measure => simp [intOf]
        · go_wp2
          go_ret
          exact ⟨_, rfl, HR2.out, HB2.out⟩
end Go.Proofs.Ytpkcnifchggbnaa.HI
