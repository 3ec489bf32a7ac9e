/-
  CONTRACTS BY HAND (paths, 13): the document's stack: Next: what is answered, what the stack is then; what else was there stays.
-/
import Derived.Test.YtfmlpcdbllpcaaaRfB
namespace Go.Proofs.Ytfmlpcdbllpcaaa.HQ
open Go.Proofs.Ytfmlpcdbllpcaaa.HD Go.Proofs.Ytfmlpcdbllpcaaa.HU Go.RowKit Go.Proofs.Ytfmlpcdbllpcaaa.HK Go.Proofs.Ytfmlpcdbllpcaaa.HP Go.Proofs.YtfmlpcdbllpcaaaW.PrintWords Go.Proofs.YtfmlpcdbllpcaaaW.PrintLast Go.Proofs.YtfmlpcdbllpcaaaW.PrintMore
set_option linter.unusedVariables false
set_option linter.unusedSimpArgs false
theorem map_set_same {α β : Type} (f : α → β) (l : List α) (i : Nat) (x y : α) (h : l[i]? = some x) (e : f y = f x) : (l.set i y).map f = l.map f := by
  rw [List.map_set, e]
  refine List.ext_getElem? (fun j => ?_)
  rw [List.getElem?_set]
  split
  · rename_i hij
    subst hij
    rw [List.getElem?_map, h]
    obtain ⟨hl, _⟩ := List.getElem?_eq_some_iff.1 h
    simp [hl]
  · rfl
section
variable {w : World} {base : Nat} {ok : Nat → Prop} {g ba oa n ca : Nat} {vp vo : Value} {ls : List Lv}
theorem Rf.put (h : Rf w base ok g vp vo (.slice (some ⟨ba, oa, none⟩) n ca) ls) (i : Nat) (x : Lv) (hi : ls[i]? = some x) (m : Nat) (y : Int) :
    Rf ((w.drewN m).setCell ⟨ba, oa + i, none⟩ (.int .i64 y)) base ok g vp vo (.slice (some ⟨ba, oa, none⟩) n ca) (ls.set i { x with f2 := y }) := by
  have h := h.drewN m
  have hil : i < ls.length := (List.getElem?_eq_some_iff.1 hi).1
  obtain ⟨_, _, _, _, _, _, ba', oa', ca', _, _, _, _, hv, _, _, _, _, _, _, _, _, _, hg⟩ := h.lev i x hi
  injection hv with h1 h2 h3
  injection h1 with h1
  injection h1 with h1 h4
  subst h1 h2 h3 h4
  have hty := Kd.Q_typed h.ra ba (by simp [Value.ownBlock])
  obtain ⟨cells, hc⟩ := hty
  have hp := Kd.Q_putg h.ra (i : Int) (by omega) (by omega) y
  rw [Int.toNat_natCast] at hp
  refine ⟨blk_far h.blk (p := ⟨ba, oa + i, none⟩) (fun he => hg he.symm) _, h.hg, ?_, ?_, ?_⟩
  · rw [map_set_same (·.f0) ls i x { x with f2 := y } hi rfl]
    exact Kd.Q_set h.rp hc E34a _ _
  · rw [map_set_same (·.f1) ls i x { x with f2 := y } hi rfl]
    exact Kd.Q_set h.ro hc E4a _ _
  · rw [List.map_set]
    exact hp.1
theorem Rf.take {A A2 A3 : Option Addr} {n2 n3 c c2 c3 : Nat} {t : List Lv} {x : Lv} (h : Rf w base ok g (.slice A n c) (.slice A2 n2 c2) (.slice A3 n3 c3) (t ++ [x])) (m : Nat) :
    Rf ((((w.drewN m).setCell ⟨g, 0, none⟩ (.slice A t.length c)).setCell ⟨g, 1, none⟩ (.slice A2 t.length c2)).setCell ⟨g, 2, none⟩ (.slice A3 t.length c3)) base ok g (.slice A t.length c) (.slice A2 t.length c2) (.slice A3 t.length c3) t := by
  have h := h.drewN m
  have h1 := Kd.Q_take h.rp (m := t.length) (by simp)
  have h2 := Kd.Q_take h.ro (m := t.length) (by simp)
  have h3 := Kd.Q_take h.ra (m := t.length) (by simp)
  have tk : ∀ {β : Type} (f : Lv → β), ((t ++ [x]).map f).take t.length = t.map f := fun f => by rw [List.map_append, List.take_left' (by simp)]
  rw [tk] at h1 h2 h3
  have b0 := blk_put (cs' := #[.slice A t.length c, .slice A2 n2 c2, .slice A3 n3 c3]) h.blk 0 (.slice A t.length c) rfl
  have b1 := blk_put (cs' := #[.slice A t.length c, .slice A2 t.length c2, .slice A3 n3 c3]) b0 1 (.slice A2 t.length c2) rfl
  have b2 := blk_put (cs' := #[.slice A t.length c, .slice A2 t.length c2, .slice A3 t.length c3]) b1 2 (.slice A3 t.length c3) rfl
  exact ⟨b2, h.hg, Kd.Q_set (Kd.Q_set (Kd.Q_set h1 h.blk E34r 0 _) b0 E34r 1 _) b1 E34r 2 _, Kd.Q_set (Kd.Q_set (Kd.Q_set h2 h.blk E4r 0 _) b0 E4r 1 _) b1 E4r 2 _, Kd.Q_set (Kd.Q_set (Kd.Q_set h3 h.blk E3r 0 _) b0 E3r 1 _) b1 E3r 2 _⟩
end
/-- the blocks that the document's stack writes -/
def WrR (g : Nat) (vp vo va : Value) (k : Nat) : Prop := k = g ∨ some k = vp.ownBlock ∨ some k = vo.ownBlock ∨ some k = va.ownBlock
set_option maxHeartbeats 4000000 in
theorem rnext_ok (base : Nat) (ok : Nat → Prop) (g : Nat) (vp vo va : Value) (ls : List Lv) (w : World) (h : Rf w base ok g vp vo va ls) (hf : ∀ x ∈ ls, Fit x) :
    Calls Try.prog 10 #[.pointer (some ⟨g, 0, none⟩)] w fun e w' => e = .returned (.bool (decide (0 < (nextF ls).length))) ∧
      (∃ vp' vo' va', Rf w' base ok g vp' vo' va' (nextF ls) ∧ vp'.ownBlock = vp.ownBlock ∧ vo'.ownBlock = vo.ownBlock ∧ va'.ownBlock = va.ownBlock) ∧ Kept w w' (WrR g vp vo va) ∧ Below base w w' := by
  have HS := Aside0.mk h
  have HF := Aside0.mk hf
  clear h hf
  go_enter Try.func10, Try.ntmps10
  go_wp2_with fail
  go_loopg [3] ls.length (fun k _ wr => ∃ (vp' vo' va' : Value) (t : List Lv), Aside0 (t.length = k) ∧ Aside0 (Rf wr base ok g vp' vo' va' t) ∧ Aside0 (nextF t = nextF ls) ∧ Aside0 (∀ x ∈ t, Fit x) ∧ Aside0 (vp'.ownBlock = vp.ownBlock ∧ vo'.ownBlock = vo.ownBlock ∧ va'.ownBlock = va.ownBlock) ∧ Aside0 (Kept w wr (WrR g vp vo va)) ∧ Aside0 (Below base w wr))
  case atStart => exact ⟨vp, vo, va, ls, ⟨rfl⟩, HS, ⟨rfl⟩, HF, ⟨rfl, rfl, rfl⟩, ⟨Kept.refl _ _⟩, ⟨Below.refl _ _⟩⟩
  case round =>
    obtain ⟨vp', vo', va', t, HK1, HS1, HN, HF1, HO, HK, HB⟩ := hrel
    clear HS HF
    obtain ⟨A0, c0, A1, c1, A2, c2, rfl, rfl, rfl, hl0, hl1, hl2⟩ := HS1.out.forms
    have hg0 : wr.cell? ⟨g, 0, none⟩ = some (.slice A0 t.length c0) := (blk_cell HS1.out.blk 0).trans rfl
    rcases snoc_cases t with rfl | ⟨t, x, rfl⟩
    · go_wp2
      go_ret
      have hn := HN.out
      rw [nextF_nil] at hn
      exact ⟨ret_bool (by rw [← hn]; rfl), ⟨_, _, _, hn ▸ HS1.out, HO.out⟩, HK.out, HB.out⟩
    · have HFx := Aside0.mk (HF1.out x (by simp))
      obtain ⟨q0, q1, q2, q3, q4⟩ := many_of HFx.out
      have HNX := Aside0.mk (nextF_snoc t x)
      have hm := HS1.out.max
      have hl : (t ++ [x]).length = t.length + 1 := by simp
      obtain ⟨bp, op, cp, bo, oo, co, ba, oa, ca, A, c, e0, e1, e2, p0, p1, p2, b0, a0, f0, hlc, hC, hbb, hbg⟩ := HS1.out.lev t.length x (by simp)
      injection e0 with e0 _ e3
      injection e1 with e1 _ e4
      injection e2 with e2 _ e5
      subst e0 e3 e1 e4 e2 e5
      rw [hl] at hg0 hl0 hl1 hl2 hm
      have hg1 : wr.cell? ⟨g, 1, none⟩ = some (.slice (some ⟨bo, oo, none⟩) (t.length + 1) c1) := by rw [← hl]; exact (blk_cell HS1.out.blk 1).trans rfl
      have hg2 : wr.cell? ⟨g, 2, none⟩ = some (.slice (some ⟨ba, oa, none⟩) (t.length + 1) c2) := by rw [← hl]; exact (blk_cell HS1.out.blk 2).trans rfl
      have HBB := Aside0.mk hbb
      have HBG := Aside0.mk hbg
      have HL := Aside0.mk hl
      clear hC p0 p1 p2 b0 hbb hbg hl hlc
      have hl8 := Int.toNat_natCast t.length
      have y0 : (0 : Int) ≤ (t.length : Int) := by omega
      have y1 : (t.length : Int) < (t.length : Int) + 1 := by omega
      have y2 : (t.length : Int) + 1 ≤ (c0 : Int) := by omega
      have y3 : (t.length : Int) + 1 ≤ (c1 : Int) := by omega
      have y4 : (t.length : Int) + 1 ≤ (c2 : Int) := by omega
      by_cases hlt : x.f2 + 1 < manyI x
      · have hd : decide (x.f2 + 1 < manyI x) = true := by simpa using hlt
        rw [if_pos hlt] at HNX
        clear hlt
        have hw : IntKind.i64.wrap (x.f2 + 1) = x.f2 + 1 := i64w (by omega) (by omega)
        go_wp2_with fail
        go_region_held3 (fun W => W.cell? ⟨g, 2, none⟩ = some (.slice (some ⟨ba, oa, none⟩) (t.length + 1) c2) ∧ W.cell? ⟨ba, oa + t.length, none⟩ = some (.int .i64 x.f2))
          (go_keep)
          (first | (go_at_call 23; refine (rmany_ok base ok g _ _ _ (t ++ [x]) t.length x _ HS1.out.drew (by simp) q4).mono ?_; rintro e w' ⟨rfl, rfl⟩))
        go_wp2
        go_ret
        rw [HN.out] at HNX
        have hp := HS1.out.put t.length x (by simp) 1 (x.f2 + 1)
        rw [show (t ++ [x]).set t.length { x with f2 := x.f2 + 1 } = t ++ [up x] by simp [up], ← HNX.out] at hp
        have hk := (HK.out.drewN 1).setCell (p := ⟨ba, oa + t.length, none⟩) (.inl (.inr (.inr (.inr (by rw [← HO.out.2.2]; rfl))))) (.int .i64 (x.f2 + 1))
        have hb := (pw_below_drewN HB.out 1).setCell (p := ⟨ba, oa + t.length, none⟩) HBB.out (.int .i64 (x.f2 + 1))
        exact ⟨ret_bool (by rw [HNX.out]; simp), ⟨_, _, _, hp, HO.out⟩, hk, hb⟩
      · have hd : decide (x.f2 + 1 < manyI x) = false := by simpa using hlt
        rw [if_neg hlt] at HNX
        clear hlt
        have hw : IntKind.i64.wrap (x.f2 + 1) = x.f2 + 1 := i64w (by omega) (by omega)
        go_wp2_with fail
        go_region_held3 (fun W => W.cell? ⟨g, 2, none⟩ = some (.slice (some ⟨ba, oa, none⟩) (t.length + 1) c2) ∧ W.cell? ⟨ba, oa + t.length, none⟩ = some (.int .i64 x.f2))
          (go_keep)
          (first | (go_at_call 23; refine (rmany_ok base ok g _ _ _ (t ++ [x]) t.length x _ HS1.out.drew (by simp) q4).mono ?_; rintro e w' ⟨rfl, rfl⟩))
        go_wp2_with fail
        have g0f := blk_frozen HS1.out.blk 0
        have g1f := blk_frozen HS1.out.blk 1
        have g2f := blk_frozen HS1.out.blk 2
        go_region
        go_wp2_with fail
        go_roundg t.length
        case measure => have := HK1.out; simp at this; omega
        case rel =>
          have hp := HS1.out.take 2
          have hk := (((HK.out.drewN 2).setCell (p := ⟨g, 0, none⟩) (.inl (.inl rfl)) (.slice (some ⟨bp, op, none⟩) t.length c0)).setCell (p := ⟨g, 1, none⟩) (.inl (.inl rfl)) (.slice (some ⟨bo, oo, none⟩) t.length c1)).setCell (p := ⟨g, 2, none⟩) (.inl (.inl rfl)) (.slice (some ⟨ba, oa, none⟩) t.length c2)
          have hg := HS1.out.hg
          have hb := (((pw_below_drewN HB.out 2).setCell (p := ⟨g, 0, none⟩) hg (.slice (some ⟨bp, op, none⟩) t.length c0)).setCell (p := ⟨g, 1, none⟩) hg (.slice (some ⟨bo, oo, none⟩) t.length c1)).setCell (p := ⟨g, 2, none⟩) hg (.slice (some ⟨ba, oa, none⟩) t.length c2)
          exact ⟨_, _, _, t, ⟨rfl⟩, ⟨hp⟩, ⟨by rw [← HN.out, HNX.out]⟩, ⟨fun y hy => HF1.out y (by simp [hy])⟩, ⟨HO.out⟩, ⟨hk⟩, ⟨hb⟩⟩
end Go.Proofs.Ytfmlpcdbllpcaaa.HQ
