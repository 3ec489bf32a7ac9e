/-
  CONTRACTS BY HAND (sign, 23): what a word's numbers are.
-/
import Derived.Test.YtpkcnifchggbnaaDoorSpD
import Derived.Laws.RangeString
import Derived.Laws.RangeAny
namespace Go.Proofs.YtpkcnifchggbnaaDoor.HI
open Go.RowKit Go.Proofs.YtpkcnifchggbnaaDoor.HD Go.Proofs.YtpkcnifchggbnaaDoor.HK Go.Proofs.YtpkcnifchggbnaaDoor.HU Go.Proofs.YtpkcnifchggbnaaDoorW.PrintWords Go.Proofs.YtpkcnifchggbnaaDoorW.PrintLast Go.Proofs.YtpkcnifchggbnaaDoorW.PrintMore
set_option linter.unusedVariables false
set_option linter.unusedSimpArgs false
/-! ### an iterator over a string's runes that other blocks lie beside -/
def itw (W : World) (b : Nat) (s : ByteArray) (p : Nat) : World := { W with heap := W.heap.setIfInBounds b (.stringIter s p) }
section
variable {P : Program}
theorem next_at {W : World} {b pos : Nat} {s : ByteArray} (ty : TypeId) (hb : W.heap[b]? = some (.stringIter s pos)) (h : pos < s.size) :
    (Instr.next (.pointer (some ⟨b, 0, none⟩)) true ty).run P W = .ok (.tuple #[.bool true, .int .i64 pos, .int .i32 (Utf8.decode s pos).1]) (itw W b s (pos + (Utf8.decode s pos).2)) := by
  have hlt : b < W.heap.size := (Array.getElem?_eq_some_iff.1 hb).1
  simp only [Instr.next, getObj, setObj, Sem.run_bind, Sem.run, hb, Result.andThen, h, if_true]
  simp [goInt, itw, hlt]
theorem next_end {W : World} {b pos : Nat} {s : ByteArray} (ty : TypeId) (hb : W.heap[b]? = some (.stringIter s pos)) (h : ¬ pos < s.size) :
    (Instr.next (.pointer (some ⟨b, 0, none⟩)) true ty).run P W = .ok (.tuple #[.bool false]) W := by
  simp [Instr.next, getObj, Sem.run, hb, h]
end
theorem itw_at {W : World} {b p q : Nat} {s : ByteArray} (hb : W.heap[b]? = some (.stringIter s q)) : (itw W b s p).heap[b]? = some (.stringIter s p) := by
  have hlt : b < W.heap.size := (Array.getElem?_eq_some_iff.1 hb).1
  simp [itw, hlt]
theorem itw_far (W : World) {b p k : Nat} (s : ByteArray) (hk : k ≠ b) : (itw W b s p).heap[k]? = W.heap[k]? := by
  simp [itw, Array.getElem?_setIfInBounds, Ne.symm hk]
theorem itw_size (W : World) (b p : Nat) (s : ByteArray) : (itw W b s p).heap.size = W.heap.size := by simp [itw]
theorem itw_below {B : Nat} {w W : World} (h : Below B w W) {b p : Nat} (hb : B ≤ b) (s : ByteArray) : Below B w (itw W b s p) :=
  ⟨h.os, h.tape, h.output, by rw [itw_size]; exact h.size, fun k hk => (itw_far W s (by omega)).trans (h.block k hk)⟩
theorem itw_keep (W : World) (b p : Nat) (s : ByteArray) : KeepBut W (itw W b s p) b none := ⟨by rw [itw_size]; exact Nat.le_refl _, fun i _ hg _ => itw_far W s hg⟩
/-! ### what numbers reads -/
def farI : Int := 1099511627776
def nst (c : Nat) (st : List Int × Int) : List Int × Int :=
  if c = 46 then (st.1 ++ [0], 1) else if c = 45 then (st.1, -1)
  else if 48 ≤ c ∧ c ≤ 57 ∧ st.1.getD (st.1.length - 1) 0 < 1099511627776 ∧ -1099511627776 < st.1.getD (st.1.length - 1) 0 then (st.1.set (st.1.length - 1) (10 * st.1.getD (st.1.length - 1) 0 + st.2 * ((c : Int) - 48)), st.2)
  else st
def nfold (s : ByteArray) : Nat → Nat → List Int × Int → List Int × Int
  | 0, _, st => st
  | b + 1, pos, st => if pos < s.size then nfold s b (pos + (Utf8.decode s pos).2) (nst (Utf8.decode s pos).1 st) else st
def numL (s : ByteArray) : List Int := (nfold s s.size 0 ([0], 1)).1
theorem nfold_end (s : ByteArray) (b pos : Nat) (st : List Int × Int) (h : ¬ pos < s.size) : nfold s b pos st = st := by
  cases b with
  | zero => rfl
  | succ b => simp [nfold, h]
structure NOk (st : List Int × Int) (pos : Nat) : Prop where
  pos' : 0 < st.1.length
  len : st.1.length ≤ pos + 1
  sg : st.2 = 1 ∨ st.2 = -1
  rng : ∀ x ∈ st.1, -10995116277769 ≤ x ∧ x ≤ 10995116277769
theorem NOk.step {st : List Int × Int} {pos c k : Nat} (h : NOk st pos) (hk : 1 ≤ k) : NOk (nst c st) (pos + k) := by
  obtain ⟨h1, h2, h3, h4⟩ := h
  unfold nst
  split
  · exact ⟨by simp, by simp; omega, .inl rfl, fun x hx => by
      rcases List.mem_append.1 hx with hx | hx
      · exact h4 x hx
      · rw [List.mem_singleton.1 hx]; omega⟩
  · split
    · exact ⟨h1, by simp only; omega, .inr rfl, h4⟩
    · split
      next hd =>
        refine ⟨by simpa using h1, by simp; omega, h3, fun x hx => ?_⟩
        rcases List.mem_or_eq_of_mem_set hx with hx | rfl
        · exact h4 x hx
        · rcases h3 with h3 | h3 <;> rw [h3] <;> omega
      · exact ⟨h1, by omega, h3, h4⟩
theorem infoI : (Tryd.prog.info? 3).map (fun i => (i.zero, i.size, i.bytes)) = some (some (.int .i64 0), 1, 8) := by kernel_rfl
theorem width_pos (s : ByteArray) (pos : Nat) (h : pos < s.size) : 1 ≤ (Utf8.decode s pos).2 := by
  by_cases ha : (s[pos]'h).toNat < 128
  · rw [decode_ascii s pos h ha]
    exact Nat.le_refl _
  · exact (decode_high s pos h (by omega)).2
set_option maxHeartbeats 4000000 in
set_option maxRecDepth 100000 in
theorem numbers_c (s : ByteArray) (w : World) (hs : s.size ≤ 1000000) :
    Calls Tryd.prog 39 #[.string s] w fun e w' => ∃ v, e = .returned v ∧ Kd.R (Kd.int .i64) 3 w' w.heap.size (fun _ => True) v (numL s) ∧ Below w.heap.size w w' := by
  go_enter Tryd.func39, Tryd.ntmps39
  go_wp2_with fail
  have hI0 : (w.alloc (.cells #[.int .i64 0] 3)).heap.size = w.heap.size + 1 := Array.size_push _
  have h0 : Kd.R (Kd.int .i64) 3 ((w.alloc (.cells #[.int .i64 0] 3)).iter s 0) w.heap.size (fun k => k ≠ w.heap.size + 1) (.slice (some ⟨w.heap.size, 0, none⟩) 1 1) [0] := by
    have hb : ((w.alloc (.cells #[.int .i64 0] 3)).iter s 0).heap[w.heap.size]? = some (.cells #[.int .i64 0] 3 (0, 0)) :=
      ((below_alloc (Below.refl _ _) _).block _ (by omega)).trans (blk_new w (.cells #[.int .i64 0] 3))
    refine Kd.R_of_own ⟨rfl, .inr ⟨w.heap.size, 1, _, rfl, Nat.le_refl _, hb, Nat.le_refl _, by decide, rfl, rfl⟩⟩ (fun k hk => ?_)
    have hk := ownB hk
    omega
  have hit0 : ((w.alloc (.cells #[.int .i64 0] 3)).iter s 0).heap[w.heap.size + 1]? = some (.stringIter s 0) := by
    rw [← hI0]
    exact World.iter_heap _ _ _
  have hb0 : Below w.heap.size w ((w.alloc (.cells #[.int .i64 0] 3)).iter s 0) := below_alloc (below_alloc (Below.refl _ _) _) _
  generalize (w.alloc (.cells #[.int .i64 0] 3)).iter s 0 = w0 at h0 hit0 hb0 ⊢
  have HR0 := Aside0.mk h0
  have HB0 := Aside0.mk hb0
  have HI0 := Aside0.mk hit0
  clear h0 hb0 hit0 hI0
  generalize hbI : w.heap.size + 1 = bI at HR0 HI0 ⊢
  have HBI := Aside0.mk (show w.heap.size ≤ bI by omega)
  clear hbI
  go_loopw [3, 4] (fun v3 v4 wr => ∃ (pos b : Nat) (st : List Int × Int), v4 = .int .i64 st.2 ∧ Aside0 (NOk st pos) ∧ Aside0 (nfold s b pos st = nfold s s.size 0 ([0], 1)) ∧ Aside0 (s.size ≤ pos + b) ∧ Aside0 (Kd.R (Kd.int .i64) 3 wr w.heap.size (fun k => k ≠ bI) v3 st.1) ∧ Aside0 (wr.heap[bI]? = some (.stringIter s pos)) ∧ Aside0 (Below w.heap.size w wr)) (fun _ _ wr => s.size - wr.iterPos bI)
  case atStart => exact ⟨0, s.size, ([0], 1), rfl, ⟨⟨by decide, by decide, .inl rfl, by simp⟩⟩, ⟨rfl⟩, ⟨by omega⟩, HR0, HI0, HB0⟩
  case round =>
    obtain ⟨pos, b, st, rfl, HN, HF, HP, HR, HI, HB⟩ := hrel
    obtain ⟨w1, rfl⟩ : ∃ w1 : World, w1 = wr := ⟨_, rfl⟩
    by_cases hp : pos < s.size
    · have hwd := width_pos s pos hp
      obtain ⟨b, rfl⟩ : ∃ b', b = b' + 1 := ⟨b - 1, by have := HP.out; omega⟩
      have hF := HF.out
      rw [nfold, if_pos hp] at hF
      have hdl := decode_le s pos
      have hnx : ∀ ty, (Instr.next (.pointer (some ⟨bI, 0, none⟩)) true ty).run Tryd.prog w1 = _ := fun ty => next_at ty HI.out hp
      generalize (Utf8.decode s pos).2 = kk at hwd hF hnx
      generalize (Utf8.decode s pos).1 = c at hF hdl hnx
      have HF2 := Aside0.mk hF
      have HN2 := Aside0.mk (HN.out.step (c := c) hwd)
      have HI2 := Aside0.mk (itw_at (p := pos + kk) HI.out)
      have HB2 := Aside0.mk (itw_below HB.out (p := pos + kk) HBI.out s)
      have HR2 := Aside0.mk (Kd.R_keep HR.out (itw_keep w1 bI (pos + kk) s) (fun _ h => h))
      have HM : Aside0 (s.size - (pos + kk) < s.size - w1.iterPos bI) := ⟨by simp only [World.iterPos, HI.out]; omega⟩
      have HP2 : Aside0 (s.size ≤ pos + kk + b) := ⟨by have := HP.out; omega⟩
      generalize itw w1 bI s (pos + kk) = w2 at HI2 HB2 HR2 hnx
      have HLN := Aside0.mk (show st.1.length ≤ 1000000 by have := HN.out.len; omega)
      obtain ⟨g, cap, hv, hgb, hgl, cells, hgc⟩ := Kd.R_form HR2.out HN.out.pos'
      subst hv
      have HGN := Aside0.mk (HR2.out.1 g rfl)
      have HGB := Aside0.mk hgb
      have hn0 : 0 < st.1.length := HN.out.pos'
      have hn1 : st.1.length ≤ 1000000 := HLN.out
      obtain ⟨hcell, hfrz⟩ := Kd.R_cell 0 HR2.out ((st.1.length : Int) - 1) (by omega) (by omega)
      rw [show ((st.1.length : Int) - 1).toNat = st.1.length - 1 by omega] at hcell hfrz
      have hrd : rdOf 0 st.1 ((st.1.length : Int) - 1) = st.1.getD (st.1.length - 1) 0 := by
        simp [rdOf, List.getD_eq_getElem?_getD, show ((st.1.length : Int) - 1).toNat = st.1.length - 1 by omega]
      rw [hrd] at hcell
      have hxr := HN.out.rng (st.1.getD (st.1.length - 1) 0) (by
        rw [List.getD_eq_getElem?_getD, List.getElem?_eq_getElem (by omega)]
        exact List.getElem_mem _)
      have HSG := Aside0.mk HN.out.sg
      have HME : Aside0 (s.size - w2.iterPos bI < s.size - w1.iterPos bI) := ⟨by have := HM.out; simp only [World.iterPos, HI2.out] at this ⊢; omega⟩
      clear hF HF HN HI HB HR HP hgc hgb hgl hrd HM
      have hw1 : IntKind.i64.wrap ((st.1.length : Int) - 1) = (st.1.length : Int) - 1 := i64w (by omega) (by omega)
      have hl0 : (0 : Int) ≤ (st.1.length : Int) - 1 := by omega
      have hl1 : (st.1.length : Int) - 1 < (st.1.length : Int) := by omega
      by_cases c46 : c = 46
      · subst c46
        go_upto_region 8 with fail
        generalize (some ⟨g, 0, none⟩ : Option Addr) = Ag at HR2 ⊢
        go_wp2_with (at_builtin; refine Kd.R_append (Kd.int .i64) (w0 := w) w.heap.size rfl (.tmp 22) (.tmp 23) 59 3 (.int .i64 0) 8 rfl Tryd.underlying59 infoI rfl (by decide) (by omega) (.slice Ag st.1.length cap) st.1 0 [.int .i64 0] (fun k => k ≠ bI) (fun _ => False) rfl rfl rfl (fun _ h => h.elim) (fun k hk hkb => by have := blk_lt HI2.out; have hkb : k = bI := hkb; have hk : w2.heap.size ≤ k := hk; omega) HR2.out HB2.out HB2.out.size (by have := HLN.out; omega) ?_; intro v1 w6 ho hbl hgr hat)
        have hi := (hgr.block bI (blk_lt HI2.out) (fun h => HR2.out.1 bI h.symm rfl)).trans HI2.out
        have HMF : s.size - w6.iterPos bI < s.size - w1.iterPos bI := by have := HME.out; simp only [World.iterPos, HI2.out, hi] at this ⊢; omega
        exact ⟨⟨pos + kk, b, nst 46 st, rfl, HN2, HF2, HP2, ⟨ho⟩, ⟨hi⟩, ⟨hbl⟩⟩, HMF⟩
      · have e46 : ((c : Int) = 46) = False := eq_false (by omega)
        by_cases c45 : c = 45
        · subst c45
          go_wp2_with fail
          exact ⟨⟨pos + kk, b, nst 45 st, rfl, HN2, HF2, HP2, HR2, HI2, HB2⟩, HME.out⟩
        · have e45 : ((c : Int) = 45) = False := eq_false (by omega)
          by_cases hd : 48 ≤ c ∧ c ≤ 57 ∧ st.1.getD (st.1.length - 1) 0 < 1099511627776 ∧ -1099511627776 < st.1.getD (st.1.length - 1) 0
          · obtain ⟨d1, d2, d3, d4⟩ := hd
            have HNS : Aside0 (nst c st = (st.1.set (st.1.length - 1) (10 * st.1.getD (st.1.length - 1) 0 + st.2 * ((c : Int) - 48)), st.2)) := ⟨by unfold nst; rw [if_neg c46, if_neg c45, if_pos ⟨d1, d2, d3, d4⟩]⟩
            have HPT := Aside0.mk (Kd.R_put HR2.out ((st.1.length : Int) - 1) (10 * st.1.getD (st.1.length - 1) 0 + st.2 * ((c : Int) - 48)))
            generalize st.1.getD (st.1.length - 1) 0 = x at *
            have f1 : (48 : Int) ≤ c := by omega
            have f2 : (c : Int) ≤ 57 := by omega
            have g1 : IntKind.i32.wrap ((c : Int) - 48) = (c : Int) - 48 := IntWalk.i32_in _ (by omega)
            have g2 : IntKind.i64.wrap ((c : Int) - 48) = (c : Int) - 48 := i64w (by omega) (by omega)
            have g3 : IntKind.i64.wrap (10 * x) = 10 * x := i64w (by omega) (by omega)
            have g4 : IntKind.i64.wrap (st.2 * ((c : Int) - 48)) = st.2 * ((c : Int) - 48) := by
              rcases HSG.out with h | h <;> rw [h] <;> exact i64w (by omega) (by omega)
            have g5 : IntKind.i64.wrap (10 * x + st.2 * ((c : Int) - 48)) = 10 * x + st.2 * ((c : Int) - 48) := by
              rcases HSG.out with h | h <;> rw [h] <;> exact i64w (by omega) (by omega)
            go_wp2_with fail
            rw [show ((st.1.length : Int) - 1).toNat = st.1.length - 1 by omega] at HPT
            rw [HNS.out] at HF2 HN2
            have hi : (w2.setCell ⟨g, st.1.length - 1, none⟩ (.int .i64 (10 * x + st.2 * ((c : Int) - 48)))).heap[bI]? = some (.stringIter s (pos + kk)) := (Below.heap_setCell w2 _ _ bI (Ne.symm HGN.out)).trans HI2.out
            refine ⟨⟨pos + kk, b, (st.1.set (st.1.length - 1) (10 * x + st.2 * ((c : Int) - 48)), st.2), rfl, HN2, HF2, HP2, ⟨HPT.out.1⟩, ⟨hi⟩, ⟨below_set HB2.out HGB.out⟩⟩, ?_⟩
            have := HME.out
            simp only [World.iterPos, HI2.out, hi] at this ⊢
            omega
          · have hst : nst c st = st := by unfold nst; rw [if_neg c46, if_neg c45, if_neg hd]
            rw [hst] at HF2 HN2
            clear hst
            have HD := Aside0.mk hd
            clear hd
            by_cases d1 : 48 ≤ c
            · have f1 : (48 : Int) ≤ c := by omega
              by_cases d2 : c ≤ 57
              · have f2 : (c : Int) ≤ 57 := by omega
                by_cases d3 : st.1.getD (st.1.length - 1) 0 < 1099511627776
                · have d4 : ¬ -1099511627776 < st.1.getD (st.1.length - 1) 0 := fun d4 => HD.out ⟨d1, d2, d3, d4⟩
                  generalize st.1.getD (st.1.length - 1) 0 = x at hcell d3 d4 hxr
                  go_wp2_with fail
                  exact ⟨⟨pos + kk, b, st, rfl, HN2, HF2, HP2, HR2, HI2, HB2⟩, HME.out⟩
                · generalize st.1.getD (st.1.length - 1) 0 = x at hcell d3 hxr
                  go_wp2_with fail
                  exact ⟨⟨pos + kk, b, st, rfl, HN2, HF2, HP2, HR2, HI2, HB2⟩, HME.out⟩
              · have f2 : ¬ (c : Int) ≤ 57 := by omega
                go_wp2_with fail
                exact ⟨⟨pos + kk, b, st, rfl, HN2, HF2, HP2, HR2, HI2, HB2⟩, HME.out⟩
            · have f1 : ¬ (48 : Int) ≤ c := by omega
              go_wp2_with fail
              exact ⟨⟨pos + kk, b, st, rfl, HN2, HF2, HP2, HR2, HI2, HB2⟩, HME.out⟩
    · have hnx : ∀ ty, (Instr.next (.pointer (some ⟨bI, 0, none⟩)) true ty).run Tryd.prog w1 = _ := fun ty => next_end ty HI.out hp
      go_wp2
      go_ret
      have hF := HF.out
      rw [nfold_end s b pos st hp] at hF
      subst hF
      exact ⟨_, rfl, Kd.R_mono HR.out (fun _ _ => trivial), HB.out⟩
end Go.Proofs.YtpkcnifchggbnaaDoor.HI
