/-
  CONTRACTS BY HAND (orders, 3): an event is added.
-/
import Derived.Test.YtnblmjkaieibhaaOdB
namespace Go.Proofs.Ytnblmjkaieibhaa.HO
open Go.Proofs.Ytnblmjkaieibhaa.HU Go.RowKit Go.Proofs.Ytnblmjkaieibhaa.HK Go.Proofs.Ytnblmjkaieibhaa.HP Go.Proofs.YtnblmjkaieibhaaW.PrintWords Go.Proofs.YtnblmjkaieibhaaW.PrintLast Go.Proofs.YtnblmjkaieibhaaW.PrintMore
set_option linter.unusedVariables false
set_option linter.unusedSimpArgs false
attribute [local go_sem] max2_int min2_int max_two min_two max_three min_three max_four min_four
/-- what an event leaves -/
def AddPost (base g : Nat) (vl : Value) (st : Option (List Int × List Kn)) (e : Ending) (W' : World) : Prop :=
  e = .returned (.bool st.isSome) ∧ ∀ last' ks', st = some (last', ks') → ∃ v', Mk W' base g vl v' last' ks'
theorem Mk.cells {W : World} {base g : Nat} {vl v : Value} {last : List Int} {ks : List Kn} (h : Mk W base g vl v last ks) :
    ∃ Al cl A c, vl = .slice Al last.length cl ∧ last.length ≤ cl ∧ v = .slice A ks.length c ∧ ks.length ≤ c := by
  obtain ⟨Al, cl, h1, h2, _⟩ := Kd.R_reads h.lst
  obtain ⟨A, c, h3, h4, _⟩ := Kd.R_reads h.row
  exact ⟨Al, cl, A, c, h1, h2, h3, h4⟩
theorem Ex : ∀ q, q ∈ 3 :: (Kd.int .i64).E → q ≠ 64 := by decide
theorem Em : ∀ q, q ∈ 3 :: (Kd.int .i64).E → q ≠ 78 := by decide
theorem Ekm : ∀ q, q ∈ 64 :: (k64).E → q ≠ 78 := by decide
theorem ret_f {a b : Bool} (h : a = b) : Ending.returned (.bool a) = .returned (.bool b) := by rw [h]
theorem add_no (base g : Nat) (vl v : Value) (last : List Int) (ks : List Kn) (r : Int) (Ae : Option Addr) (ce : Nat) (le : List Int) (w : World) (h : Mk w base g vl v last ks) (hr0 : r < 0 ∨ (last.length : Int) ≤ r) (hs : Small last ks) :
    Calls Try.prog 35 #[.pointer (some ⟨g, 0, none⟩), .agg #[.int .i64 r, .slice Ae le.length ce]] w fun e w' => AddPost base g vl (addF (last, ks) ⟨r, le⟩) e w' ∧ Below w.heap.size w w' := by
  have he : addF (last, ks) ⟨r, le⟩ = none := by unfold addF; rw [if_pos hr0]
  rw [he]
  obtain ⟨Al, cl, A, c, rfl, hcl, rfl, hcv⟩ := h.cells
  have g0 := (blk_cell h.blk 0).trans rfl
  have g0 := cell_alloc1 g0 (.cells #[.int .i64 r, .slice Ae le.length ce] 56)
  have x0 := (blk_cell (blk_new w (.cells #[.int .i64 r, .slice Ae le.length ce] 56)) 0).trans rfl
  have hl64 := hs.2.1
  clear h he hs
  by_cases h0 : r < 0
  · have d0 : decide (r < 0) = true := decide_eq_true h0
    clear hr0 h0
    go_enter Try.func35, Try.ntmps35
    go_wp2
    go_quiet (fail)
    go_wp2
    go_ret
    exact ⟨⟨rfl, fun _ _ h => by cases h⟩, pw_below_drewN (below_alloc (Below.refl _ _) _) _⟩
  · have d0 : decide (r < 0) = false := decide_eq_false h0
    have d1 : decide ((last.length : Int) ≤ r) = true := decide_eq_true (by omega)
    clear hr0 h0
    go_enter Try.func35, Try.ntmps35
    go_wp2
    go_quiet (fail)
    go_wp2
    go_ret
    exact ⟨⟨rfl, fun _ _ h => by cases h⟩, pw_below_drewN (below_alloc (Below.refl _ _) _) _⟩
/-- the new event amid: those that stand just ahead are known -/
def MidA (w W : World) (bx : Nat) (r : Int) (le : List Int) (Ae : Option Addr) (ce : Nat) (vc : Value) (bh : List Int) (n : Nat) : Prop :=
  ∃ A c, W.heap[bx]? = some (.cells #[.slice none 0 0, .int .i64 0, .slice A bh.length c] 64 (0, 0)) ∧ Kd.R (Kd.int .i64) 3 W w.heap.size (fun _ => True) (.slice A bh.length c) bh ∧
    Kd.R (Kd.int .i64) 3 W w.heap.size (fun _ => True) vc (List.replicate n 0) ∧ W.heap[w.heap.size]? = some (.cells #[.int .i64 r, .slice Ae le.length ce] 56 (0, 0)) ∧ Below w.heap.size w W
theorem midA_app {w W4 w5 : World} {bx nq n : Nat} {r : Int} {le bh : List Int} {Ae Ab A1 : Option Addr} {ce cb c1 : Nat} {vc : Value} {cells : Array Value}
    (HN : W4.heap[bx]? = some (.cells cells 64 (0, 0))) (HRB : Kd.R (Kd.int .i64) 3 W4 w.heap.size (fun _ => True) (.slice Ab le.length cb) le)
    (HRC : Kd.R (Kd.int .i64) 3 W4 w.heap.size (fun k => True ∧ some k ≠ (Value.slice Ab le.length cb).ownBlock) vc (List.replicate n 0)) (HX : W4.heap[w.heap.size]? = some (.cells #[.int .i64 r, .slice Ae le.length ce] 56 (0, 0)))
    (ho : Kd.R (Kd.int .i64) 3 w5 w.heap.size (fun _ => True) (.slice A1 bh.length c1) bh) (hbl : Below w.heap.size w w5) (hgr : (W4.drewN nq).grownBy w5 (Value.slice Ab le.length cb).ownBlock) :
    w5.heap[bx]? = some (.cells cells 64 (0, 0)) ∧ Kd.R (Kd.int .i64) 3 w5 w.heap.size (fun _ => True) (.slice A1 bh.length c1) bh ∧ Kd.R (Kd.int .i64) 3 w5 w.heap.size (fun _ => True) vc (List.replicate n 0) ∧
      w5.heap[w.heap.size]? = some (.cells #[.int .i64 r, .slice Ae le.length ce] 56 (0, 0)) ∧ Below w.heap.size w w5 := by
  have hB := Kd.R_drewN HRB nq
  have hX := blk_drewN HX nq
  have hN := blk_drewN HN nq
  exact ⟨blk_grown hN hgr (Kd.R_ne hB hN (by decide)), ho, Kd.R_mono (Kd.R_grown (Kd.R_drewN HRC nq) hgr (fun k hk => hk.2)) (fun _ hk => hk.1), blk_grown hX hgr (Kd.R_ne hB hX (by decide)), hbl⟩
theorem midA_end {w w5 : World} {bx n m : Nat} {r : Int} {le bh : List Int} {Ae A1 : Option Addr} {ce c1 : Nat} {vc u : Value} (hbx : w.heap.size ≤ bx) (hm : m = bh.length)
    (h : w5.heap[bx]? = some (.cells #[.slice none 0 0, .int .i64 0, u] 64 (0, 0)) ∧ Kd.R (Kd.int .i64) 3 w5 w.heap.size (fun _ => True) (.slice A1 m c1) bh ∧ Kd.R (Kd.int .i64) 3 w5 w.heap.size (fun _ => True) vc (List.replicate n 0) ∧
      w5.heap[w.heap.size]? = some (.cells #[.int .i64 r, .slice Ae le.length ce] 56 (0, 0)) ∧ Below w.heap.size w w5) : MidA w (w5.setCell ⟨bx, 2, none⟩ (.slice A1 m c1)) bx r le Ae ce vc bh n := by
  subst hm
  obtain ⟨h1, h2, h3, h4, h5⟩ := h
  exact ⟨A1, c1, blk_put (cs' := #[.slice none 0 0, .int .i64 0, .slice A1 bh.length c1]) h1 2 _ rfl, Kd.R_set h2 h1 Ex 2 _, Kd.R_set h3 h1 Ex 2 _, blk_far h4 (blk_ne h4 h1 (by decide)) _, h5.setCell (p := ⟨bx, 2, none⟩) hbx _⟩
/-- the new event amid: some of those that stand just ahead are looked at -/
structure LoopA (w W : World) (bx : Nat) (r : Int) (le : List Int) (Ae : Option Addr) (ce : Nat) (vc : Value) (A : Option Addr) (c : Nat) (bh : List Int) (s : List Int × Int) : Prop where
  blk : W.heap[bx]? = some (.cells #[.slice none 0 0, .int .i64 s.2, .slice A bh.length c] 64 (0, 0))
  beh : Kd.R (Kd.int .i64) 3 W w.heap.size (fun _ => True) (.slice A bh.length c) bh
  clk : Kd.R (Kd.int .i64) 3 W w.heap.size (fun _ => True) vc s.1
  evt : W.heap[w.heap.size]? = some (.cells #[.int .i64 r, .slice Ae le.length ce] 56 (0, 0))
  bel : Below w.heap.size w W
theorem LoopA.step {w W W' : World} {bx : Nat} {r : Int} {le : List Int} {Ae : Option Addr} {ce : Nat} {vc vm : Value} {A : Option Addr} {c : Nat} {bh c' : List Int} {s : List Int × Int} (h : LoopA w W bx r le Ae ce vc A c bh s)
    (hr : Kd.R (Kd.int .i64) 3 W' W.heap.size (fun _ => True) vm c') (hb : Below W.heap.size W W') : LoopA w W' bx r le Ae ce vm A c bh (c', s.2) :=
  ⟨blk_below h.blk hb, Kd.R_below h.beh hb, Kd.R_lower hr h.bel.size, blk_below h.evt hb, below_then h.bel h.bel.size hb⟩
theorem LoopA.deep {w W : World} {bx : Nat} {r : Int} {le : List Int} {Ae : Option Addr} {ce : Nat} {vc : Value} {A : Option Addr} {c : Nat} {bh : List Int} {s : List Int × Int} (h : LoopA w W bx r le Ae ce vc A c bh s) (hbx : w.heap.size ≤ bx) {n n' : Int} (hn : n' = n) :
    LoopA w (W.setCell ⟨bx, 1, none⟩ (.int .i64 n')).drew bx r le Ae ce vc A c bh (s.1, n) := by
  subst hn
  have h1 : LoopA w (W.setCell ⟨bx, 1, none⟩ (.int .i64 n')) bx r le Ae ce vc A c bh (s.1, n') :=
    ⟨blk_put (cs' := #[.slice none 0 0, .int .i64 n', .slice A bh.length c]) h.blk 1 _ rfl, Kd.R_set h.beh h.blk Ex 1 _, Kd.R_set h.clk h.blk Ex 1 _,
      blk_far h.evt (blk_ne h.evt h.blk (by decide)) _, h.bel.setCell (p := ⟨bx, 1, none⟩) hbx _⟩
  exact ⟨h1.blk, Kd.R_drew h1.beh, Kd.R_drew h1.clk, h1.evt, h1.bel.drew⟩
theorem behind_len {last : List Int} {r : Int} {le : List Int} : (behindOf last ⟨r, le⟩).length ≤ le.length + 1 := by
  unfold behindOf
  split <;> simp
/-- the new event whole -/
structure FinA (w W : World) (bx : Nat) (r : Int) (le : List Int) (Ae : Option Addr) (ce : Nat) (va vb : Value) (ca bh : List Int) (d : Int) : Prop where
  blk : W.heap[bx]? = some (.cells #[va, .int .i64 d, vb] 64 (0, 0))
  beh : Kd.R (Kd.int .i64) 3 W w.heap.size (fun _ => True) vb bh
  clk : Kd.R (Kd.int .i64) 3 W w.heap.size (fun _ => True) va ca
  evt : W.heap[w.heap.size]? = some (.cells #[.int .i64 r, .slice Ae le.length ce] 56 (0, 0))
  bel : Below w.heap.size w W
theorem LoopA.fin {w W : World} {bx : Nat} {r : Int} {le : List Int} {Ae : Option Addr} {ce : Nat} {vc : Value} {A : Option Addr} {c : Nat} {bh : List Int} {s : List Int × Int} (h : LoopA w W bx r le Ae ce vc A c bh s) (hbx : w.heap.size ≤ bx) :
    FinA w ((W.setCell ⟨bx, 0, none⟩ vc).setCell ⟨bx, 1, none⟩ (.int .i64 (s.2 + 1))) bx r le Ae ce vc (.slice A bh.length c) s.1 bh (s.2 + 1) := by
  have b1 := blk_put (cs' := #[vc, .int .i64 s.2, .slice A bh.length c]) h.blk 0 vc rfl
  exact ⟨blk_put (cs' := #[vc, .int .i64 (s.2 + 1), .slice A bh.length c]) b1 1 _ rfl, Kd.R_set (Kd.R_set h.beh h.blk Ex 0 _) b1 Ex 1 _, Kd.R_set (Kd.R_set h.clk h.blk Ex 0 _) b1 Ex 1 _,
    blk_far (blk_far h.evt (blk_ne h.evt h.blk (by decide)) _) (blk_ne h.evt h.blk (by decide)) _, (h.bel.setCell (p := ⟨bx, 0, none⟩) hbx _).setCell (p := ⟨bx, 1, none⟩) hbx _⟩
theorem Mk.drew {W : World} {base g : Nat} {vl v : Value} {last : List Int} {ks : List Kn} (h : Mk W base g vl v last ks) : Mk W.drew base g vl v last ks := h.below (below_drew (Below.refl _ _))
theorem add_mid {w W7 w4 : World} {base g : Nat} {vl v v1 : Value} {last : List Int} {ks ks' : List Kn} {cells : Array Value} (h : Mk W7 base g vl v last ks) (ho : Kd.R k64 64 w4 base (fun k => some k ≠ vl.ownBlock) v1 ks')
    (hbl : Below base w w4) (hgr : W7.drew.grownBy w4 v.ownBlock) (hX : W7.heap[w.heap.size]? = some (.cells cells 56 (0, 0))) :
    Mk (w4.setCell ⟨g, 3, none⟩ v1) base g vl v1 last ks' ∧ (w4.setCell ⟨g, 3, none⟩ v1).heap[w.heap.size]? = some (.cells cells 56 (0, 0)) ∧ Below base w (w4.setCell ⟨g, 3, none⟩ v1) := by
  have hg4 := blk_grown (w := W7.drew) h.blk hgr (Kd.R_ne h.row h.blk (by decide))
  have hx4 := blk_grown (w := W7.drew) hX hgr (Kd.R_ne h.row hX (by decide))
  have hl4 := Kd.R_over' (Kd.R_drew h.lst) (Kd.R_typed (Kd.R_drew h.row)) (by decide) hgr
  exact ⟨⟨blk_put (cs' := #[vl, .func (.func 33) #[] #[], .func (.func 34) #[] #[], v1]) hg4 3 _ rfl, h.hg, Kd.R_set hl4 hg4 Em 3 _, Kd.R_set ho hg4 Ekm 3 _⟩,
    blk_far hx4 (blk_ne hx4 hg4 (by decide)) _, hbl.setCell (p := ⟨g, 3, none⟩) h.hg _⟩
theorem add_last {W : World} {base g gl cl : Nat} {v : Value} {last : List Int} {ks : List Kn} (h : Mk W base g (.slice (some ⟨gl, 0, none⟩) last.length cl) v last ks) {r : Int} (h0 : 0 ≤ r) (h1 : r < last.length) (x : Int) :
    Mk (W.setCell ⟨gl, r.toNat, none⟩ (.int .i64 x)) base g (.slice (some ⟨gl, 0, none⟩) last.length cl) v (last.set r.toNat x) ks := by
  obtain ⟨cells, hty⟩ := Kd.R_typed h.lst gl rfl
  exact ⟨blk_far h.blk (blk_ne h.blk hty (by decide)) _, h.hg, Kd.R_putn h.lst r x, Kd.R_far h.row (fun k hk he => hk (by rw [he]; rfl)) _⟩
theorem addF_of {last : List Int} {ks : List Kn} {r : Int} {le : List Int} {o : Option (List Int × Int)} (h0 : 0 ≤ r) (h1 : r < last.length) (hg : goB ks (behindOf last ⟨r, le⟩) (List.replicate last.length 0, 0) = o) :
    addF (last, ks) ⟨r, le⟩ = o.map fun q => (last.set r.toNat (ks.length + 1), ks ++ [⟨(tickF q.1 r).1, q.2 + 1, behindOf last ⟨r, le⟩⟩]) := by
  unfold addF
  rw [if_neg (by dsimp only; omega)]
  dsimp only
  rw [hg]
  cases o <;> rfl
set_option maxRecDepth 100000 in
set_option maxHeartbeats 8000000 in
theorem add_yes (base g : Nat) (vl v : Value) (last : List Int) (ks : List Kn) (r : Int) (Ae : Option Addr) (ce : Nat) (le : List Int) (w : World) (h : Mk w base g vl v last ks) (hb : base ≤ w.heap.size) (h0 : 0 ≤ r) (h1 : r < last.length) (hs : Small last ks) (hn : ks.length < 2000)
    (hr : Kd.C (Kd.int .i64) w Ae le.length le) (hc : le.length ≤ ce) (hl : le.length ≤ 1000) :
    Calls Try.prog 35 #[.pointer (some ⟨g, 0, none⟩), .agg #[.int .i64 r, .slice Ae le.length ce]] w fun e w' => AddPost base g vl (addF (last, ks) ⟨r, le⟩) e w' ∧ Below base w w' := by
  have HM := Aside0.mk h
  have HR := Aside0.mk hr
  have HS := Aside0.mk hs
  obtain ⟨Al, cl, A, c, hvl, hcl, hv, hcv⟩ := h.cells
  subst hvl hv
  obtain ⟨gl, rfl⟩ : ∃ gl, Al = some ⟨gl, 0, none⟩ := by
    obtain ⟨ad, _, e1⟩ := Kd.R_slice1 h.lst (by omega)
    injection e1 with e1 _ _
    subst e1
    obtain ⟨gl, rfl⟩ := Kd.R_head h.lst
    exact ⟨gl, rfl⟩
  have d0 : decide (r < 0) = false := decide_eq_false (by omega)
  have d1 : decide ((last.length : Int) ≤ r) = false := decide_eq_false (by omega)
  have g0 := (blk_cell h.blk 0).trans rfl
  have g0 := cell_alloc1 g0 (.cells #[.int .i64 r, .slice Ae le.length ce] 56)
  have x0 := (blk_cell (blk_new w (.cells #[.int .i64 r, .slice Ae le.length ce] 56)) 0).trans rfl
  have hl64 := hs.2.1
  have hl1 := hs.1
  have hrm := hs.2.2.2.1 _ (rd_mem h0 h1)
  clear h hr hs
  go_enter Try.func35, Try.ntmps35
  go_wp2
  go_quiet (fail)
  have hb1 := pw_below_drewN (below_alloc (Below.refl w.heap.size w) (.cells #[.int .i64 r, .slice Ae le.length ce] 56)) nq
  have HX1 := Aside0.mk (blk_drewN (blk_new w (.cells #[.int .i64 r, .slice Ae le.length ce] 56)) nq)
  clear g0 x0
  have HB1 := Aside0.mk hb1
  clear hb1
  obtain ⟨W1, hW1⟩ : ∃ W1, (w.alloc (.cells #[.int .i64 r, .slice Ae le.length ce] 56)).drewN nq = W1 := ⟨_, rfl⟩
  rw [hW1] at HX1 HB1 ⊢
  clear hW1
  have g0 := (blk_cell (HM.out.below HB1.out).blk 0).trans rfl
  go_wp2_with fail
  refine (new_c last.length W1 (by omega) (by omega)).mono ?_
  rw [Int.toNat_natCast]
  rintro e W2 ⟨vc, rfl, hRc, hb2⟩
  have HRC := Aside0.mk hRc
  have HX2 := Aside0.mk (blk_below HX1.out hb2)
  have HB2 := Aside0.mk (below_then HB1.out HB1.out.size hb2)
  clear hRc hb2 HX1 g0
  have x1 := (blk_cell HX2.out 1).trans rfl
  go_wp2_with fail
  refine (cloneI_c Ae ce le W2 (Kd.C_below HR.out HB2.out) hc (by omega)).mono ?_
  rintro e W3 ⟨vb, rfl, hRb, hb3⟩
  have HRB := Aside0.mk (Kd.R_lower hRb HB2.out.size)
  have HRC3 := Aside0.mk (Kd.R_lower (Kd.R_elder' HRC.out (fun k hk => by have := Kd.R_base2 hRb; rw [hk] at this; simpa using this) hb3) HB1.out.size)
  have HX3 := Aside0.mk (blk_below HX2.out hb3)
  have HB3 := Aside0.mk (below_then HB2.out HB2.out.size hb3)
  clear hRb hb3 HX2 HRC x1
  obtain ⟨Ab, cb, rfl, hcb, _⟩ := Kd.R_reads HRB.out
  go_wp2_with fail
  have hb4 := below_alloc (Below.refl W3.heap.size W3) (.cells #[.slice none 0 0, .int .i64 0, .slice Ab le.length cb] 64)
  have HN4 := Aside0.mk (blk_new W3 (.cells #[.slice none 0 0, .int .i64 0, .slice Ab le.length cb] 64))
  have HRB4 := Aside0.mk (Kd.R_below HRB.out hb4)
  have HRC4 := Aside0.mk (Kd.R_below HRC3.out hb4)
  have HX4 := Aside0.mk (blk_below HX3.out hb4)
  have HB4 := Aside0.mk (below_then HB3.out HB3.out.size hb4)
  have HZ := Aside0.mk HB3.out.size
  clear hb4 HX3 HRB HRC3
  generalize (W3.alloc (.cells #[.slice none 0 0, .int .i64 0, .slice Ab le.length cb] 64)) = W4 at HN4 HRB4 HRC4 HX4 HB4 ⊢
  have HM4 := Aside0.mk (HM.out.below HB4.out)
  have g0 := (blk_cell HM4.out.blk 0).trans rfl
  have x0 := (blk_cell HX4.out 0).trans rfl
  have lr : W4.cell? ⟨gl, r.toNat, none⟩ = some (.int .i64 (rd last r)) := (Kd.R_cell (0 : Int) HM4.out.lst r h0 h1).1
  go_quiet (fail)
  have HM5 := Aside0.mk (HM4.out.below (pw_below_drewN (Below.refl _ W4) nq))
  have hz4 : w.heap.size ≤ W4.heap.size := HB4.out.size
  go_upto_if 46 with (fail)
  go_cut [5] (fun v5 wc => v5 = vc ∧ MidA w wc W3.heap.size r le Ae ce vc (behindOf last ⟨r, le⟩) last.length)
  case first =>
    clear g0 x0 lr
    have x2 := (blk_cell (blk_drewN HN4.out nq) 2).trans rfl
    have f2 := blk_frozen (blk_drewN HN4.out nq) 2
    by_cases hk : 0 < rd last r
    · have dk : decide (0 < rd last r) = true := decide_eq_true hk
      have hl8 : (le.length + 1) * 8 ≤ 140737488355328 := by omega
      have hsub : IntKind.i64.wrap (rd last r - 1) = rd last r - 1 := i64w (by omega) (by omega)
      have HBH : Aside0 (behindOf last ⟨r, le⟩ = le ++ [rd last r - 1]) := ⟨by unfold behindOf; rw [if_pos hk]⟩
      go_wp2_with (at_builtin; go_loud (refine Kd.R_append (Kd.int .i64) (w0 := w) w.heap.size rfl (.tmp 48) (.tmp 51) 28 3 (.int .i64 0) 8 rfl Try.underlying28 infoI rfl (by decide) (by decide) (.slice Ab le.length cb) le (rd last r - 1) [.int .i64 (rd last r - 1)] (fun _ => True) (fun _ => False) rfl rfl rfl (fun _ h => h.elim) (fun _ _ => trivial) (Kd.R_drewN HRB4.out nq) (pw_below_drewN HB4.out nq) hz4 hl8 ?_; intro v1 w5 ho hbl hgr hat; obtain ⟨A1, c1, rfl, hc1, _⟩ := Kd.R_reads ho; have hA := midA_app (nq := nq) HN4.out HRB4.out HRC4.out HX4.out ho hbl hgr; rw [List.length_append, List.length_singleton] at hA; have y2 := (blk_cell hA.1 2).trans rfl; have z2 := blk_frozen hA.1 2; have HA := Aside0.mk hA; clear ho hbl hgr hat hA))
      go_meet
      refine ⟨rfl, ?_⟩
      rw [HBH.out]
      exact midA_end HZ.out (by simp) HA.out
    · have dk : decide (0 < rd last r) = false := decide_eq_false hk
      have HBH : Aside0 (behindOf last ⟨r, le⟩ = le) := ⟨by unfold behindOf; rw [if_neg hk, List.append_nil]⟩
      have hk' : rd last r ≤ 0 := by omega
      go_wp2_with fail
      go_meet
      refine ⟨rfl, ?_⟩
      rw [HBH.out]
      exact ⟨Ab, cb, blk_drewN HN4.out nq, Kd.R_drewN HRB4.out nq, Kd.R_mono (Kd.R_drewN HRC4.out nq) (fun _ hk => hk.1), blk_drewN HX4.out nq, pw_below_drewN HB4.out nq⟩
  case rest =>
    obtain ⟨W6, rfl⟩ : ∃ W6 : World, W6 = wc := ⟨_, rfl⟩
    clear x0 lr g0 HN4 HRB4 HRC4 HX4
    obtain ⟨rfl, A6, c6, h61, h62, h63, h64, h65⟩ := hcut
    generalize hbh : behindOf last ⟨r, le⟩ = bh at *
    have HBE := Aside0.mk hbh
    have hbl : bh.length ≤ 1001 := by rw [← hbh]; exact Nat.le_trans behind_len (by omega)
    clear hbh
    have HN6 := Aside0.mk h61
    have HRB6 := Aside0.mk h62
    have HRC6 := Aside0.mk h63
    have HX6 := Aside0.mk h64
    have HB6 := Aside0.mk h65
    clear h61 h62 h63 h64 h65
    have x2 := (blk_cell HN6.out 2).trans rfl
    go_wp2_with fail
    clear x2 hrm hz4 d0 d1
    go_loopw [5, 57] (fun v5 v57 wr => ∃ (j : Nat) (s : List Int × Int), j ≤ bh.length ∧ v57 = .int .i64 j ∧ LoopA w wr W3.heap.size r le Ae ce v5 A6 c6 bh s ∧ Aside0 (goB ks (bh.drop j) s = goB ks bh (List.replicate last.length 0, 0)) ∧ Aside0 (s.1.length ≤ 64 ∧ 0 ≤ s.2 ∧ s.2 ≤ ks.length)) (fun _ v57 _ => bh.length - (intOf v57).toNat)
    case atStart => exact ⟨0, (List.replicate last.length 0, 0), by omega, rfl, ⟨HN6.out, HRB6.out, HRC6.out, HX6.out, HB6.out⟩, ⟨by rw [List.drop_zero]⟩, ⟨by simp; omega⟩⟩
    case round =>
      obtain ⟨j, s, hj, rfl, HLA, HG, HSB⟩ := hrel
      by_cases hlt : j < bh.length
      · obtain ⟨ad, had, hx⟩ := Kd.at_int (Kd.R_reads' HLA.beh).2.2 j (by omega) (by omega)
        subst had
        rw [Int.toNat_natCast] at hx
        have HDR := Aside0.mk (show bh.drop j = rd bh j :: bh.drop (j + 1) by rw [rd_lt hlt]; exact List.drop_eq_getElem_cons hlt)
        have HL := Aside0.mk HLA
        clear HLA
        have HMw := Aside0.mk (HM.out.below HL.out.bel)
        have g3 := (blk_cell HMw.out.blk 3).trans rfl
        generalize hi : rd bh j = i at *
        by_cases hneg : i < 0
        · have dn : decide (i < 0) = true := decide_eq_true hneg
          have HNO : Aside0 (addF (last, ks) ⟨r, le⟩ = none) := ⟨by
            refine (addF_of h0 h1 (o := goB ks (bh.drop j) s) (by rw [HBE.out]; exact HG.out.symm)).trans ?_
            rw [HDR.out]
            unfold goB
            rw [if_pos (.inl hneg)]
            rfl⟩
          clear hi hneg
          go_wp2
          go_ret
          rw [HNO.out]
          exact ⟨⟨rfl, fun _ _ h => by cases h⟩, HL.out.bel.mono hb⟩
        · by_cases hbig : (ks.length : Int) ≤ i
          · have dn : decide (i < 0) = false := decide_eq_false hneg
            have db : decide ((ks.length : Int) ≤ i) = true := decide_eq_true hbig
            have HNO : Aside0 (addF (last, ks) ⟨r, le⟩ = none) := ⟨by
              refine (addF_of h0 h1 (o := goB ks (bh.drop j) s) (by rw [HBE.out]; exact HG.out.symm)).trans ?_
              rw [HDR.out]
              unfold goB
              rw [if_pos (.inr hbig)]
              rfl⟩
            clear hi hneg hbig
            go_wp2
            go_ret
            rw [HNO.out]
            exact ⟨⟨rfl, fun _ _ h => by cases h⟩, HL.out.bel.mono hb⟩
          · have dn : decide (i < 0) = false := decide_eq_false hneg
            have db : decide ((ks.length : Int) ≤ i) = false := decide_eq_false hbig
            obtain ⟨adk, A0, c0, A2, c2, hAe, a0, a1, _, b0, b1, _, _⟩ := at_T64 (Kd.R_reads' HMw.out.row).2.2 i (by omega) (by omega)
            subst hAe
            have HCK := Aside0.mk b1
            have HNX : Aside0 (goB ks (bh.drop (j + 1)) (mergeF s.1 (kat ks i).f0, max s.2 (kat ks i).f1) = goB ks bh (List.replicate last.length 0, 0)) := ⟨by
              rw [← HG.out, HDR.out]
              conv => rhs; unfold goB
              rw [if_neg (by omega)]⟩
            have hkb := HS.out.2.2.2.2 _ (kat_mem (ks := ks) (i := i) (by omega) (by omega))
            have HSN : Aside0 ((mergeF s.1 (kat ks i).f0).length ≤ 64 ∧ 0 ≤ max s.2 (kat ks i).f1 ∧ max s.2 (kat ks i).f1 ≤ ks.length) := ⟨by
              obtain ⟨q1, q2, q3⟩ := HSB.out
              exact ⟨merge_len q1, by omega, by omega⟩⟩
            change wr.cell? (adk.add (i.toNat * 3)) = some (.slice A0 (kat ks i).f0.length c0) at a0
            have hi0 : 0 ≤ i := by omega
            have hi1 : i < ks.length := by omega
            clear hi hneg hbig b1 hkb a1 HSB
            obtain ⟨Ac, cc, hv5, hcc, hCC⟩ := Kd.R_reads HL.out.clk
            subst hv5
            have HCC := Aside0.mk hCC
            clear hCC
            have g1 := (blk_cell HMw.out.blk 1).trans rfl
            go_upto_region 13 with (fail)
            have HF := Aside0.mk (merge_c Ac cc s.1 A0 c0 (kat ks i).f0 wr.drew (C_drew HCC.out) hcc (C_drew HCK.out) b0)
            go_region_with (go_at_call 33; refine HF.out.mono ?_; rintro e w1 ⟨vm, rfl, hRm, hbm⟩; obtain ⟨Am, cm, rfl, hcm, _⟩ := Kd.R_reads hRm; have HRM := Aside0.mk hRm; have HBM := Aside0.mk (below_of_drew hbm); clear hRm hbm)
            all_goals (
              have HL1 := Aside0.mk (HL.out.step HRM.out HBM.out)
              have HMw1 := Aside0.mk (HM.out.below HL1.out.bel)
              have y1 := (blk_cell HL1.out.blk 1).trans rfl
              have fy := blk_frozen HL1.out.blk 1
              have y3 := (blk_cell HMw1.out.blk 3).trans rfl
              obtain ⟨adk2, A02, c02, A22, c22, hAe2, _, a1, _, _, _, _, _⟩ := at_T64 (Kd.R_reads' HMw1.out.row).2.2 i hi0 hi1
              injection hAe2 with hAe2
              subst hAe2
              change w1.cell? ⟨(adk.add (i.toNat * 3)).block, (adk.add (i.toNat * 3)).off + 1, none⟩ = some (.int .i64 (kat ks i).f1) at a1
              clear a0 g1 g3 hx HMw HL
              go_wp2_with fail
              go_region
              all_goals (
                go_wp2
                go_roundw
                case rel => exact ⟨j + 1, _, by omega, by go_num, HL1.out.deep HZ.out (n := max s.2 (kat ks i).f1) (by show (if s.2 < (kat ks i).f1 then (kat ks i).f1 else s.2) = _; split <;> omega), HNX, HSN⟩
                case measure => simp [intOf]; omega))
      · obtain rfl : j = bh.length := by omega
        have HL := Aside0.mk HLA
        clear HLA
        have hgo : goB ks bh (List.replicate last.length 0, 0) = some s := by
          rw [← HG.out, List.drop_length]
          rfl
        have HYES := Aside0.mk (addF_of h0 h1 (o := some s) (by rw [HBE.out]; exact hgo))
        have hs2 : s.2 ≤ 2000 := by have := HSB.out.2.2; omega
        have hs0 : 0 ≤ s.2 := HSB.out.2.1
        have hi64 : Aside0 (IntKind.i64.wrap (s.2 + 1) = s.2 + 1) := ⟨i64w (by omega) (by omega)⟩
        clear hgo HG
        have HMw := Aside0.mk (HM.out.below HL.out.bel)
        obtain ⟨Ac, cc, hv5, hcc, hCC⟩ := Kd.R_reads HL.out.clk
        subst hv5
        have HCC := Aside0.mk hCC
        clear hCC
        have g2 := (blk_cell HMw.out.blk 2).trans rfl
        have x0 := (blk_cell HL.out.evt 0).trans rfl
        have hs64 := HSB.out.1
        go_wp2_with fail
        have HF := Aside0.mk (tick_c Ac cc s.1 r wr.drew (C_drew HCC.out) hcc hs64)
        go_region_with (go_at_call 34; refine HF.out.mono ?_; rintro e w1 ⟨vm, rfl, hRm, hbm⟩; obtain ⟨Am, cm, rfl, hcm, _⟩ := Kd.R_reads hRm; have HRM := Aside0.mk hRm; have HBM := Aside0.mk (below_of_drew hbm); have HL1 := Aside0.mk (HL.out.step hRm (below_of_drew hbm)); have y0 := (blk_cell HL1.out.blk 0).trans rfl; have fy0 := blk_frozen HL1.out.blk 0; clear hRm hbm)
        all_goals (
          clear y0 fy0 g2 x0
          have y1 := (blk_cell HL1.out.blk 1).trans rfl
          have fy1 := blk_frozen HL1.out.blk 1
          have hw := hi64.out
          go_wp2_with fail
          clear hw y1 fy1
          have HFI := HL1.out.fin HZ.out
          dsimp only at HFI
          have hcm2 := hcm
          have hzW := HZ.out
          generalize ((w1.setCell ⟨W3.heap.size, 0, none⟩ (.slice Am (tickF s.1 r).1.length cm)).setCell ⟨W3.heap.size, 1, none⟩ (.int .i64 (s.2 + 1))) = W7 at HFI ⊢
          have HFI := Aside0.mk HFI
          have HM7 := Aside0.mk (HM.out.below HFI.out.bel)
          have hvl := Kd.Q_lt (Kd.Q_of_R HM.out.lst)
          have hvv := Kd.Q_lt (Kd.Q_of_R HM.out.row)
          have HP : Aside0 (Kd.M k64 W7.drew base (fun k => w.heap.size ≤ k ∧ k < W7.heap.size) ⟨(tickF s.1 r).1, s.2 + 1, bh⟩ [.slice Am (tickF s.1 r).1.length cm, .int .i64 (s.2 + 1), .slice A6 bh.length c6]) :=
            ⟨k64_mkM W7.drew base _ (⟨(tickF s.1 r).1, s.2 + 1, bh⟩ : Kn) (Kd.R_drew (Kd.R_mono (Kd.R_lower (Kd.R_bound HFI.out.clk) hb) (fun k hk => ⟨hk.2.1, hk.2.2.1⟩))) (Kd.R_drew (Kd.R_mono (Kd.R_lower (Kd.R_bound HFI.out.beh) hb) (fun k hk => ⟨hk.2.1, hk.2.2.1⟩)))⟩
          have HOK : Aside0 (∀ k, (w.heap.size ≤ k ∧ k < W7.heap.size) → some k ≠ (Value.slice (some ⟨gl, 0, none⟩) last.length cl).ownBlock ∧ some k ≠ (Value.slice A ks.length c).ownBlock) :=
            ⟨fun k hk => ⟨fun he => by have := hvl k he.symm; omega, fun he => by have := hvv k he.symm; omega⟩⟩
          have HF : Aside0 (∀ k, W7.drew.heap.size ≤ k → some k ≠ (Value.slice (some ⟨gl, 0, none⟩) last.length cl).ownBlock) := ⟨fun k hk he => by have := hvl k he.symm; have h8 := HFI.out.bel.size; have h9 : W7.heap.size ≤ k := hk; omega⟩
          have HBD : Aside0 (Below base w W7.drew) := ⟨(HFI.out.bel.mono hb).drew⟩
          have hbs : Aside0 (base ≤ W7.drew.heap.size) := ⟨Nat.le_trans hb HFI.out.bel.size⟩
          have HGX : Aside0 (g ≠ W3.heap.size) := ⟨blk_ne HM7.out.blk HFI.out.blk (by decide)⟩
          have hkl : (ks.length + 1) * 56 ≤ 140737488355328 := by omega
          have HNG : Aside0 (some g ≠ (Value.slice A ks.length c).ownBlock) := ⟨Kd.R_ne HM7.out.row HM7.out.blk (by decide)⟩
          have g3 := (blk_cell HM7.out.blk 3).trans rfl
          have g3a := fun o => pw_cell_below (below_alloc (Below.refl W7.heap.size W7) o) g3
          have y0 := (blk_cell HFI.out.blk 0).trans rfl
          have y1 := (blk_cell HFI.out.blk 1).trans rfl
          have y2 := (blk_cell HFI.out.blk 2).trans rfl
          clear hvl hvv hcm hzW
          go_region_law ((refine Kd.R_append_step k64 (w0 := w) (W := W7.drew) base (by rfl) (.tmp 122) (.tmp 124) 65 64 (.agg #[.slice none 0 0, .int .i64 0, .slice none 0 0]) 56 (by rfl) Try.underlying65 infoK (by rfl) (by decide) (by decide) (.slice A ks.length c) ks ⟨(tickF s.1 r).1, s.2 + 1, bh⟩ [.slice Am (tickF s.1 r).1.length cm, .int .i64 (s.2 + 1), .slice A6 bh.length c6] (fun k => some k ≠ (Value.slice (some ⟨gl, 0, none⟩) last.length cl).ownBlock) (fun k => w.heap.size ≤ k ∧ k < W7.heap.size) (by rfl) (by rfl) HP.out HOK.out HF.out (Kd.R_drew HM7.out.row) HBD.out hbs.out hkl ?_; intro v1 w4 ho hbl hgr hat; obtain ⟨A1, c1, rfl, hl1, _⟩ := Kd.R_reads ho; have BG4 := blk_grown (w := W7.drew) HM7.out.blk hgr HNG.out; have cz := (blk_cell BG4 3).trans rfl; have fz := blk_frozen BG4 3; have HO4 := Aside0.mk ho; have BG5 := Aside0.mk BG4; have HBL := Aside0.mk hbl; have HGR := Aside0.mk hgr; clear ho hbl hgr hat BG4))
          all_goals (
            have hMid := add_mid HM7.out HO4.out HBL.out HGR.out HFI.out.evt
            rw [show (ks ++ [(⟨(tickF s.1 r).1, s.2 + 1, bh⟩ : Kn)]).length = ks.length + 1 by simp] at hMid
            clear cz fz g3 g3a y0 y1 y2
            go_wp2_with fail
            generalize w4.setCell ⟨g, 3, none⟩ (.slice A1 (ks.length + 1) c1) = W8 at hMid ⊢
            have HMid := Aside0.mk hMid
            clear hMid
            have q0 := (blk_cell HMid.out.1.blk 0).trans rfl
            have q3 := (blk_cell HMid.out.1.blk 3).trans rfl
            have e0 := (blk_cell HMid.out.2.1 0).trans rfl
            have lf := (Kd.R_cell (0 : Int) HMid.out.1.lst r h0 h1)
            have lf0 := lf.1
            have lf1 := lf.2
            have HEND := Aside0.mk (add_last HMid.out.1 h0 h1 ((ks.length : Int) + 1))
            have HEB := Aside0.mk (HMid.out.2.2.setCell (p := ⟨gl, r.toNat, none⟩) (Kd.Q_base (Kd.Q_of_R HMid.out.1.lst) gl rfl) (.int .i64 ((ks.length : Int) + 1)))
            clear lf
            go_region
            all_goals (
              go_wp2
              go_ret
              rw [HYES.out]
              refine ⟨⟨rfl, fun last' ks' hh => ?_⟩, HEB.out.drew⟩
              obtain ⟨rfl, rfl⟩ : last.set r.toNat ((ks.length : Int) + 1) = last' ∧ ks ++ [(⟨(tickF s.1 r).1, s.2 + 1, behindOf last ⟨r, le⟩⟩ : Kn)] = ks' := by
                injection hh with hh
                injection hh with h1 h2
                exact ⟨h1, h2⟩
              rw [HBE.out]
              exact ⟨_, HEND.out.drew⟩)))
end Go.Proofs.Ytnblmjkaieibhaa.HO
