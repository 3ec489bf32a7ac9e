/-
  CONTRACTS BY HAND (paths, 18): the law PathPlays, walked: it answers true, and nothing that was there is changed.
-/
import Derived.Test.YtfmlpcdbllpcaaaPlB
import Derived.Test.YtfmlpcdbllpcaaaRfF
import Derived.Test.YtfmlpcdbllpcaaaRfD
namespace Go.Proofs.Ytfmlpcdbllpcaaa.HQ
open Go.Proofs.Ytfmlpcdbllpcaaa.HD Go.Proofs.Ytfmlpcdbllpcaaa.HU Go.RowKit Go.Proofs.Ytfmlpcdbllpcaaa.HK Go.Proofs.Ytfmlpcdbllpcaaa.HP Go.Proofs.YtfmlpcdbllpcaaaW.PrintWords Go.Proofs.YtfmlpcdbllpcaaaW.PrintLast Go.Proofs.YtfmlpcdbllpcaaaW.PrintMore
set_option linter.unusedVariables false
set_option linter.unusedSimpArgs false
/-- the two stacks -/
def Both (b0 : Nat) (W : World) (ok : Nat → Prop) (sv wv : Value) (ls : List Lv) : Prop :=
  ∃ g v g2 vp vo va, sv = .pointer (some ⟨g, 0, none⟩) ∧ wv = .pointer (some ⟨g2, 0, none⟩) ∧ Sq W b0 ok g v ls ∧ Rf W b0 ok g2 vp vo va ls ∧ ∀ x ∈ ls, Fit x
/-- a point of one's own, that was made since wr -/
def PInfo (wr wx : World) (bp : Nat) (Ap : Option Addr) (cp : Nat) (r q : Int) (vals : List Ch) : Prop :=
  wx.heap[bp]? = some (.cells #[.int .i64 r, .int .i64 q, .slice Ap vals.length cp] 34 (0, 0)) ∧ wr.heap.size ≤ bp ∧ Kd.R k43 43 wx wr.heap.size (fun k => wr.heap.size ≤ k) (.slice Ap vals.length cp) vals ∧ Below wr.heap.size wr wx
theorem Both.below {b0 : Nat} {W W' : World} {ok : Nat → Prop} {sv wv : Value} {ls : List Lv} (h : Both b0 W ok sv wv ls) (hb : Below W.heap.size W W') : Both b0 W' ok sv wv ls := by
  obtain ⟨g, v, g2, vp, vo, va, e1, e2, hs, hr, hf⟩ := h
  exact ⟨g, v, g2, vp, vo, va, e1, e2, hs.below hb, hr.below hb, hf⟩
theorem both_new (W : World) (b0 : Nat) (hb : b0 ≤ W.heap.size) {w1 : World} (h : Sq w1 W.heap.size (fun _ => True) W.heap.size (.slice none 0 0) []) (hb1 : Below W.heap.size W w1) :
    Both b0 (w1.alloc (.cells #[.slice none 0 0, .slice none 0 0, .slice none 0 0] 31)) (fun _ => True) (.pointer (some ⟨W.heap.size, 0, none⟩)) (.pointer (some ⟨w1.heap.size, 0, none⟩)) [] := by
  have hz := hb1.size
  refine ⟨_, .slice none 0 0, _, .slice none 0 0, .slice none 0 0, .slice none 0 0, rfl, rfl, ?_, ⟨blk_new _ _, by omega, Kd.Q_nil _ _ _ _ _, Kd.Q_nil _ _ _ _ _, Kd.Q_nil _ _ _ _ _⟩, fun x hx => by simp at hx⟩
  have h := h.below (below_alloc0 w1 (.cells #[.slice none 0 0, .slice none 0 0, .slice none 0 0] 31))
  exact ⟨h.blk, by omega, Kd.Q_lower h.row hb⟩
theorem pinfo_late {wr W w1 : World} {b : Nat} {Ap : Option Addr} {cp : Nat} {r q : Int} {vals : List Ch} (hW : Below wr.heap.size wr W) (hr : Kd.R k43 43 w1 wr.heap.size (fun k => wr.heap.size ≤ k) (.slice Ap vals.length cp) vals) (hb : Below b W w1) (hn : wr.heap.size ≤ b) :
    PInfo wr (w1.alloc (.cells #[.int .i64 r, .int .i64 q, .slice Ap vals.length cp] 34)) w1.heap.size Ap cp r q vals := by
  have h1 : Below wr.heap.size wr w1 := hW.trans (hb.mono hn)
  exact ⟨blk_new _ _, h1.size, Kd.R_below hr (below_alloc0 _ _), below_alloc h1 _⟩
theorem pinfo_set {wr W w1 : World} {b b6 : Nat} {Ap : Option Addr} {cp : Nat} {r q : Int} {vals : List Ch} (hW : Below wr.heap.size wr W) (hr : Kd.R k43 43 w1 wr.heap.size (fun k => wr.heap.size ≤ k) (.slice Ap vals.length cp) vals) (hb : Below b W w1) (hn : wr.heap.size ≤ b)
    (h6 : w1.heap[b6]? = some (.cells #[.int .i64 0, .int .i64 0, .slice none 0 0] 34 (0, 0))) (hn6 : wr.heap.size ≤ b6) :
    PInfo wr (((w1.setCell ⟨b6, 0, none⟩ (.int .i64 r)).setCell ⟨b6, 1, none⟩ (.int .i64 q)).setCell ⟨b6, 2, none⟩ (.slice Ap vals.length cp)) b6 Ap cp r q vals := by
  have h1 : Below wr.heap.size wr w1 := hW.trans (hb.mono hn)
  have x1 := blk_put (cs' := #[.int .i64 r, .int .i64 0, .slice none 0 0]) h6 0 (.int .i64 r) rfl
  have x2 := blk_put (cs' := #[.int .i64 r, .int .i64 q, .slice none 0 0]) x1 1 (.int .i64 q) rfl
  have x3 := blk_put (cs' := #[.int .i64 r, .int .i64 q, .slice Ap vals.length cp]) x2 2 (.slice Ap vals.length cp) rfl
  exact ⟨x3, hn6, Kd.R_set (Kd.R_set (Kd.R_set hr h6 E43 0 _) x1 E43 1 _) x2 E43 2 _, ((h1.setCell (p := ⟨b6, 0, none⟩) hn6 _).setCell (p := ⟨b6, 1, none⟩) hn6 _).setCell (p := ⟨b6, 2, none⟩) hn6 _⟩
/-- what is pushed -/
def pushL (r q : Int) (vals : List Ch) (off : Bool) (ls : List Lv) : List Lv := if mayP r q vals = true then ls ++ [⟨⟨r, q, vals⟩, off, 0⟩] else ls
def pushE (r q : Int) (vals : List Ch) : Int := if mayP r q vals = true then 0 else 2
theorem pushL_fit {r q : Int} {vals : List Ch} {off : Bool} {ls : List Lv} (h : ∀ x ∈ ls, Fit x) (hl : vals.length ≤ 1000) : ∀ x ∈ pushL r q vals off ls, Fit x := by
  unfold pushL
  split
  · rename_i hm
    intro x hx
    rcases List.mem_append.1 hx with hx | hx
    · exact h x hx
    · rw [List.mem_singleton.1 hx]
      exact fit_new hm hl
  · exact h
theorem pushL_len (r q : Int) (vals : List Ch) (off : Bool) (ls : List Lv) : (pushL r q vals off ls).length ≤ ls.length + 1 := by
  unfold pushL
  split <;> simp
theorem push_any (base : Nat) (ok : Nat → Prop) (g : Nat) (v : Value) (ls : List Lv) (r q : Int) (A : Option Addr) (c : Nat) (l : List Ch) (off : Bool) (w : World) (h : Sq w base ok g v ls) (hb : base ≤ w.heap.size) (hok : ∀ k, w.heap.size ≤ k → ok k)
    (hr : Kd.C k43 w A l.length l) (hc : l.length ≤ c) (hl : l.length ≤ 1000) (hn : ls.length < 2000) :
    Calls Try.prog 7 #[.pointer (some ⟨g, 0, none⟩), .agg #[.int .i64 r, .int .i64 q, .slice A l.length c], .bool off] w fun e w' => e = .returned (.int .i64 (pushE r q l)) ∧ (∃ v', Sq w' base ok g v' (pushL r q l off ls)) ∧ Kept w w' (WrS g v) ∧ Below base w w' := by
  by_cases hm : mayP r q l = true
  · refine (push_ok base ok g v ls r q A c l off w h hb hok hr hc hl hm hn).mono ?_
    rintro e w' ⟨rfl, ⟨v', hs, _⟩, hk, hbl⟩
    unfold pushE pushL
    rw [if_pos hm, if_pos hm]
    exact ⟨rfl, ⟨v', hs⟩, hk, hbl⟩
  · refine (push_bad base ok g v ls r q A c l off w h hr hc (by simpa using hm)).mono ?_
    rintro e w' ⟨rfl, hbl⟩
    unfold pushE pushL
    rw [if_neg hm, if_neg hm]
    exact ⟨rfl, ⟨v, h.below hbl⟩, Kept.of_below hbl _, hbl.mono hb⟩
theorem rpush_any (base : Nat) (ok : Nat → Prop) (g : Nat) (vp vo va : Value) (ls : List Lv) (r q : Int) (A : Option Addr) (c : Nat) (l : List Ch) (off : Bool) (w : World) (h : Rf w base ok g vp vo va ls) (hb : base ≤ w.heap.size) (hok : ∀ k, w.heap.size ≤ k → ok k)
    (hr : Kd.C k43 w A l.length l) (hc : l.length ≤ c) (hl : l.length ≤ 1000) (hn : ls.length < 2000) :
    Calls Try.prog 8 #[.pointer (some ⟨g, 0, none⟩), .agg #[.int .i64 r, .int .i64 q, .slice A l.length c], .bool off] w fun e w' => e = .returned (.int .i64 (pushE r q l)) ∧ (∃ vp' vo' va', Rf w' base ok g vp' vo' va' (pushL r q l off ls)) ∧ Kept w w' (WrR g vp vo va) ∧ Below base w w' := by
  by_cases hm : mayP r q l = true
  · refine (rpush_ok base ok g vp vo va ls r q A c l off w h hb hok hr hc hl hm hn).mono ?_
    rintro e w' ⟨rfl, hs, hk, hbl⟩
    unfold pushE pushL
    rw [if_pos hm, if_pos hm]
    exact ⟨rfl, hs, hk, hbl⟩
  · refine (rpush_bad _ r q A c l off w hr hc (by simpa using hm)).mono ?_
    rintro e w' ⟨rfl, hbl⟩
    unfold pushE pushL
    rw [if_neg hm, if_neg hm]
    exact ⟨rfl, ⟨vp, vo, va, h.below hbl⟩, Kept.of_below hbl _, hbl.mono hb⟩
theorem cell_old {n : Nat} {W W' : World} {p : Addr} {v : Value} (hb : Below n W W') (hl : p.block < n) (h : W.cell? p = some v) : W'.cell? p = some v := (hb.cell hl).trans h
/-- which blocks the stacks may be, where a point was made between two worlds -/
def okP (n m : Nat) (k : Nat) : Prop := k < n ∨ m ≤ k
theorem Both.parted {b0 : Nat} {W W' : World} {sv wv : Value} {ls : List Lv} (h : Both b0 W (fun _ => True) sv wv ls) (hb : Below W.heap.size W W') : Both b0 W' (okP W.heap.size W'.heap.size) sv wv ls := by
  obtain ⟨g, v, g2, vp, vo, va, e1, e2, hs, hr, hf⟩ := h
  exact ⟨g, v, g2, vp, vo, va, e1, e2, (hs.bound.mono (fun k hk => .inl hk.2)).below hb, (hr.bound.mono (fun k hk => .inl hk.2)).below hb, hf⟩
/-- the point is as it was made -/
def PK (wr wc wx : World) (bp : Nat) (Ap : Option Addr) (cp : Nat) (r q : Int) (vals : List Ch) : Prop :=
  wx.heap[bp]? = some (.cells #[.int .i64 r, .int .i64 q, .slice Ap vals.length cp] 34 (0, 0)) ∧ (wr.heap.size ≤ bp ∧ bp < wc.heap.size) ∧ Kd.Q k43 43 wx wr.heap.size (fun k => wr.heap.size ≤ k ∧ k < wc.heap.size) (.slice Ap vals.length cp) vals ∧ wc.heap.size ≤ wx.heap.size
theorem PInfo.pk {wr wc : World} {bp : Nat} {Ap : Option Addr} {cp : Nat} {r q : Int} {vals : List Ch} (h : PInfo wr wc bp Ap cp r q vals) : PK wr wc wc bp Ap cp r q vals :=
  ⟨h.1, ⟨h.2.1, blk_lt h.1⟩, Kd.Q_of_R (Kd.R_mono (Kd.R_bound h.2.2.1) (fun k hk => ⟨hk.2.1, hk.2.2.1⟩)), Nat.le_refl _⟩
section
variable {wr wc W W' : World} {bp : Nat} {Ap : Option Addr} {cp : Nat} {r q : Int} {vals : List Ch} {base g g2 : Nat} {ok : Nat → Prop} {v vp vo va : Value} {ls : List Lv}
theorem PK.keep_s (h : PK wr wc W bp Ap cp r q vals) (hs : Sq W base ok g v ls) (hk : Kept W W' (WrS g v)) : PK wr wc W' bp Ap cp r q vals :=
  ⟨blk_keep_s h.1 hs (by decide) (by decide) hk, h.2.1, q_keep_s h.2.2.1 hs (by decide) (by decide) hk, Nat.le_trans h.2.2.2 hk.1⟩
theorem PK.keep_r (h : PK wr wc W bp Ap cp r q vals) (hs : Rf W base (okP wr.heap.size wc.heap.size) g2 vp vo va ls) (hk : Kept W W' (WrR g2 vp vo va)) : PK wr wc W' bp Ap cp r q vals := by
  have no : ∀ {u : Value}, (∀ k, u.ownBlock = some k → okP wr.heap.size wc.heap.size k) → some bp ≠ u.ownBlock := fun hu he => by
    have h1 := h.2.1
    rcases hu bp he.symm with h2 | h2 <;> omega
  refine ⟨blk_kept h.1 hk (fun hw => ?_), h.2.1, q_keep_r h.2.2.1 hs (by decide) (by decide) (by decide) (by decide) hk, Nat.le_trans h.2.2.2 hk.1⟩
  rcases hw with rfl | hw | hw | hw
  · have h2 := h.1
    rw [hs.blk] at h2
    injection h2 with h2
    injection h2 with _ h2
    exact absurd (show (31 : Nat) = 34 from h2) (by decide)
  · exact no hs.rp.1 hw
  · exact no hs.ro.1 hw
  · exact no hs.ra.1 hw
theorem PK.below (h : PK wr wc W bp Ap cp r q vals) (hb : Below W.heap.size W W') : PK wr wc W' bp Ap cp r q vals :=
  ⟨blk_below h.1 hb, h.2.1, Kd.Q_below h.2.2.1 hb, Nat.le_trans h.2.2.2 hb.size⟩
theorem PK.reads (h : PK wr wc W bp Ap cp r q vals) : vals.length ≤ cp ∧ Kd.C k43 W Ap vals.length vals := by
  have := Kd.Q_reads' h.2.2.1
  exact ⟨this.2.1, this.2.2⟩
end
theorem ch_set {W : World} {base2 b o n cp k : Nat} {ok : Nat → Prop} {xs : List Ch} (h : Kd.Q k43 43 W base2 ok (.slice (some ⟨b, o, none⟩) n cp) xs) (hk : k < n) (y : Int) :
    (∃ u : Int, W.cell? ⟨b, o + k * 5 + 3, none⟩ = some (.int .i64 u)) ∧ W.frozen? ⟨b, o + k * 5 + 3, none⟩ = false ∧ n ≤ cp ∧ ok b ∧ base2 ≤ b ∧ (∃ cells, W.heap[b]? = some (.cells cells 43 (0, 0))) ∧
    ∃ xs', xs'.length = xs.length ∧ Kd.Q k43 43 (W.setCell ⟨b, o + k * 5 + 3, none⟩ (.int .i64 y)) base2 ok (.slice (some ⟨b, o, none⟩) n cp) xs' := by
  obtain ⟨c, hcl, hM, hcc, hf⟩ := Kd.Q_elem h z43 (k : Int) (by omega) (by omega)
  rw [Int.toNat_natCast] at hM hcc hf
  have hce := k43_openM hM
  have hsz : (k43).sz = 5 := rfl
  rw [hsz] at hcc hf hcl
  have hb := Kd.Q_typed h b (by simp [Value.ownBlock])
  refine ⟨⟨_, hcc 3 _ (by rw [hce]; rfl)⟩, hf 3, (Kd.Q_reads' h).2.1, h.1 b (by simp [Value.ownBlock]), Kd.Q_base h b (by simp [Value.ownBlock]), hb, ?_⟩
  have hs := Kd.Q_seg h (k : Int) (by omega) (by omega) (c := c) (seg := [.int .i64 y]) (j := 3) (x' := { (xs.getD k z43) with f3 := y }) (okp := fun _ => False) (by rw [hsz]; exact hcl)
    (by rw [Int.toNat_natCast, hsz]; exact hcc) (by rw [hsz]; simp) (by
      rw [hce]
      exact k43_mkM W base2 _ { (xs.getD k z43) with f3 := y }) (fun _ h => h.elim)
  rw [Int.toNat_natCast, hsz] at hs
  exact ⟨_, by simp, hs.1⟩
theorem sp_set {W : World} {base2 b o n cp k : Nat} {ok : Nat → Prop} {xs : List Sp} (h : Kd.Q k49 49 W base2 ok (.slice (some ⟨b, o, none⟩) n cp) xs) (hk : k < n) (y : Int) :
    (∃ u : Int, W.cell? ⟨b, o + k * 8 + 1, none⟩ = some (.int .i64 u)) ∧ W.frozen? ⟨b, o + k * 8 + 1, none⟩ = false ∧ n ≤ cp ∧ base2 ≤ b ∧ (∃ cells, W.heap[b]? = some (.cells cells 49 (0, 0))) ∧
    ∃ xs', xs'.length = xs.length ∧ Kd.Q k49 49 (W.setCell ⟨b, o + k * 8 + 1, none⟩ (.int .i64 y)) base2 ok (.slice (some ⟨b, o, none⟩) n cp) xs' := by
  obtain ⟨c, hcl, hM, hcc, hf⟩ := Kd.Q_elem h z49 (k : Int) (by omega) (by omega)
  rw [Int.toNat_natCast] at hM hcc hf
  have hce := k49_openM hM
  have hsz : (k49).sz = 8 := rfl
  rw [hsz] at hcc hf hcl
  have hb := Kd.Q_typed h b (by simp [Value.ownBlock])
  refine ⟨⟨_, hcc 1 _ (by rw [hce]; rfl)⟩, hf 1, (Kd.Q_reads' h).2.1, Kd.Q_base h b (by simp [Value.ownBlock]), hb, ?_⟩
  have hs := Kd.Q_seg h (k : Int) (by omega) (by omega) (c := c) (seg := [.int .i64 y]) (j := 1) (x' := { (xs.getD k z49) with f1 := y }) (okp := fun _ => False) (by rw [hsz]; exact hcl)
    (by rw [Int.toNat_natCast, hsz]; exact hcc) (by rw [hsz]; simp) (by
      rw [hce]
      exact k49_mkM W base2 _ { (xs.getD k z49) with f1 := y }) (fun _ h => h.elim)
  rw [Int.toNat_natCast, hsz] at hs
  exact ⟨_, by simp, hs.1⟩
theorem ne_of_ty {W : World} {b g t t2 : Nat} {cells cells2 : Array Value} (hb : W.heap[b]? = some (.cells cells t (0, 0))) (hg : W.heap[g]? = some (.cells cells2 t2 (0, 0))) (h : t ≠ t2) : g ≠ b := by
  rintro rfl
  rw [hb] at hg
  injection hg with hg
  injection hg with _ hg
  exact h hg
section
variable {W : World} {base b j t g g2 : Nat} {ok : Nat → Prop} {v vp vo va : Value} {ls : List Lv} {cells : Array Value}
theorem kept_set (W : World) (b j : Nat) (u : Value) : Kept W (W.setCell ⟨b, j, none⟩ u) (fun k => k = b) := (Kept.refl W (fun k => k = b)).setCell (p := ⟨b, j, none⟩) (.inl rfl) u
theorem Sq.setb (h : Sq W base ok g v ls) (hb : W.heap[b]? = some (.cells cells t (0, 0))) (h1 : t ≠ 52) (hok : ∀ k, ok k → k ≠ b) (u : Value) : Sq (W.setCell ⟨b, j, none⟩ u) base ok g v ls :=
  h.keep_set (kept_set W b j u) (ne_of_ty hb h.blk h1) hok
theorem Rf.setb (h : Rf W base ok g2 vp vo va ls) (hb : W.heap[b]? = some (.cells cells t (0, 0))) (h1 : t ≠ 31) (hok : ∀ k, ok k → k ≠ b) (u : Value) : Rf (W.setCell ⟨b, j, none⟩ u) base ok g2 vp vo va ls :=
  h.keep_set (kept_set W b j u) (ne_of_ty hb h.blk h1) hok
theorem Sq.sett (h : Sq W base ok g v ls) (hb : W.heap[b]? = some (.cells cells 49 (0, 0))) (u : Value) : Sq (W.setCell ⟨b, j, none⟩ u) base ok g v ls :=
  ⟨blk_far h.blk (p := ⟨b, j, none⟩) (ne_of_ty hb h.blk (by decide)) u, h.hg, Kd.Q_set h.row hb (by decide) j u⟩
theorem Rf.sett (h : Rf W base ok g2 vp vo va ls) (hb : W.heap[b]? = some (.cells cells 49 (0, 0))) (u : Value) : Rf (W.setCell ⟨b, j, none⟩ u) base ok g2 vp vo va ls :=
  ⟨blk_far h.blk (p := ⟨b, j, none⟩) (ne_of_ty hb h.blk (by decide)) u, h.hg, Kd.Q_set h.rp hb (by decide) j u, Kd.Q_set h.ro hb (by decide) j u, Kd.Q_set h.ra hb (by decide) j u⟩
end
theorem pl_sets {W : World} {b i b6 : Nat} {v : Value} (h : W.cell? ⟨b, i, none⟩ = some v) (hne : b ≠ b6) (v0 v1 v2 : Value) : (((W.setCell ⟨b6, 0, none⟩ v0).setCell ⟨b6, 1, none⟩ v1).setCell ⟨b6, 2, none⟩ v2).cell? ⟨b, i, none⟩ = some v := keep_set (keep_set (keep_set h hne v0) hne v1) hne v2
set_option maxRecDepth 20000 in
set_option maxHeartbeats 40000000 in
theorem pathPlays_calls (A : Option Addr) (c : Nat) (l : List Act_) (w : World) (hr : Kd.C k36 w A l.length l) (hc : l.length ≤ c) :
    Calls Try.prog 3 #[.slice A l.length c] w fun e w' => e = .returned (.bool true) ∧ Below w.heap.size w w' := by
  have HR := Aside0.mk hr
  clear hr
  go_enter Try.func3, Try.ntmps3
  go_wp2_with fail
  refine (great_c A c l w HR.out hc).mono ?_
  rintro e w1 ⟨rfl, hb1⟩
  have HB1 := Aside0.mk hb1
  clear hb1
  cases hG : greatB l with
  | true =>
    go_wp2
    go_ret
    exact ⟨rfl, HB1.out⟩
  | false =>
    obtain ⟨hl2, hv2⟩ := great_not hG
    have HV := Aside0.mk hv2
    clear hv2 hG
    go_wp2_with fail
    refine (new_calls w1 (fun _ => True)).mono ?_
    rintro e w2 ⟨rfl, hst, hb2⟩
    have HBo := Aside0.mk (both_new w1 w.heap.size HB1.out.size hst hb2)
    have HB3 := Aside0.mk (below_alloc (below_then HB1.out HB1.out.size hb2) (.cells #[.slice none 0 0, .slice none 0 0, .slice none 0 0] 31))
    clear hst hb2
    go_wp2_with fail
    generalize w2.alloc (.cells #[.slice none 0 0, .slice none 0 0, .slice none 0 0] 31) = w3 at HBo HB3 ⊢
    go_loopw [3, 4, 5] (fun v3 v4 v5 wr => ∃ (i : Nat) (ls : List Lv), i ≤ l.length ∧ v5 = .int .i64 i ∧ Aside0 (Both w.heap.size wr (fun _ => True) v3 v4 ls) ∧ Aside0 (ls.length ≤ i) ∧ Aside0 (Below w.heap.size w wr)) (fun _ _ v5 _ => l.length - (intOf v5).toNat)
    case atStart => exact ⟨0, [], by omega, rfl, HBo, ⟨by simp⟩, HB3⟩
    case round =>
      obtain ⟨i, ls, hi, rfl, HBo, HLn, HB⟩ := hrel
      clear HB1 HB3
      by_cases hlt : i < l.length
      · obtain ⟨ad, A3, c3, rfl, a0, a1, a2, a3, a4, hlc3, hC3⟩ := at_T36 HR.out i (by omega) (by omega)
        rw [Int.toNat_natCast] at a0 a1 a2 a3 a4
        have hv3 := (HV.out (rd_T36 l (i : Int)) (by simp [rd_T36, hlt]))
        have HLW : Aside0 ((ad.add (i * 5)).block < w.heap.size) := ⟨World.block_lt_of_cell? w _ a0⟩
        have HLB : Aside0 ((ad.add (i * 5)).block < wr.heap.size) := ⟨Nat.lt_of_lt_of_le HLW.out HB.out.size⟩
        have hl8 := Int.toNat_natCast i
        generalize rd_T36 l (i : Int) = act at a0 a1 a2 a3 a4 hlc3 hC3 hv3
        obtain ⟨kd, ⟨r, q, vals⟩, off⟩ := act
        dsimp only at a0 a1 a2 a3 a4 hlc3 hC3 hv3
        have HCw := Aside0.mk hC3
        have HC3 := Aside0.mk (Kd.C_below hC3 HB.out)
        have a0 := pw_cell_below HB.out a0
        have a1 := pw_cell_below HB.out a1
        have a2 := pw_cell_below HB.out a2
        have a3 := pw_cell_below HB.out a3
        have a4 := pw_cell_below HB.out a4
        clear hC3
        go_upto_region 9 with (fail)
        go_cut [6] (fun v6 wx => ∃ bp Ap cp, v6 = .pointer (some ⟨bp, 0, none⟩) ∧ PInfo wr wx bp Ap cp r q vals)
        case first =>
          go_region_held3 (fun W => W.cell? ⟨(ad.add (i * 5)).block, (ad.add (i * 5)).off + 1, none⟩ = some (.int .i64 r) ∧ W.cell? ⟨(ad.add (i * 5)).block, (ad.add (i * 5)).off + 2, none⟩ = some (.int .i64 q) ∧ W.cell? ⟨(ad.add (i * 5)).block, (ad.add (i * 5)).off + 3, none⟩ = some (.slice A3 vals.length c3))
            (first | exact ⟨k1, k2, k3⟩ | exact ⟨cell_alloc1 k1 _, cell_alloc1 k2 _, cell_alloc1 k3 _⟩ | exact ⟨a1, a2, a3⟩ | exact ⟨cell_alloc1 a1 _, cell_alloc1 a2 _, cell_alloc1 a3 _⟩ | exact ⟨cell_alloc2 a1 _ _, cell_alloc2 a2 _ _, cell_alloc2 a3 _ _⟩ | exact ⟨pl_sets k1 (by have := HLB.out; omega) _ _ _, pl_sets k2 (by have := HLB.out; omega) _ _ _, pl_sets k3 (by have := HLB.out; omega) _ _ _⟩ | go_keep)
            (first | (refine app_new_step (Rr := Kd.K k43 wr) k43 wr.heap.size _ (by rfl) (.tmp 36) (.tmp 42) 32 43 (.agg #[.int .i64 0, .int .i64 0, .int .i64 0, .int .i64 0, .int .i64 0]) 40 (by rfl) (by rfl) Try.underlying32 infoC (by rfl) (by decide) (by omega) vals A3 vals.length c3 (fun k => wr.heap.size ≤ k) (fun _ => False) (by rfl) (by rfl) (by first | exact c1_0 wr.drew _ | exact c2_0 wr.drew _ _ | exact c2_1 wr.drew _ _) (by omega) (by omega) (rr_keep HC3.out (by first | exact bw1 _ _ | exact bw2 _ _ _)) (fun _ _ h => h) (fun _ h => h.elim) (fun k hk => cp_sz (by first | exact bw1 _ _ | exact bw2 _ _ _) hk) (by omega) ?_; intro v5 w5 hr5 hat hbl hkp; obtain ⟨Ap, cp, rfl, hlp, _⟩ := Kd.R_reads hr5; have k1 := pw_cell_below (cp_bel (n := wr.heap.size) (w := wr) (by first | exact bw1 _ _ | exact bw2 _ _ _) hbl (by omega)) a1; have k2 := pw_cell_below (cp_bel (n := wr.heap.size) (w := wr) (by first | exact bw1 _ _ | exact bw2 _ _ _) hbl (by omega)) a2; have k3 := pw_cell_below (cp_bel (n := wr.heap.size) (w := wr) (by first | exact bw1 _ _ | exact bw2 _ _ _) hbl (by omega)) a3; (first | (have h6 : w5.heap[wr.heap.size]? = some (.cells #[.int .i64 0, .int .i64 0, .slice none 0 0] 34 (0, 0)) := blk_keptb (by first | exact c2_0 wr.drew _ _) hkp (by omega); have z0 : w5.cell? ⟨wr.heap.size, 0, none⟩ = some (.int .i64 0) := (blk_cell h6 0).trans rfl; have z1 : w5.cell? ⟨wr.heap.size, 1, none⟩ = some (.int .i64 0) := (blk_cell h6 1).trans rfl; have z2 : w5.cell? ⟨wr.heap.size, 2, none⟩ = some (.slice none 0 0) := (blk_cell h6 2).trans rfl; have y0 := blk_frozen h6 0; have y1 := blk_frozen h6 1; have y2 := blk_frozen h6 2; have PI := Aside0.mk (pinfo_set (r := r) (q := q) (by first | exact bw1 _ _ | exact bw2 _ _ _) hr5 hbl (by omega) h6 (by omega))) | (have h6 : w5.heap[wr.heap.size + 1]? = some (.cells #[.int .i64 0, .int .i64 0, .slice none 0 0] 34 (0, 0)) := blk_keptb (by first | exact c2_1 wr.drew _ _) hkp (by omega); have z0 : w5.cell? ⟨wr.heap.size + 1, 0, none⟩ = some (.int .i64 0) := (blk_cell h6 0).trans rfl; have z1 : w5.cell? ⟨wr.heap.size + 1, 1, none⟩ = some (.int .i64 0) := (blk_cell h6 1).trans rfl; have z2 : w5.cell? ⟨wr.heap.size + 1, 2, none⟩ = some (.slice none 0 0) := (blk_cell h6 2).trans rfl; have y0 := blk_frozen h6 0; have y1 := blk_frozen h6 1; have y2 := blk_frozen h6 2; have PI := Aside0.mk (pinfo_set (r := r) (q := q) (by first | exact bw1 _ _ | exact bw2 _ _ _) hr5 hbl (by omega) h6 (by omega))) | (have PI := Aside0.mk (pinfo_late (r := r) (q := q) (by first | exact bw1 _ _ | exact bw2 _ _ _) hr5 hbl (by omega)))); clear hr5 hat hbl hkp))
          all_goals (
            go_wp2_with fail
            go_meet
            exact ⟨_, _, _, rfl, PI.out⟩)
        case rest =>
          obtain ⟨wp, rfl⟩ : ∃ wp : World, wp = wc := ⟨_, rfl⟩
          obtain ⟨bp, Ap, cp, rfl, hpi⟩ := hcut
          have HPI := Aside0.mk hpi
          have hbp := hpi.2.1
          have hp0 : wp.cell? ⟨bp, 0, none⟩ = some (.int .i64 r) := (blk_cell hpi.1 0).trans rfl
          have hp1 : wp.cell? ⟨bp, 1, none⟩ = some (.int .i64 q) := (blk_cell hpi.1 1).trans rfl
          have hp2 : wp.cell? ⟨bp, 2, none⟩ = some (.slice Ap vals.length cp) := (blk_cell hpi.1 2).trans rfl
          have HBw := Aside0.mk hpi.2.2.2
          have a0 := pw_cell_below HBw.out a0
          have a1 := pw_cell_below HBw.out a1
          have a2 := pw_cell_below HBw.out a2
          have a3 := pw_cell_below HBw.out a3
          have a4 := pw_cell_below HBw.out a4
          have HC4 := Aside0.mk (Kd.C_below HC3.out HBw.out)
          have HBc := Aside0.mk (HBo.out.parted HBw.out)
          have HB4 := Aside0.mk (below_then HB.out HB.out.size HBw.out)
          clear hpi
          go_upto_block 2 with (fail)
          go_cut [3, 4] (fun v3 v4 wx => ∃ ls', Both w.heap.size wx (okP wr.heap.size wp.heap.size) v3 v4 ls' ∧ ls'.length ≤ i + 1 ∧ PK wr wp wx bp Ap cp r q vals ∧ Below w.heap.size w wx)
          case first =>
            obtain ⟨g, v, g2, vp, vo, va, rfl, rfl, hs, hr, hft⟩ := HBc.out
            have HSq := Aside0.mk hs
            have HRf := Aside0.mk hr
            have HFt := Aside0.mk hft
            have HPK := Aside0.mk HPI.out.pk
            clear hs hr hft
            have hne : (pushE r q vals != pushE r q vals) = false := by simp
            by_cases hm0 : kd.tmod 4 = 0
            · have hd0 : (kd.tmod 4 == 0) = true := by simpa using hm0
              clear hm0
              go_upto_region 17 with (fail)
              have HSqd : Aside0 (Sq wp.drew w.heap.size (okP wr.heap.size wp.heap.size) g v ls) := ⟨HSq.out.below (below_drew (Below.refl _ _))⟩
              have HRfd := Aside0.mk HRf.out.drew
              have HPKd : Aside0 (PK wr wp wp.drew bp Ap cp r q vals) := ⟨HPK.out.below (below_drew (Below.refl _ _))⟩
              have HB4d : Aside0 (Below w.heap.size w wp.drew) := ⟨below_drew HB4.out⟩
              have PA := Aside0.mk (push_any w.heap.size (okP wr.heap.size wp.heap.size) g v ls r q Ap cp vals off wp.drew (HSq.out.below (below_drew (Below.refl _ _))) HB4.out.size (fun k hk => .inr hk) (C_drew HPK.out.reads.2) HPK.out.reads.1 (by omega) (by have := HLn.out; omega))
              go_region_held3 (fun W => W.cell? ⟨bp, 0, none⟩ = some (.int .i64 r) ∧ W.cell? ⟨bp, 1, none⟩ = some (.int .i64 q) ∧ W.cell? ⟨bp, 2, none⟩ = some (.slice Ap vals.length cp) ∧ W.cell? ⟨(ad.add (i * 5)).block, (ad.add (i * 5)).off + 1, none⟩ = some (.int .i64 r) ∧ W.cell? ⟨(ad.add (i * 5)).block, (ad.add (i * 5)).off + 2, none⟩ = some (.int .i64 q) ∧ W.cell? ⟨(ad.add (i * 5)).block, (ad.add (i * 5)).off + 3, none⟩ = some (.slice A3 vals.length c3) ∧ W.cell? ⟨(ad.add (i * 5)).block, (ad.add (i * 5)).off + 4, none⟩ = some (.bool off))
                (first | exact ⟨y0, y1, y2, y3, y4, y5, y6⟩ | exact ⟨x0, x1, x2, x3, x4, x5, x6⟩ | exact ⟨hp0, hp1, hp2, a1, a2, a3, a4⟩)
                (first | (go_at_call 7; refine PA.out.mono ?_; rintro e w5 ⟨rfl, ⟨v5, hs5⟩, hk5, hb5⟩; have HS5 := Aside0.mk hs5; have HR5 := Aside0.mk (HRfd.out.keep_s HSqd.out hk5); have HP5 := Aside0.mk (HPKd.out.keep_s HSqd.out hk5); have HB5 := Aside0.mk (HB4d.out.trans hb5); have HBk5 := Aside0.mk hb5; have HZ5 := Aside0.mk hk5.1; have x0 : w5.cell? ⟨bp, 0, none⟩ = some (.int .i64 r) := (blk_cell HP5.out.1 0).trans rfl; have x1 : w5.cell? ⟨bp, 1, none⟩ = some (.int .i64 q) := (blk_cell HP5.out.1 1).trans rfl; have x2 : w5.cell? ⟨bp, 2, none⟩ = some (.slice Ap vals.length cp) := (blk_cell HP5.out.1 2).trans rfl; have x3 := cell_old (p := ⟨(ad.add (i * 5)).block, (ad.add (i * 5)).off + 1, none⟩) HBk5.out HLW.out a1; have x4 := cell_old (p := ⟨(ad.add (i * 5)).block, (ad.add (i * 5)).off + 2, none⟩) HBk5.out HLW.out a2; have x5 := cell_old (p := ⟨(ad.add (i * 5)).block, (ad.add (i * 5)).off + 3, none⟩) HBk5.out HLW.out a3; have x6 := cell_old (p := ⟨(ad.add (i * 5)).block, (ad.add (i * 5)).off + 4, none⟩) HBk5.out HLW.out a4; clear hs5 hk5 hb5) | (go_at_call 8; refine (rpush_any w.heap.size (okP wr.heap.size wp.heap.size) g2 vp vo va ls r q A3 c3 vals off w5 HR5.out HB5.out.size (fun k hk => .inr (Nat.le_trans HP5.out.2.2.2 hk)) (Kd.C_below HCw.out HB5.out) hlc3 (by omega) (by have := HLn.out; omega)).mono ?_; rintro e w6 ⟨rfl, ⟨vp6, vo6, va6, hr6⟩, hk6, hb6⟩; have HR6 := Aside0.mk hr6; have HS6 := Aside0.mk (HS5.out.keep_r HR5.out hk6); have HP6 := Aside0.mk (HP5.out.keep_r HR5.out hk6); have HB6 := Aside0.mk (HB5.out.trans hb6); have HBk6 := Aside0.mk (HBk5.out.trans hb6); have y0 : w6.cell? ⟨bp, 0, none⟩ = some (.int .i64 r) := (blk_cell HP6.out.1 0).trans rfl; have y1 : w6.cell? ⟨bp, 1, none⟩ = some (.int .i64 q) := (blk_cell HP6.out.1 1).trans rfl; have y2 : w6.cell? ⟨bp, 2, none⟩ = some (.slice Ap vals.length cp) := (blk_cell HP6.out.1 2).trans rfl; have y3 := cell_old (p := ⟨(ad.add (i * 5)).block, (ad.add (i * 5)).off + 1, none⟩) HBk6.out HLW.out a1; have y4 := cell_old (p := ⟨(ad.add (i * 5)).block, (ad.add (i * 5)).off + 2, none⟩) HBk6.out HLW.out a2; have y5 := cell_old (p := ⟨(ad.add (i * 5)).block, (ad.add (i * 5)).off + 3, none⟩) HBk6.out HLW.out a3; have y6 := cell_old (p := ⟨(ad.add (i * 5)).block, (ad.add (i * 5)).off + 4, none⟩) HBk6.out HLW.out a4; clear hr6 hk6 hb6))
              have HFIN := Aside0.mk (pushL_fit (r := r) (q := q) (off := off) HFt.out (show vals.length ≤ 1000 by omega))
              clear y0 y1 y2 y3 y4 y5 y6 x0 x1 x2 x3 x4 x5 x6
              go_wp2_with fail
              go_meet
              exact ⟨_, ⟨_, _, _, _, _, _, rfl, rfl, HS6.out, HR6.out, HFIN.out⟩, Nat.le_trans (pushL_len _ _ _ _ _) (by have := HLn.out; omega), HP6.out, HB6.out⟩
            by_cases hm1 : kd.tmod 4 = 1
            · have hd0 : (kd.tmod 4 == 0) = false := by simpa using hm0
              have hd1 : (kd.tmod 4 == 1) = true := by simpa using hm1
              clear hm0 hm1
              go_upto_region 17 with (fail)
              have HSqd : Aside0 (Sq wp.drew w.heap.size (okP wr.heap.size wp.heap.size) g v ls) := ⟨HSq.out.below (below_drew (Below.refl _ _))⟩
              have HRfd := Aside0.mk HRf.out.drew
              have HPKd : Aside0 (PK wr wp wp.drew bp Ap cp r q vals) := ⟨HPK.out.below (below_drew (Below.refl _ _))⟩
              have HB4d : Aside0 (Below w.heap.size w wp.drew) := ⟨below_drew HB4.out⟩
              have PA := Aside0.mk (push_any w.heap.size (okP wr.heap.size wp.heap.size) g v ls r q Ap cp vals off wp.drew (HSq.out.below (below_drew (Below.refl _ _))) HB4.out.size (fun k hk => .inr hk) (C_drew HPK.out.reads.2) HPK.out.reads.1 (by omega) (by have := HLn.out; omega))
              go_region_held3 (fun W => W.cell? ⟨bp, 0, none⟩ = some (.int .i64 r) ∧ W.cell? ⟨bp, 1, none⟩ = some (.int .i64 q) ∧ W.cell? ⟨bp, 2, none⟩ = some (.slice Ap vals.length cp) ∧ W.cell? ⟨(ad.add (i * 5)).block, (ad.add (i * 5)).off + 1, none⟩ = some (.int .i64 r) ∧ W.cell? ⟨(ad.add (i * 5)).block, (ad.add (i * 5)).off + 2, none⟩ = some (.int .i64 q) ∧ W.cell? ⟨(ad.add (i * 5)).block, (ad.add (i * 5)).off + 3, none⟩ = some (.slice A3 vals.length c3) ∧ W.cell? ⟨(ad.add (i * 5)).block, (ad.add (i * 5)).off + 4, none⟩ = some (.bool off))
                (first | exact ⟨y0, y1, y2, y3, y4, y5, y6⟩ | exact ⟨x0, x1, x2, x3, x4, x5, x6⟩ | exact ⟨hp0, hp1, hp2, a1, a2, a3, a4⟩)
                (first | (go_at_call 7; refine PA.out.mono ?_; rintro e w5 ⟨rfl, ⟨v5, hs5⟩, hk5, hb5⟩; have HS5 := Aside0.mk hs5; have HR5 := Aside0.mk (HRfd.out.keep_s HSqd.out hk5); have HP5 := Aside0.mk (HPKd.out.keep_s HSqd.out hk5); have HB5 := Aside0.mk (HB4d.out.trans hb5); have HBk5 := Aside0.mk hb5; have HZ5 := Aside0.mk hk5.1; have x0 : w5.cell? ⟨bp, 0, none⟩ = some (.int .i64 r) := (blk_cell HP5.out.1 0).trans rfl; have x1 : w5.cell? ⟨bp, 1, none⟩ = some (.int .i64 q) := (blk_cell HP5.out.1 1).trans rfl; have x2 : w5.cell? ⟨bp, 2, none⟩ = some (.slice Ap vals.length cp) := (blk_cell HP5.out.1 2).trans rfl; have x3 := cell_old (p := ⟨(ad.add (i * 5)).block, (ad.add (i * 5)).off + 1, none⟩) HBk5.out HLW.out a1; have x4 := cell_old (p := ⟨(ad.add (i * 5)).block, (ad.add (i * 5)).off + 2, none⟩) HBk5.out HLW.out a2; have x5 := cell_old (p := ⟨(ad.add (i * 5)).block, (ad.add (i * 5)).off + 3, none⟩) HBk5.out HLW.out a3; have x6 := cell_old (p := ⟨(ad.add (i * 5)).block, (ad.add (i * 5)).off + 4, none⟩) HBk5.out HLW.out a4; clear hs5 hk5 hb5) | (go_at_call 8; refine (rpush_any w.heap.size (okP wr.heap.size wp.heap.size) g2 vp vo va ls r q A3 c3 vals off w5 HR5.out HB5.out.size (fun k hk => .inr (Nat.le_trans HP5.out.2.2.2 hk)) (Kd.C_below HCw.out HB5.out) hlc3 (by omega) (by have := HLn.out; omega)).mono ?_; rintro e w6 ⟨rfl, ⟨vp6, vo6, va6, hr6⟩, hk6, hb6⟩; have HR6 := Aside0.mk hr6; have HS6 := Aside0.mk (HS5.out.keep_r HR5.out hk6); have HP6 := Aside0.mk (HP5.out.keep_r HR5.out hk6); have HB6 := Aside0.mk (HB5.out.trans hb6); have HBk6 := Aside0.mk (HBk5.out.trans hb6); have y0 : w6.cell? ⟨bp, 0, none⟩ = some (.int .i64 r) := (blk_cell HP6.out.1 0).trans rfl; have y1 : w6.cell? ⟨bp, 1, none⟩ = some (.int .i64 q) := (blk_cell HP6.out.1 1).trans rfl; have y2 : w6.cell? ⟨bp, 2, none⟩ = some (.slice Ap vals.length cp) := (blk_cell HP6.out.1 2).trans rfl; have y3 := cell_old (p := ⟨(ad.add (i * 5)).block, (ad.add (i * 5)).off + 1, none⟩) HBk6.out HLW.out a1; have y4 := cell_old (p := ⟨(ad.add (i * 5)).block, (ad.add (i * 5)).off + 2, none⟩) HBk6.out HLW.out a2; have y5 := cell_old (p := ⟨(ad.add (i * 5)).block, (ad.add (i * 5)).off + 3, none⟩) HBk6.out HLW.out a3; have y6 := cell_old (p := ⟨(ad.add (i * 5)).block, (ad.add (i * 5)).off + 4, none⟩) HBk6.out HLW.out a4; clear hr6 hk6 hb6))
              have HFIN := Aside0.mk (pushL_fit (r := r) (q := q) (off := off) HFt.out (show vals.length ≤ 1000 by omega))
              clear y0 y1 y2 y3 y4 y5 y6 x0 x1 x2 x3 x4 x5 x6
              go_wp2_with fail
              go_meet
              exact ⟨_, ⟨_, _, _, _, _, _, rfl, rfl, HS6.out, HR6.out, HFIN.out⟩, Nat.le_trans (pushL_len _ _ _ _ _) (by have := HLn.out; omega), HP6.out, HB6.out⟩
            have hd0 : (kd.tmod 4 == 0) = false := by simpa using hm0
            have hd1 : (kd.tmod 4 == 1) = false := by simpa using hm1
            by_cases hm2 : kd.tmod 4 = 2
            · have hd2 : (kd.tmod 4 == 2) = true := by simpa using hm2
              clear hm0 hm1 hm2
              have hnb : (decide (0 < (nextF ls).length) != decide (0 < (nextF ls).length)) = false := by simp
              go_wp2_with fail
              refine (next_ok w.heap.size (okP wr.heap.size wp.heap.size) g v ls wp HSq.out HFt.out).mono ?_
              rintro e w5 ⟨rfl, ⟨v5, hs5, _⟩, hk5, hb5⟩
              have HS5 := Aside0.mk hs5
              have HR5 := Aside0.mk (HRf.out.keep_s HSq.out hk5)
              have HP5 := Aside0.mk (HPK.out.keep_s HSq.out hk5)
              have HB5 := Aside0.mk (HB4.out.trans hb5)
              clear hs5 hk5 hb5
              go_wp2_with fail
              refine (rnext_ok w.heap.size (okP wr.heap.size wp.heap.size) g2 vp vo va ls w5 HR5.out HFt.out).mono ?_
              rintro e w6 ⟨rfl, ⟨vp6, vo6, va6, hr6, _⟩, hk6, hb6⟩
              have HR6 := Aside0.mk hr6
              have HS6 := Aside0.mk (HS5.out.keep_r HR5.out hk6)
              have HP6 := Aside0.mk (HP5.out.keep_r HR5.out hk6)
              have HB6 := Aside0.mk (HB5.out.trans hb6)
              have HFIN := Aside0.mk (nextF_fit HFt.out)
              clear hr6 hk6 hb6
              go_wp2_with fail
              go_meet
              exact ⟨_, ⟨_, _, _, _, _, _, rfl, rfl, HS6.out, HR6.out, HFIN.out⟩, Nat.le_trans (nextF_le _) (by have := HLn.out; omega), HP6.out, HB6.out⟩
            · have hd2 : (kd.tmod 4 == 2) = false := by simpa using hm2
              clear hm0 hm1 hm2
              have hln := HLn.out
              have HG := Aside0.mk (blk_lt HSq.out.blk)
              have HVO := Aside0.mk (Kd.Q_lt HSq.out.row)
              go_wp2_with fail
              refine (copy_ok w.heap.size (okP wr.heap.size wp.heap.size) g v ls wp HSq.out (by omega)).mono ?_
              rintro e w5 ⟨g', v', rfl, hs5, hg', hv', hb5⟩
              have HS5 := Aside0.mk hs5
              have HG5 := Aside0.mk hg'
              have HO5 := Aside0.mk (HSq.out.below hb5)
              have HR5 := Aside0.mk (HRf.out.below hb5)
              have HP5 := Aside0.mk (HPK.out.below hb5)
              have HB5 := Aside0.mk (below_then HB4.out HB4.out.size hb5)
              have HZ5 := Aside0.mk hb5.size
              clear hs5 hg' hv' hb5
              go_wp2_with fail
              refine (rcopy_ok w.heap.size (okP wr.heap.size wp.heap.size) g2 vp vo va ls w5 HR5.out HB5.out.size (by omega)).mono ?_
              rintro e w6 ⟨g2', vp', vo', va', rfl, hr6, hg2', hvp', hvo', hva', hb6⟩
              have HR6 := Aside0.mk hr6
              have HS6 := Aside0.mk (HS5.out.below hb6)
              have HO6 := Aside0.mk (HO5.out.below hb6)
              have HP6 := Aside0.mk (HP5.out.below hb6)
              have HB6 := Aside0.mk (below_then HB5.out HB5.out.size hb6)
              clear hr6 hg2' hvp' hvo' hva' hb6 hp0 hp1 hp2 a0 a1 a2 a3 a4
              go_wp2_with fail
              refine (next_ok w.heap.size (okP wr.heap.size wp.heap.size) g v ls w6 HO6.out HFt.out).mono ?_
              rintro e w7 ⟨rfl, ⟨v7, hs7, ho7⟩, hk7, hb7⟩
              have HS7 := Aside0.mk (HS6.out.keep_old HO6.out HG.out HVO.out HG5.out hk7)
              have HR7 := Aside0.mk (HR6.out.keep_s HO6.out hk7)
              have HP7 := Aside0.mk (HP6.out.keep_s HO6.out hk7)
              have HB7 := Aside0.mk (HB6.out.trans hb7)
              have HO7 := Aside0.mk hs7
              have HV7 := Aside0.mk ho7
              have hp0 : w7.cell? ⟨bp, 0, none⟩ = some (.int .i64 r) := (blk_cell HP7.out.1 0).trans rfl
              have hp1 : w7.cell? ⟨bp, 1, none⟩ = some (.int .i64 q) := (blk_cell HP7.out.1 1).trans rfl
              have hp2 : w7.cell? ⟨bp, 2, none⟩ = some (.slice Ap vals.length cp) := (blk_cell HP7.out.1 2).trans rfl
              have hnl := nextF_le ls
              clear hs7 ho7 hk7 hb7
              go_wp2_with fail
              refine (push_any w.heap.size (okP wr.heap.size wp.heap.size) g v7 (nextF ls) r q Ap cp vals true w7 HO7.out HB7.out.size (fun k hk => .inr (Nat.le_trans HP7.out.2.2.2 hk)) HP7.out.reads.2 HP7.out.reads.1 (by omega) (by omega)).mono ?_
              rintro e w8 ⟨rfl, ⟨v8, hs8⟩, hk8, hb8⟩
              have hk8' : Kept w7 w8 (WrS g v) := hk8.mono (fun k hk => hk.imp id (fun h => by rw [← HV7.out]; exact h))
              have HS8 := Aside0.mk (HS7.out.keep_old HO7.out HG.out HVO.out HG5.out hk8')
              have HR8 := Aside0.mk (HR7.out.keep_s HO7.out hk8)
              have HP8 := Aside0.mk (HP7.out.keep_s HO7.out hk8)
              have HB8 := Aside0.mk (HB7.out.trans hb8)
              clear hs8 hk8 hk8' hb8 hp0 hp1 hp2
              go_wp2_with fail
              go_meet
              exact ⟨_, ⟨_, _, _, _, _, _, rfl, rfl, HS8.out.mono (fun k hk => hk.elim And.left .inr), HR8.out.mono (fun k hk => hk.elim And.left (fun h => .inr (Nat.le_trans HZ5.out h))), HFt.out⟩, by omega, HP8.out, HB8.out⟩
          case rest =>
            obtain ⟨ls', hbo, hln, hpk, hbl⟩ := hcut
            obtain ⟨wq, rfl⟩ : ∃ wq : World, wq = wc := ⟨_, rfl⟩
            obtain ⟨wo, rfl⟩ : ∃ wo : World, wo = wr := ⟨_, rfl⟩
            have HBo2 := Aside0.mk HB.out.size
            clear HBc HPI hbp hp0 hp1 hp2 HBw a0 a1 a2 a3 a4 HC4 HB4 HB HBo HC3
            obtain ⟨g, v, g2, vp, vo, va, rfl, rfl, hs, hr, hft⟩ := hbo
            have HSq := Aside0.mk hs
            have HRf := Aside0.mk hr
            have HFt := Aside0.mk hft
            have HPb := Aside0.mk hpk.1
            have HPr := Aside0.mk hpk.2.2.1
            have HLn2 := Aside0.mk hln
            have HB2 := Aside0.mk hbl
            have hlen' : ls'.length ≤ 2000 := by omega
            clear hs hr hft hpk hln hbl
            go_wp2_with fail
            go_loopw [8] (fun v8 wx => ∃ (k : Nat) (xs : List Ch), k ≤ vals.length ∧ v8 = .int .i64 k ∧ Aside0 (xs.length = vals.length) ∧ Aside0 (Sq wx w.heap.size (okP wo.heap.size wp.heap.size) g v ls') ∧ Aside0 (Rf wx w.heap.size (okP wo.heap.size wp.heap.size) g2 vp vo va ls') ∧
              Aside0 (wx.heap[bp]? = some (.cells #[.int .i64 r, .int .i64 q, .slice Ap vals.length cp] 34 (0, 0))) ∧ Aside0 (Kd.Q k43 43 wx wo.heap.size (fun k => wo.heap.size ≤ k ∧ k < wp.heap.size) (.slice Ap vals.length cp) xs) ∧ Aside0 (Below w.heap.size w wx)) (fun v8 _ => vals.length - (intOf v8).toNat)
            case atStart => exact ⟨0, vals, by omega, rfl, ⟨rfl⟩, HSq, HRf, HPb, HPr, HB2⟩
            case round =>
              obtain ⟨k, xs, hk, rfl, HX, HSq, HRf, HPb, HPr, HB2⟩ := hrel
              have hq2 : wr.cell? ⟨bp, 2, none⟩ = some (.slice Ap vals.length cp) := (blk_cell HPb.out 2).trans rfl
              by_cases hkl : k < vals.length
              · obtain ⟨b, o, cq, hav, _⟩ := Kd.Q_form HPr.out (by have := HX.out; omega)
                injection hav with h1 h2 h3
                subst h1
                obtain ⟨⟨u, hcu⟩, hfu, hncp, hokb, hbb, ⟨cells, hcb⟩, xs', hxl, hq⟩ := ch_set HPr.out hkl (-7)
                have HQ := Aside0.mk hq
                have HXL := Aside0.mk (hxl.trans HX.out)
                have hokn : ∀ k, okP wo.heap.size wp.heap.size k → k ≠ b := fun k hk => by rcases hk with hk | hk <;> omega
                have HSn := Aside0.mk (HSq.out.setb (j := o + k * 5 + 3) hcb (by decide) hokn (.int .i64 (-7)))
                have HRn := Aside0.mk (HRf.out.setb (j := o + k * 5 + 3) hcb (by decide) hokn (.int .i64 (-7)))
                have HPn := Aside0.mk (blk_far HPb.out (p := ⟨b, o + k * 5 + 3, none⟩) (ne_of_ty hcb HPb.out (by decide)) (.int .i64 (-7)))
                have HBn := Aside0.mk (HB2.out.setCell (p := ⟨b, o + k * 5 + 3, none⟩) (Nat.le_trans HBo2.out hbb) (.int .i64 (-7)))
                have hk8 := Int.toNat_natCast k
                clear hq hxl hokn hcb hokb hbb h2 h3
                go_wp2
                go_roundw
                case rel => exact ⟨k + 1, xs', by omega, by go_num, HXL, HSn, HRn, HPn, HQ, HBn⟩
                case measure => simp [intOf]; omega
              · obtain rfl : k = vals.length := by omega
                obtain ⟨Ag, cg, Ao, co, Aa, ca, rfl, rfl, rfl, hlg, _, _⟩ := HRf.out.forms
                have hg0 : wr.cell? ⟨g2, 0, none⟩ = some (.slice Ag ls'.length cg) := (blk_cell HRf.out.blk 0).trans rfl
                have hne1 : ((ls'.length : Int) != (ls'.length : Int)) = false := by simp
                have hne2 : (leftI ls' != leftI ls') = false := by simp
                have PD := Aside0.mk (depth_calls w.heap.size (okP wo.heap.size wp.heap.size) g v ls' wr.drew (HSq.out.below (below_drew (Below.refl _ _))))
                have PL := Aside0.mk (left_ok w.heap.size (okP wo.heap.size wp.heap.size) g v ls' wr.drew (HSq.out.below (below_drew (Below.refl _ _))) HFt.out hlen')
                go_upto_region 26 with (fail)
                go_region_held3 (fun W => W.cell? ⟨g2, 0, none⟩ = some (.slice Ag ls'.length cg))
                  (first | exact hg0 | exact x0 | exact x1)
                  (first | (go_at_call 13; refine PD.out.mono ?_; rintro e w' ⟨rfl, rfl⟩) | (go_at_call 14; refine PL.out.mono ?_; rintro e w5 ⟨rfl, hb5⟩; have HB5 := Aside0.mk (below_of_drew hb5); have x0 := pw_cell_below HB5.out hg0; clear hb5) | (go_at_call 15; refine (rleft_ok w.heap.size (okP wo.heap.size wp.heap.size) g2 _ _ _ ls' w5 (HRf.out.below HB5.out) HFt.out hlen').mono ?_; rintro e w6 ⟨rfl, hb6⟩; have HB6 := Aside0.mk (below_then HB5.out HB5.out.size hb6); have x1 := pw_cell_below HB6.out hg0; clear hb6))
                clear x0 x1 hg0 hq2
                have HSq6 := Aside0.mk (HSq.out.below HB6.out)
                have HRf6 := Aside0.mk (HRf.out.below HB6.out)
                have HB26 := Aside0.mk (below_then HB2.out HB2.out.size HB6.out)
                clear HPb HPr HX PD PL HB5 HB6
                go_wp2_with fail
                refine (steps_ok w.heap.size (okP wo.heap.size wp.heap.size) g v ls' w6 HSq6.out HFt.out hlen').mono ?_
                rintro e w7 ⟨v9, rfl, hr9, hb7⟩
                have HR9 := Aside0.mk hr9
                have HSq7 := Aside0.mk (HSq6.out.below hb7)
                have HRf7 := Aside0.mk (HRf6.out.below hb7)
                have HB27 := Aside0.mk (below_then HB26.out HB26.out.size hb7)
                clear hr9 hb7
                go_wp2_with fail
                refine (rsteps_ok w.heap.size (okP wo.heap.size wp.heap.size) g2 _ _ _ ls' w7 HRf7.out HFt.out hlen').mono ?_
                rintro e w8 ⟨v10, rfl, hr10, hb8⟩
                obtain ⟨B9, d9, rfl, hl9, hC9⟩ := Kd.R_reads (Kd.R_below HR9.out hb8)
                obtain ⟨B10, d10, rfl, hl10, hC10⟩ := Kd.R_reads hr10
                have HR98 := Aside0.mk (Kd.Q_of_R (Kd.R_below HR9.out hb8))
                have HSq8 := Aside0.mk (HSq7.out.below hb8)
                have HRf8 := Aside0.mk (HRf7.out.below hb8)
                have HB28 := Aside0.mk (below_then HB27.out HB27.out.size hb8)
                have PS := Aside0.mk (same_c B9 d9 B10 d10 (ls'.map stepOf) w8 hC9 hl9 hC10 hl10)
                have hml : (ls'.map stepOf).length = ls'.length := by simp
                rw [hml] at PS HR98
                clear hr10 hb8 hC9 hC10 hl9 hl10 hml
                go_wp2_with fail
                refine PS.out.mono ?_
                rintro e w9 ⟨rfl, hb9⟩
                have HS9 := Aside0.mk (HSq8.out.below hb9)
                have HR9' := Aside0.mk (HRf8.out.below hb9)
                have HB29 := Aside0.mk (below_then HB28.out HB28.out.size hb9)
                have HQ9 := Aside0.mk (Kd.Q_below HR98.out hb9)
                have HW6 := Aside0.mk HB26.out.size
                clear hb9 PS HR98
                go_wp2_with fail
                go_loopw [10] (fun v10 wx => ∃ (k : Nat) (xs : List Sp), k ≤ ls'.length ∧ v10 = .int .i64 k ∧ Aside0 (xs.length = ls'.length) ∧ Aside0 (Sq wx w.heap.size (okP wo.heap.size wp.heap.size) g v ls') ∧ Aside0 (Rf wx w.heap.size (okP wo.heap.size wp.heap.size) g2 (.slice Ag ls'.length cg) (.slice Ao ls'.length co) (.slice Aa ls'.length ca) ls') ∧
                  Aside0 (Kd.Q k49 49 wx w6.heap.size (fun _ => True) (.slice B9 ls'.length d9) xs) ∧ Aside0 (Below w.heap.size w wx)) (fun v10 _ => ls'.length - (intOf v10).toNat)
                case atStart => exact ⟨0, ls'.map stepOf, by omega, rfl, ⟨by simp⟩, HS9, HR9', HQ9, HB29⟩
                case round =>
                  obtain ⟨k, xs, hk, rfl, HX, HSq, HRf, HQ9, HB2⟩ := hrel
                  by_cases hkl : k < ls'.length
                  · obtain ⟨b, o, cq, hav, _⟩ := Kd.Q_form HQ9.out (by have := HX.out; omega)
                    injection hav with h1 h2 h3
                    subst h1
                    obtain ⟨⟨u, hcu⟩, hfu, hncp, hbb, ⟨cells, hcb⟩, xs', hxl, hq⟩ := sp_set HQ9.out hkl (-7)
                    have HQ := Aside0.mk hq
                    have HXL := Aside0.mk (hxl.trans HX.out)
                    have HSn := Aside0.mk (HSq.out.sett (j := o + k * 8 + 1) hcb (.int .i64 (-7)))
                    have HRn := Aside0.mk (HRf.out.sett (j := o + k * 8 + 1) hcb (.int .i64 (-7)))
                    have HBn := Aside0.mk (HB2.out.setCell (p := ⟨b, o + k * 8 + 1, none⟩) (Nat.le_trans HW6.out hbb) (.int .i64 (-7)))
                    have hk8 := Int.toNat_natCast k
                    clear hq hxl hcb hbb h2 h3
                    go_wp2
                    go_roundw
                    case rel => exact ⟨k + 1, xs', by omega, by go_num, HXL, HSn, HRn, HQ, HBn⟩
                    case measure => simp [intOf]; omega
                  · obtain rfl : k = ls'.length := by omega
                    go_wp2
                    go_roundw
                    case rel => exact ⟨i + 1, ls', by omega, by go_num, ⟨⟨g, v, g2, _, _, _, rfl, rfl, HSq.out.mono (fun _ _ => trivial), HRf.out.mono (fun _ _ => trivial), HFt.out⟩⟩, HLn2, HB2⟩
                    case measure => simp [intOf]; omega
      · obtain rfl : i = l.length := by omega
        go_wp2
        go_ret
        exact ⟨rfl, HB.out⟩
end Go.Proofs.Ytfmlpcdbllpcaaa.HQ
