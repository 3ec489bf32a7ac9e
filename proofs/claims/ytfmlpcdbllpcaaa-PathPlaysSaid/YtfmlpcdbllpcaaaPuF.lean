/-
  CONTRACTS BY HAND (paths, 10): slices.Clone at levels, Copy: a stack of its own; what was there stays.
-/
import Derived.Test.YtfmlpcdbllpcaaaPuD
namespace Go.Proofs.Ytfmlpcdbllpcaaa.HQ
open Go.Proofs.Ytfmlpcdbllpcaaa.HD Go.Proofs.Ytfmlpcdbllpcaaa.HU Go.RowKit Go.Proofs.Ytfmlpcdbllpcaaa.HK Go.Proofs.Ytfmlpcdbllpcaaa.HP Go.Proofs.YtfmlpcdbllpcaaaW.PrintWords Go.Proofs.YtfmlpcdbllpcaaaW.PrintLast Go.Proofs.YtfmlpcdbllpcaaaW.PrintMore
set_option linter.unusedVariables false
set_option linter.unusedSimpArgs false
/-- the blocks of a copy -/
def okC (ok : Nat → Prop) (v : Value) (n : Nat) (k : Nat) : Prop := (ok k ∧ some k ≠ v.ownBlock) ∨ n ≤ k
set_option maxHeartbeats 2000000 in
theorem cloneL (base : Nat) (ok : Nat → Prop) (A0 : Option Addr) (c0 : Nat) (ls : List Lv) (w : World) (hr : Kd.Q k58 58 w base ok (.slice A0 ls.length c0) ls) (hb : base ≤ w.heap.size) (hl : ls.length ≤ 2000) :
    Calls Try.prog 24 #[.slice A0 ls.length c0] w fun e w' => ∃ v0_ : Value, e = .returned v0_ ∧ Kd.Q k58 58 w' base (okC ok (.slice A0 ls.length c0) w.heap.size) v0_ ls ∧ (∀ k, v0_.ownBlock = some k → w.heap.size ≤ k) ∧ Below w.heap.size w w' := by
  have q25 : ∀ (w : World) (a : Option Addr) (n c n' c' : Nat), (binOp .eql 50 (.slice a n c) (.slice none n' c')).run Try.prog w = .ok (.bool a.isNone) w := fun w a n c n' c' => Lib.run_eql_slice_nil w _ _ a n c n' c' Try.underlying50
  have HR0 := Aside0.mk hr
  have HL := Aside0.mk hl
  have HB := Aside0.mk hb
  clear hr hl hb
  cases A0 with
  | none =>
    have h0 : ls = [] := by
      by_cases hp : 0 < ls.length
      · obtain ⟨ad, he, _⟩ := (Kd.Q_reads' HR0.out).2.2.2.2 hp
        exact absurd he (by simp)
      · exact List.eq_nil_of_length_eq_zero (by omega)
    subst h0
    go_enter Try.func24, Try.ntmps24
    go_wp2
    go_ret
    exact ⟨_, rfl, Kd.Q_nil _ _ _ _ _, fun k hk => by simp [Value.ownBlock] at hk, Below.refl _ _⟩
  | some ad =>
    go_enter Try.func24, Try.ntmps24
    go_wp2_with (at_builtin; refine Kd.R_append_rows k58 (Rr := k58.M (w.alloc (.cells #[] 58)) base (fun k => (ok k ∧ some k ≠ (Value.slice (some ad) ls.length c0).ownBlock) ∧ k < w.heap.size)) (w0 := w) base rfl (.tmp 5) (.tmp 6) 50 58 (.agg #[.int .i64 0, .int .i64 0, .slice none 0 0, .bool false, .int .i64 0]) 56 rfl Try.underlying50 infoL rfl (by decide) (by omega) _ [] ls _ _ _ (okC ok (.slice (some ad) ls.length c0) w.heap.size) (fun k => (ok k ∧ some k ≠ (Value.slice (some ad) ls.length c0).ownBlock) ∧ k < w.heap.size) rfl rfl ?aO ?aR (fun _ _ h => h) ?aK ?aF ?aB ?aS ?aL ?_; (case aO => exact R_none _ _ _ _ _ HB.out (.inr (Nat.le_refl _))); (case aR => exact ReadsRow.imp_ (Q_rowsM HR0.out) (below_alloc (Below.refl _ _) (.cells #[] 58)) (fun _ _ hp => Kd.M_below hp (below_alloc (Below.refl _ _) (.cells #[] 58)))); (case aK => exact fun k hk => ⟨.inl hk.1, fun he => by have h1 := hk.2; have h2 := ownB (g := w.heap.size) (o := 0) (n := 0) (c := 0) he.symm; omega⟩); (case aF => exact fun k hk => .inr (by simp at hk; omega)); (case aB => exact (below_alloc (Below.refl _ _) _).mono HB.out); (case aS => have := HB.out; simp; omega); (case aL => have := HL.out; simp; omega); intro v1 w1 ho hbl hg hat)
    go_ret
    refine ⟨v1, rfl, Kd.Q_of_R (by simpa using ho), fun k hk => ?_, pw_below_grown (below_alloc (Below.refl w.heap.size w) (.cells #[] 58)) _ (by simp) hg (fun k hk => Nat.le_of_eq (ownB (g := w.heap.size) (o := 0) (n := 0) (c := 0) hk))⟩
    rcases hat with hat | ⟨b, hbb, hle⟩
    · rw [hat] at hk
      exact Nat.le_of_eq (ownB (g := w.heap.size) (o := 0) (n := 0) (c := 0) hk)
    · rw [hk] at hbb
      injection hbb with hbb
      simp at hle
      omega
set_option maxHeartbeats 2000000 in
theorem copy_ok (base : Nat) (ok : Nat → Prop) (g : Nat) (v : Value) (ls : List Lv) (w : World) (h : Sq w base ok g v ls) (hn : ls.length ≤ 2000) :
    Calls Try.prog 11 #[.pointer (some ⟨g, 0, none⟩)] w fun e w' => ∃ g' v', e = .returned (.pointer (some ⟨g', 0, none⟩)) ∧ Sq w' base (okC ok v w.heap.size) g' v' ls ∧ w.heap.size ≤ g' ∧ (∀ k, v'.ownBlock = some k → w.heap.size ≤ k) ∧ Below w.heap.size w w' := by
  have HS := Aside0.mk h
  obtain ⟨A, c, rfl, hl, hr⟩ := Kd.Q_reads h.row
  have hg0 : w.cell? ⟨g, 0, none⟩ = some (.bool true) := (blk_cell h.blk 0).trans rfl
  have hg1 : w.cell? ⟨g, 1, none⟩ = some (.slice A ls.length c) := (blk_cell h.blk 1).trans rfl
  have hgl := blk_lt h.blk
  have hgb := h.hg
  clear h hr
  go_enter Try.func11, Try.ntmps11
  go_wp2_with fail
  go_region_held3 (fun W => W.cell? ⟨g, 0, none⟩ = some (.bool true) ∧ W.cell? ⟨g, 1, none⟩ = some (.slice A ls.length c))
    (first | go_keep | (refine ⟨?_, ?_⟩ <;> with_reducible exact keep_call hb (by assumption)))
    (first | (go_at_call 24; refine (cloneL base ok A c ls _ (Kd.Q_drew HS.out.row) (by simp; omega) hn).mono ?_; rintro e w' ⟨v', rfl, hq, hfr, hb⟩; obtain ⟨A', c', rfl, hlc'⟩ := Kd.Q_slice hq))
  have HB := Aside0.mk (below_of_drew hb)
  have HQ := Aside0.mk hq
  have HF := Aside0.mk hfr
  clear hq hfr hb
  go_wp2
  go_ret
  have hz := HB.out.size
  have hq2 := Kd.Q_alloc HQ.out (.cells #[.bool true, .slice A' ls.length c'] 52)
  exact ⟨_, _, rfl, ⟨blk_new _ _, by omega, hq2⟩, hz, HF.out, below_alloc HB.out _⟩
end Go.Proofs.Ytfmlpcdbllpcaaa.HQ
