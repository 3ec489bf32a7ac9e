/-
  CONTRACTS BY HAND (groups, 5): a table's state; New, Many, find, At, Free: what is answered, what the table is then; what else was there stays.
-/
import Derived.Test.YtkifmhfgplhabaaGpC
import Derived.Test.YtkifmhfgplhabaaHV
namespace Go.Proofs.Ytkifmhfgplhabaa.HQ
open Go.Proofs.Ytkifmhfgplhabaa.HU Go.RowKit Go.Proofs.Ytkifmhfgplhabaa.HK Go.Proofs.Ytkifmhfgplhabaa.HP Go.Proofs.YtkifmhfgplhabaaW.PrintWords Go.Proofs.YtkifmhfgplhabaaW.PrintLast Go.Proofs.YtkifmhfgplhabaaW.PrintMore
set_option linter.unusedVariables false
set_option linter.unusedSimpArgs false
abbrev Sl := S62
abbrev Gp := S24
/-- a row of one, in a block of its own -/
theorem R_one_at {α : Type} (d : Kd α) {e : Nat} {W : World} {base b : Nat} {ok okp : Nat → Prop} {cs : List Value} {p : α} (hblk : W.heap[b]? = some (.cells cs.toArray e (0, 0))) (hb : base ≤ b) (hok : ok b) (hp : d.M W base okp p cs) (hokp : ∀ k, okp k → ok k ∧ k ≠ b) :
    d.R e W base ok (.slice (some ⟨b, 0, none⟩) 1 1) [p] := by
  have hcl := d.K_len (d.K_of_M hp)
  refine ⟨fun k hk => ownB hk ▸ hok, cs, ⟨by simp [hcl], .inr ⟨b, 1, cs.toArray, rfl, hb, hblk, Nat.le_refl _, by simp [maxLen], by simp [hcl], ?_⟩⟩, ?_⟩
  · have h1 : cs.length = [p].length * d.sz := by simpa using hcl
    exact List.take_of_length_le (Nat.le_of_eq h1)
  · have h1 := Reps.snoc (Reps.none (d.M W base (fun k => ok k ∧ some k ≠ (Value.slice (some ⟨b, 0, none⟩) 1 1).ownBlock)) d.sz) (c := cs) (p := p) (d.M_mono (fun k hk => ⟨(hokp k hk).1, fun he => (hokp k hk).2 (ownB he.symm).symm⟩) hp) hcl
    simpa using h1
/-- a table's state: its block, its row of handles -/
structure Gs (W : World) (base : Nat) (ok : Nat → Prop) (g : Nat) (v : Value) (ls : List Sl) : Prop where
  blk : W.heap[g]? = some (.cells #[v] 29 (0, 0))
  hg : base ≤ g
  row : Kd.Q k62 62 W base ok v ls
theorem Gs.below {W W' : World} {base g : Nat} {ok : Nat → Prop} {v : Value} {ls : List Sl} (h : Gs W base ok g v ls) (hb : Below W.heap.size W W') : Gs W' base ok g v ls := ⟨blk_below h.blk hb, h.hg, Kd.Q_below h.row hb⟩
theorem Gs.max {W : World} {base g : Nat} {ok : Nat → Prop} {v : Value} {ls : List Sl} (h : Gs W base ok g v ls) : ls.length ≤ 9223372036854775807 := by
  obtain ⟨A, c, _, _, hc⟩ := Kd.Q_reads h.row
  exact Kd.C_max hc
/-- the handle of a number, if it is one -/
def getH (k : Int) (ls : List Sl) : Option Sl := if 0 ≤ k then (ls[k.toNat]?).filter (fun x => !x.f1) else none
theorem getH_some {k : Int} {ls : List Sl} {x : Sl} (h : getH k ls = some x) : 0 ≤ k ∧ k < ls.length ∧ ls[k.toNat]? = some x ∧ x.f1 = false := by
  unfold getH at h
  split at h
  · rename_i h0
    rw [Option.filter_eq_some_iff] at h
    obtain ⟨h1, h2⟩ := h
    have := (List.getElem?_eq_some_iff.1 h1).1
    exact ⟨h0, by omega, h1, by simpa using h2⟩
  · cases h
theorem getH_none {k : Int} {ls : List Sl} (h : getH k ls = none) : k < 0 ∨ (ls.length : Int) ≤ k ∨ ∃ x, 0 ≤ k ∧ k < ls.length ∧ ls[k.toNat]? = some x ∧ x.f1 = true := by
  unfold getH at h
  split at h
  · rename_i h0
    rcases Int.lt_or_le k ls.length with h1 | h1
    · refine .inr (.inr ⟨ls[k.toNat]'(by omega), h0, h1, List.getElem?_eq_getElem _, ?_⟩)
      rw [List.getElem?_eq_getElem (by omega)] at h
      simpa [Option.filter] using h
    · exact .inr (.inl h1)
  · exact .inl (by omega)
section
variable {W : World} {base g : Nat} {ok : Nat → Prop} {v : Value} {ls : List Sl}
/-- a handle of it: where it lies, what it reads as -/
theorem Gs.slot (h : Gs W base ok g v ls) (i : Nat) (x : Sl) (hi : ls[i]? = some x) :
    ∃ b o c A cc, v = .slice (some ⟨b, o, none⟩) ls.length c ∧ W.cell? ⟨b, o + i * 3, none⟩ = some (.string x.f0.f0) ∧ W.cell? ⟨b, o + i * 3 + 1, none⟩ = some (.slice A x.f0.f1.length cc) ∧ W.cell? ⟨b, o + i * 3 + 2, none⟩ = some (.bool x.f1) ∧ W.frozen? ⟨b, o + i * 3 + 2, none⟩ = false ∧
      x.f0.f1.length ≤ cc ∧ Kd.C (Kd.int .i64) W A x.f0.f1.length x.f0.f1 ∧ base ≤ b ∧ b ≠ g := by
  have hil : i < ls.length := (List.getElem?_eq_some_iff.1 hi).1
  obtain ⟨b, o, c, hv, hb, _, cells, hcp⟩ := Kd.Q_form h.row (by omega)
  have row := h.row
  have hgb := h.blk
  subst hv
  obtain ⟨cs, hcl, hM, hcc, hfr⟩ := Kd.Q_elem row z62 (i : Int) (by omega) (by omega)
  rw [Int.toNat_natCast] at hM hcc hfr
  have hx : ls.getD i z62 = x := by simp [List.getD, hi]
  rw [hx] at hM
  obtain ⟨v2, hce, hR⟩ := k62_openM hM
  obtain ⟨A, cc, hv2, hcl2, hC⟩ := Kd.R_reads hR
  subst hv2
  have hsz : (k62).sz = 3 := rfl
  rw [hsz] at hcc hfr
  refine ⟨b, o, c, A, cc, rfl, hcc 0 _ (by rw [hce]; rfl), hcc 1 _ (by rw [hce]; rfl), hcc 2 _ (by rw [hce]; rfl), hfr 2, hcl2, hC, hb, ?_⟩
  rintro rfl
  rw [hcp] at hgb
  injection hgb with hgb
  injection hgb with _ h2
  exact absurd (show (62 : Nat) = 29 from h2) (by decide)
end
theorem many_c (base : Nat) (ok : Nat → Prop) (g : Nat) (v : Value) (ls : List Sl) (w : World) (h : Gs w base ok g v ls) : Calls Try.prog 9 #[.pointer (some ⟨g, 0, none⟩)] w fun e w' => e = .returned (.int .i64 ls.length) ∧ w = w' := by
  obtain ⟨A, c, rfl, hl, hr⟩ := Kd.Q_reads h.row
  have h1 := (blk_cell h.blk 0).trans rfl
  go_enter Try.func9, Try.ntmps9
  go_wp2
  go_ret
  exact ⟨rfl, rfl⟩
theorem find_some (base : Nat) (ok : Nat → Prop) (g : Nat) (v : Value) (ls : List Sl) (k : Int) (x : Sl) (w : World) (h : Gs w base ok g v ls) (hx : getH k ls = some x) :
    Calls Try.prog 20 #[.pointer (some ⟨g, 0, none⟩), .int .i64 k] w fun e w' => (∃ b o c, v = .slice (some ⟨b, o, none⟩) ls.length c ∧ e = .returned (.tuple #[.pointer (some ⟨b, o + k.toNat * 3, none⟩), .int .i64 0])) ∧ w = w' := by
  obtain ⟨h0, h1, hi, hgn⟩ := getH_some hx
  have hmax := h.max
  obtain ⟨n, rfl⟩ : ∃ n : Nat, k = n := ⟨k.toNat, by omega⟩
  rw [Int.toNat_natCast] at hi ⊢
  obtain ⟨b, o, c, A, cc, rfl, c0, c1, c2, _, _, _, _, _⟩ := h.slot n x hi
  rw [hgn] at c2
  have hg0 : w.cell? ⟨g, 0, none⟩ = some (.slice (some ⟨b, o, none⟩) ls.length c) := (blk_cell h.blk 0).trans rfl
  have b0 : ((ls.length : Int) == 0) = false := beq_eq_false_iff_ne.2 (by omega)
  have b1 : decide ((n : Int) < 0) = false := decide_eq_false (by omega)
  have b2 : decide ((ls.length : Int) ≤ (n : Int)) = false := decide_eq_false (by omega)
  have HM := Aside0.mk (many_c base ok g _ ls w h)
  clear c0 c1 h hx hi
  go_enter Try.func20, Try.ntmps20
  go_wp2_with fail
  refine HM.out.mono ?_
  rintro e w1 ⟨rfl, rfl⟩
  go_wp2
  go_ret2
  exact ⟨⟨b, o, c, rfl, rfl⟩, rfl⟩
end Go.Proofs.Ytkifmhfgplhabaa.HQ
