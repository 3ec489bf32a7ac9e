/-
  CONTRACTS BY HAND (groups, 8): Add where it takes nothing; Add, whatever it takes.
-/
import Derived.Test.YtkifmhfgplhabaaGpF
namespace Go.Proofs.Ytkifmhfgplhabaa.HQ
open Go.Proofs.Ytkifmhfgplhabaa.HU Go.RowKit Go.Proofs.Ytkifmhfgplhabaa.HK Go.Proofs.Ytkifmhfgplhabaa.HP Go.Proofs.YtkifmhfgplhabaaW.PrintWords Go.Proofs.YtkifmhfgplhabaaW.PrintLast Go.Proofs.YtkifmhfgplhabaaW.PrintMore
set_option linter.unusedVariables false
set_option linter.unusedSimpArgs false
def addE (l : List Int) (ls : List Sl) : Int := if mayB l = true then (if ls.length = 32 then 4 else 0) else 2
def addN (l : List Int) (ls : List Sl) : Int := if mayB l = true then (if ls.length = 32 then 0 else ls.length) else 0
def addL (s : ByteArray) (l : List Int) (ls : List Sl) : List Sl := if mayB l = true then (if ls.length = 32 then ls else ls ++ [⟨⟨s, l⟩, false⟩]) else ls
theorem add_bad (base : Nat) (ok : Nat → Prop) (g : Nat) (v : Value) (ls : List Sl) (s : ByteArray) (A : Option Addr) (c : Nat) (l : List Int) (w : World) (h : Gs w base ok g v ls)
    (hr : Kd.C (Kd.int .i64) w A l.length l) (hc : l.length ≤ c) (hm : mayB l = false) (hp : 0 < ls.length) :
    Calls Try.prog 6 #[.pointer (some ⟨g, 0, none⟩), .agg #[.string s, .slice A l.length c]] w fun e w' => e = .returned (.tuple #[.int .i64 0, .int .i64 2]) ∧ Below w.heap.size w w' := by
  have HR := Aside0.mk hr
  have hb1 := below_alloc (Below.refl w.heap.size w) (.cells #[.string s, .slice A l.length c] 24)
  have HM := Aside0.mk (many_c base ok g v ls _ (h.below hb1))
  have b0 : ((ls.length : Int) == 0) = false := beq_eq_false_iff_ne.2 (by omega)
  have hmax := h.max
  clear hr h
  go_enter Try.func6, Try.ntmps6
  go_wp2_with fail
  refine HM.out.mono ?_
  rintro e w1 ⟨rfl, rfl⟩
  go_wp2_with fail
  refine (may_c s A c l _ (Kd.C_below HR.out hb1) hc).mono ?_
  rintro e w1 ⟨rfl, hbx⟩
  have HB := Aside0.mk (below_then hb1 hb1.size hbx)
  clear hb1 hbx
  rw [hm]
  go_wp2
  go_ret2
  exact ⟨rfl, HB.out⟩
theorem add_full (base : Nat) (ok : Nat → Prop) (g : Nat) (v : Value) (ls : List Sl) (s : ByteArray) (A : Option Addr) (c : Nat) (l : List Int) (w : World) (h : Gs w base ok g v ls)
    (hr : Kd.C (Kd.int .i64) w A l.length l) (hc : l.length ≤ c) (hm : mayB l = true) (hn : ls.length = 32) :
    Calls Try.prog 6 #[.pointer (some ⟨g, 0, none⟩), .agg #[.string s, .slice A l.length c]] w fun e w' => e = .returned (.tuple #[.int .i64 0, .int .i64 4]) ∧ Below w.heap.size w w' := by
  have HR := Aside0.mk hr
  have hb1 := below_alloc (Below.refl w.heap.size w) (.cells #[.string s, .slice A l.length c] 24)
  have HM := Aside0.mk (many_c base ok g v ls _ (h.below hb1))
  rw [hn] at HM
  clear hr h
  go_enter Try.func6, Try.ntmps6
  go_wp2_with fail
  refine HM.out.mono ?_
  rintro e w1 ⟨rfl, rfl⟩
  go_wp2_with fail
  refine (may_c s A c l _ (Kd.C_below HR.out hb1) hc).mono ?_
  rintro e w1 ⟨rfl, hbx⟩
  have HB := Aside0.mk (below_then hb1 hb1.size hbx)
  clear hb1 hbx
  rw [hm]
  go_wp2
  go_ret2
  exact ⟨rfl, HB.out⟩
theorem add_any (base : Nat) (ok : Nat → Prop) (g : Nat) (v : Value) (ls : List Sl) (s : ByteArray) (A : Option Addr) (c : Nat) (l : List Int) (w : World) (h : Gs w base ok g v ls) (hb : base ≤ w.heap.size) (hok : ∀ k, w.heap.size ≤ k → ok k)
    (hr : Kd.C (Kd.int .i64) w A l.length l) (hc : l.length ≤ c) (hl : l.length ≤ 1000) (hp : 0 < ls.length) (hn : ls.length ≤ 32) :
    Calls Try.prog 6 #[.pointer (some ⟨g, 0, none⟩), .agg #[.string s, .slice A l.length c]] w fun e w' => e = .returned (.tuple #[.int .i64 (addN l ls), .int .i64 (addE l ls)]) ∧ (∃ v', Gs w' base ok g v' (addL s l ls)) ∧ Kept w w' (WrG g v) ∧ Below base w w' := by
  unfold addN addE addL
  by_cases hm : mayB l = true
  · rw [if_pos hm, if_pos hm, if_pos hm]
    by_cases h32 : ls.length = 32
    · rw [if_pos h32, if_pos h32, if_pos h32]
      refine (add_full base ok g v ls s A c l w h hr hc hm h32).mono ?_
      rintro e w' ⟨rfl, hbl⟩
      exact ⟨rfl, ⟨v, h.below hbl⟩, Kept.of_below hbl _, hbl.mono hb⟩
    · rw [if_neg h32, if_neg h32, if_neg h32]
      exact add_ok base ok g v ls s A c l w h hb hok hr hc hl hm hp (by omega)
  · rw [if_neg hm, if_neg hm, if_neg hm]
    refine (add_bad base ok g v ls s A c l w h hr hc (by simpa using hm) hp).mono ?_
    rintro e w' ⟨rfl, hbl⟩
    exact ⟨rfl, ⟨v, h.below hbl⟩, Kept.of_below hbl _, hbl.mono hb⟩
end Go.Proofs.Ytkifmhfgplhabaa.HQ
