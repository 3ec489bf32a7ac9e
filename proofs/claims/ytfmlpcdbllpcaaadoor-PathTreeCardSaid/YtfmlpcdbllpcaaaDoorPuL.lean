/-
  PLAIN FACTS OF A STACK'S STATE (paths, 7): its topmost level, read and written. No program is walked here.
-/
import Derived.Test.YtfmlpcdbllpcaaaDoorPuB
import Derived.Test.YtfmlpcdbllpcaaaDoorHU
namespace Go.Proofs.YtfmlpcdbllpcaaaDoor.HQ
open Go.Proofs.YtfmlpcdbllpcaaaDoor.HD Go.Proofs.YtfmlpcdbllpcaaaDoor.HU Go.RowKit Go.Proofs.YtfmlpcdbllpcaaaDoor.HK Go.Proofs.YtfmlpcdbllpcaaaDoor.HP Go.Proofs.YtfmlpcdbllpcaaaDoorW.PrintWords Go.Proofs.YtfmlpcdbllpcaaaDoorW.PrintLast Go.Proofs.YtfmlpcdbllpcaaaDoorW.PrintMore
set_option linter.unusedVariables false
set_option linter.unusedSimpArgs false
theorem Sq.below {w w' : World} {base : Nat} {ok : Nat → Prop} {g : Nat} {v : Value} {ls : List Lv} (h : Sq w base ok g v ls) (hb : Below w.heap.size w w') : Sq w' base ok g v ls :=
  ⟨blk_below h.blk hb, h.hg, Kd.Q_below h.row hb⟩
theorem Sq.drewN {w : World} {base : Nat} {ok : Nat → Prop} {g : Nat} {v : Value} {ls : List Lv} (h : Sq w base ok g v ls) (m : Nat) : Sq (w.drewN m) base ok g v ls := h.below (pw_below_drewN (Below.refl _ _) m)
theorem Sq.form {W : World} {base : Nat} {ok : Nat → Prop} {g : Nat} {v : Value} {ls : List Lv} (h : Sq W base ok g v ls) (hp : 0 < ls.length) : ∃ b o cap, v = .slice (some ⟨b, o, none⟩) ls.length cap := by
  obtain ⟨b, o, cap, hv, _⟩ := Kd.Q_form h.row hp
  exact ⟨b, o, cap, hv⟩
theorem Sq.max {W : World} {base : Nat} {ok : Nat → Prop} {g : Nat} {v : Value} {ls : List Lv} (h : Sq W base ok g v ls) : ls.length ≤ 9223372036854775807 := by
  obtain ⟨A, c, _, _, hc⟩ := Kd.Q_reads h.row
  exact Kd.C_max hc
/-- a level: where it lies, what it reads as; its place written. -/
theorem Sq_lev {W : World} {base : Nat} {ok : Nat → Prop} {g b o n cap : Nat} {ls : List Lv} (h : Sq W base ok g (.slice (some ⟨b, o, none⟩) n cap) ls) (i : Nat) (x : Lv) (hi : ls[i]? = some x) :
    ∃ A c, base ≤ b ∧ b < W.heap.size ∧ b ≠ g ∧ n = ls.length ∧ n ≤ cap ∧
      W.cell? ⟨b, o + i * 5, none⟩ = some (.int .i64 x.f0.f0) ∧ W.cell? ⟨b, o + i * 5 + 1, none⟩ = some (.int .i64 x.f0.f1) ∧ W.cell? ⟨b, o + i * 5 + 2, none⟩ = some (.slice A x.f0.f2.length c) ∧
      W.cell? ⟨b, o + i * 5 + 3, none⟩ = some (.bool x.f1) ∧ W.cell? ⟨b, o + i * 5 + 4, none⟩ = some (.int .i64 x.f2) ∧ W.frozen? ⟨b, o + i * 5 + 4, none⟩ = false ∧
      x.f0.f2.length ≤ c ∧ Kd.C k49 W A x.f0.f2.length x.f0.f2 ∧
      ∀ (m : Nat) (y : Int), Sq ((W.drewN m).setCell ⟨b, o + i * 5 + 4, none⟩ (.int .i64 y)) base ok g (.slice (some ⟨b, o, none⟩) n cap) (ls.set i { x with f2 := y }) := by
  have hil : i < ls.length := (List.getElem?_eq_some_iff.1 hi).1
  obtain ⟨b', o', cap', hv, hb, hlt, cells, hcs⟩ := Kd.Q_form h.row (by omega)
  injection hv with h1 h2 h3
  injection h1 with h1
  injection h1 with h1 h4
  subst h1 h3 h4
  have hrow := h.row
  obtain ⟨hn, hcap, _⟩ := Kd.Q_reads' hrow
  obtain ⟨c, hcl, hM, hcc, hfr⟩ := Kd.Q_elem hrow z63 (i : Int) (by omega) (by omega)
  rw [Int.toNat_natCast] at hM hcc hfr
  have hx : ls.getD i z63 = x := by simp [List.getD, hi]
  rw [hx] at hM
  obtain ⟨v2, hce, hR⟩ := k63_openM hM
  obtain ⟨A, cc, hv2, hcl2, hC⟩ := Kd.R_reads hR
  subst hv2
  have hsz : (k63).sz = 5 := rfl
  rw [hsz] at hcc hfr hcl
  have hg : b ≠ g := by
    rintro rfl
    have := h.blk
    rw [hcs] at this
    injection this with this
    injection this with _ h2
    exact absurd (show (63 : Nat) = 59 from h2) (by decide)
  have c0 := hcc 0 _ (by rw [hce]; rfl)
  have c1 := hcc 1 _ (by rw [hce]; rfl)
  have c2 := hcc 2 _ (by rw [hce]; rfl)
  have c3 := hcc 3 _ (by rw [hce]; rfl)
  have c4 := hcc 4 _ (by rw [hce]; rfl)
  refine ⟨A, cc, hb, hlt, hg, hn, hcap, c0, c1, c2, c3, c4, hfr 4, hcl2, hC, fun m y => ?_⟩
  have hs := Kd.Q_seg (Kd.Q_drewN hrow m) (i : Int) (by omega) (by omega) (c := c) (seg := [.int .i64 y]) (j := 4) (x' := { x with f2 := y }) (okp := fun k => ok k ∧ k ≠ b) (by rw [hsz]; exact hcl)
    (by rw [Int.toNat_natCast, hsz]; exact hcc) (by rw [hsz]; simp) (by
      rw [hce]
      exact k63_mkM (W.drewN m) base _ { x with f2 := y } (Kd.R_drewN hR m)) (fun _ hk => hk)
  rw [Int.toNat_natCast, hsz] at hs
  exact ⟨blk_far (w := W.drewN m) h.blk (p := ⟨b, o + i * 5 + 4, none⟩) (fun he => hg he.symm) _, h.hg, hs.1⟩
theorem Sq.take {w : World} {base : Nat} {ok : Nat → Prop} {g n cap : Nat} {A : Option Addr} {t : List Lv} {x : Lv} (h : Sq w base ok g (.slice A n cap) (t ++ [x])) (m : Nat) :
    Sq ((w.drewN m).setCell ⟨g, 1, none⟩ (.slice A t.length cap)) base ok g (.slice A t.length cap) t := by
  have h1 := Kd.Q_take h.row (m := t.length) (by simp)
  rw [List.take_left' rfl] at h1
  exact ⟨blk_put (w := w.drewN m) (cs' := #[.bool true, .slice A t.length cap]) h.blk 1 (.slice A t.length cap) rfl, h.hg, Kd.Q_set (Kd.Q_drewN h1 m) (w := w.drewN m) h.blk E58s 1 _⟩
end Go.Proofs.YtfmlpcdbllpcaaaDoor.HQ
