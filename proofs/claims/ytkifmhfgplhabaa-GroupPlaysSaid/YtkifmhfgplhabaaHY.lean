/-
  A LAW OF copy(dst, src) AT A STEP OF A REGION: dst a whole block of one's own, src as long: a row of one's own with the same elements. No program is walked here.
-/
import Derived.Test.YtkifmhfgplhabaaHV
import Derived.Laws.CopyRow
import Derived.Laws.CopyOwn
namespace Go.Proofs.Ytkifmhfgplhabaa.HU
open Go.RowKit Go.Proofs.YtkifmhfgplhabaaW.PrintWords Go.Proofs.YtkifmhfgplhabaaW.PrintLast Go.Proofs.YtkifmhfgplhabaaW.PrintMore
set_option linter.unusedVariables false
section
variable {P : Program} {ops : Array Oper} {o : Oper} {a : Act} {Q : Exit → Act → World → Prop} {Kc : Act → World → Prop} {α : Type}
theorem run_copy_whole (w : World) (dT sT ty elem : TypeId) (sz g n cd : Nat) (ad : Addr) (cx : Nat) (cur : Array Value) (t : TypeId) (cs : List Value)
    (hu : P.underlying dT = some (.slice elem)) (hs : (P.info? elem).map (·.size) = some sz)
    (hg : w.heap[g]? = some (.cells cur t (0, 0))) (hn : cs.length = n * sz) (hsrc : ∀ j v, cs[j]? = some v → w.cell? (ad.add j) = some v) (hfit : cur.size = cs.length) (h1 : ∀ v ∈ cs, v.oneCell' = true) :
    (Builtin.copy_ #[dT, sT] ty #[.slice (some ⟨g, 0, none⟩) n cd, .slice (some ad) n cx]).run P w = .ok (goInt n) (w.setRow g cs.toArray) := by
  have hl := run_loadCells_list (P := P) w ad cs hsrc
  have hst := run_storeCells_at P g 0 t cs 0 cur w hg (by omega) h1
  rw [hn] at hl
  have hd : cur.toList.drop (0 + 0 + cs.length) = [] := List.drop_eq_nil_of_le (by simp; omega)
  rw [hd] at hst
  cases hq : P.info? elem with
  | none => simp [hq] at hs
  | some i =>
    have hi : i.size = sz := by simpa [hq] using hs
    simp [Builtin.copy_, run_underlying hu, Builtin.lenOf, Builtin.firstCells, sizeOf, typeInfo, hq, hi, hl, hst]
/-- make([]T, n) of whatever size -/
theorem run_make_n (W : World) (t e : TypeId) (z : Value) (sz bytes m : Nat) (ht : P.underlying t = some (.slice e)) (hinfo : (P.info? e).map (fun i => (i.zero, i.size, i.bytes)) = some (some z, sz, bytes)) (hb0 : 0 < bytes) (hl : m * bytes ≤ 281474976710656) :
    (Instr.makeSlice t (.int .i64 (m : Int)) (.int .i64 (m : Int))).run P W = .ok (.slice (some ⟨W.heap.size, 0, none⟩) m m) (W.alloc (.cells (madeCells z.cells (m * sz)) e)) := by
  obtain ⟨i0, hi, hzz⟩ := Option.map_eq_some_iff.1 hinfo
  simp only [Prod.mk.injEq] at hzz
  obtain ⟨hz0, hz1, hz2⟩ := hzz
  have hm : m ≤ 281474976710656 := Nat.le_trans (Nat.le_mul_of_pos_right _ hb0) hl
  have hr := run_make (P := P) W t e i0 z ht hi hz0 .i64 .i64 (m : Int) (m : Int) (by omega) (by omega)
    (by
      have h3 : ((i0.bytes * m : Nat) : Int) ≤ 281474976710656 := by rw [hz2, Nat.mul_comm]; omega
      rwa [Int.natCast_mul] at h3) (by omega)
  simp only [Int.toNat_natCast] at hr
  rwa [hz1] at hr
theorem size_made (z : Array Value) (n : Nat) : (madeCells z n).size = n := by simp [madeCells]
/-- copy(dst, src), dst a whole block. -/
theorem copy_step (d : Kd α) {W : World} (base b n cd cx : Nat) (hw : Region.wanted o (yielded ops a.tmps) = true) (s x : Operand) (t t' e : TypeId)
    (ho : o.op = .call { callee := .builtin .copy, args := #[s, x], argTypes := #[t, t'] })
    (ht : P.underlying t = some (.slice e)) (hinfo : (P.info? e).map (·.size) = some d.sz) (hs0 : 0 < d.sz)
    (ys : List α) (ad : Addr) (cur : Array Value) (ok okp : Nat → Prop) (hs : a.eval s = .slice (some ⟨b, 0, none⟩) n cd) (hx : a.eval x = .slice (some ad) n cx)
    (hblk : W.heap[b]? = some (.cells cur e (0, 0))) (hcur : cur.size = n * d.sz) (hcd : cd = n) (hbb : base ≤ b) (hokb : ok b) (HR : ReadsRow (d.M W base okp) d.sz W (some ad) n ys) (hokp : ∀ k, okp k → ok k ∧ k ≠ b)
    (h : ∀ w1, d.R e w1 base ok (.slice (some ⟨b, 0, none⟩) n cd) ys → Below b W w1 → Kept W w1 (fun k => k = b) → Kc (a.put o.dst (goInt n)) w1) :
    if Region.wanted o (yielded ops a.tmps) = true then Oper.wp P o a W Kc Q else Kc (a.put o.dst undef) W := by
  subst hcd
  have hyl : ys.length = cd := HR.1
  have hmax := HR.2.1
  obtain ⟨inner, hrep, hcells⟩ := ReadsRow.inner_ HR
  have hil : inner.length = cd * d.sz := by rw [hrep.1, hyl]
  have hone : ∀ v ∈ inner, v.oneCell' = true := Kd.reps_one hrep hs0 (fun p c hp => d.K_one (d.K_of_M hp))
  have hrun := run_copy_whole (P := P) W t t' o.type e d.sz b cd cd ad cx cur e inner ht hinfo hblk hil hcells (by omega) hone
  have hoth : ∀ k, k ≠ b → (W.setRow b inner.toArray).heap[k]? = W.heap[k]? := fun k hk => setRow_other W b k _ hk
  have hnew := setRow_heap W b cur inner.toArray e (0, 0) hblk
  rw [if_pos hw]
  unfold Oper.wp execOp
  simp only [ho, resolve, invoke, builtin, Sem.run_bind, Sem.run_pure, Result.andThen_ok, List.map_toArray, List.map_cons, List.map_nil, hs, hx, hrun]
  refine h _ ?_ ?_ ?_
  · refine ⟨fun k hk => ownB hk ▸ hokb, inner, ⟨by rw [hil, hyl], .inr ⟨b, cd, inner.toArray, by rw [hyl], hbb, hnew, by omega, by simpa [maxLen] using hmax, by simp [hil], ?_⟩⟩, hrep.imp_ (fun p c hp => ?_)⟩
    · exact List.take_of_length_le (by rw [hyl]; simp; omega)
    · exact d.M_mono (fun k hk => ⟨(hokp k hk).1, fun he => (hokp k hk).2 (ownB he.symm).symm⟩) (Kd.M_step hp (fun k hk _ => hoth k (hokp k hk).2))
  · exact below_setRow (Below.refl b W) (Nat.le_refl _) _
  · exact ⟨by simp [World.setRow], fun k _ hk => hoth k hk⟩
end
end Go.Proofs.Ytkifmhfgplhabaa.HU
