/- SignBack: whatever comes in, the law answers true, and what came in reads as it did; the tables that it lists are tied to the program's text. No condition. -/
import Derived.Test.YtpkcnifchggbnaaDoorSpL
import Derived.Test.YtpkcnifchggbnaaDoorSpF
import Derived.Test.YtpkcnifchggbnaaDoorSpE
import Derived.Test.YtpkcnifchggbnaaDoorSpH
import Derived.Test.YtpkcnifchggbnaaDoorHRk
import Derived.Test.YtpkcnifchggbnaaDoorRows
import Derived.Test.YtpkcnifchggbnaaDoorTie
import Derived.Test.YtpkcnifchggbnaaDoorCards
import Derived.WalkKit
import Derived.ProofKit
import Derived.OpenShut
import Derived.ShutString
import Derived.ChangeOld
import Derived.Below
import Derived.SizedLaws
import Derived.Lib.SmallJoins
import Derived.LaidMore
import Derived.Lay
import Derived.Stop.Joined
import Derived.SevenTiedAt
namespace Go.Proofs.YtpkcnifchggbnaaDoor.HI
open Go.RowKit Go.Shelf Go.Proofs.YtpkcnifchggbnaaDoor.HD Go.Proofs.YtpkcnifchggbnaaDoor.HK Go.Proofs.YtpkcnifchggbnaaDoor.HU Go.Proofs.YtpkcnifchggbnaaDoorW.PrintWords Go.Proofs.YtpkcnifchggbnaaDoorW.PrintLast Go.Proofs.YtpkcnifchggbnaaDoorW.PrintMore
set_option linter.unusedVariables false
set_option linter.unusedSimpArgs false
attribute [local go_sem] Oper.semAt_some
/-- the iterator's own cells: the separator, what is left, 0 -/
structure Cap (b1 b2 b3 : Nat) (r : List UInt8) (W : World) : Prop where
  c1 : W.cell? ⟨b1, 0, none⟩ = some (.string ⟨#[32]⟩)
  c2 : W.cell? ⟨b2, 0, none⟩ = some (.string (bs r))
  c3 : W.cell? ⟨b3, 0, none⟩ = some (.int .i64 0)
  f2 : W.frozen? ⟨b2, 0, none⟩ = false
  n1 : b1 ≠ b2
  n3 : b3 ≠ b2
def leftOf (W : World) (b : Nat) : Nat := match W.cell? ⟨b, 0, none⟩ with | some (.string t) => t.size | _ => 0
theorem Cap.left {b1 b2 b3 : Nat} {r : List UInt8} {W : World} (h : Cap b1 b2 b3 r W) : leftOf W b2 = r.length := by
  unfold leftOf
  rw [h.c2]
  simp [bs, ByteArray.size]
theorem Cap.set {b1 b2 b3 : Nat} {r : List UInt8} {W : World} (h : Cap b1 b2 b3 r W) (t : List UInt8) : Cap b1 b2 b3 t (W.setCell ⟨b2, 0, none⟩ (.string (bs t))) where
  c1 := (World.cell?_of_block (Below.heap_setCell _ _ _ _ h.n1)).trans h.c1
  c2 := World.cell?_setCell_same' W ⟨b2, 0, none⟩ _ (by rw [h.c2]; rfl)
  c3 := (World.cell?_of_block (Below.heap_setCell _ _ _ _ h.n3)).trans h.c3
  f2 := by rw [World.frozen?_setCell]; exact h.f2
  n1 := h.n1
  n3 := h.n3
theorem Cap.below {b1 b2 b3 : Nat} {r : List UInt8} {W W' : World} (h : Cap b1 b2 b3 r W) (hb : Below W.heap.size W W') : Cap b1 b2 b3 r W' where
  c1 := (hb.cell (p := ⟨b1, 0, none⟩) (World.block_lt_of_cell? _ _ h.c1)).trans h.c1
  c2 := (hb.cell (p := ⟨b2, 0, none⟩) (World.block_lt_of_cell? _ _ h.c2)).trans h.c2
  c3 := (hb.cell (p := ⟨b3, 0, none⟩) (World.block_lt_of_cell? _ _ h.c3)).trans h.c3
  f2 := (hb.frozen (p := ⟨b2, 0, none⟩) (World.block_lt_of_cell? _ _ h.c2)).trans h.f2
  n1 := h.n1
  n3 := h.n3
theorem split_len {c : UInt8} : ∀ (l : List UInt8), ∀ x ∈ splitL c l, x.length ≤ l.length
  | [], x, h => by rw [List.mem_singleton.1 h]; exact Nat.le_refl _
  | b :: t, x, h => by
    by_cases hb : b = c
    · simp only [splitL, if_pos hb, List.mem_cons] at h
      rcases h with rfl | h
      · simp
      · have := split_len t x h
        rw [List.length_cons]
        omega
    · cases he : splitL c t with
      | nil => exact absurd he (splitL_ne c t)
      | cons y r =>
        rw [splitL_cons hb he] at h
        rcases List.mem_cons.1 h with rfl | h
        · have := split_len t y (by rw [he]; exact List.mem_cons_self)
          rw [List.length_cons, List.length_cons]
          omega
        · have := split_len t x (by rw [he]; exact List.mem_cons_of_mem _ h)
          rw [List.length_cons]
          omega
set_option maxHeartbeats 4000000 in
set_option maxRecDepth 100000 in
theorem splitN_in (n : Nat) (hn : 1 ≤ n) (l b1 b2 b3 : Nat) (s : List UInt8) (hsl : s.length ≤ 1000000) (J : List (List UInt8) → World → Prop) (Jx : World → Prop)
    (hJ : ∀ pre W v, J pre W → J pre (W.setCell ⟨b2, 0, none⟩ v))
    (hY : ∀ pre x W, J pre W → (∃ rest, splitL 32 s = pre ++ x :: rest) → YieldAt Fence.wide (n - 1) Tryd.prog l #[.string (bs x)] W fun e W' =>
      (e = .returned (.bool true) ∧ J (pre ++ [x]) W' ∧ ∀ r, Cap b1 b2 b3 r W → Cap b1 b2 b3 r W') ∨ (e = .returned (.bool false) ∧ Jx W'))
    (W : World) (hC : Cap b1 b2 b3 s W) (h0 : J [] W) :
    CallsIn Fence.wide n Tryd.prog 78 #[.func (.yield l) #[] #[], .pointer (some ⟨b1, 0, none⟩), .pointer (some ⟨b2, 0, none⟩), .pointer (some ⟨b3, 0, none⟩)] W fun e W' => (∃ v, e = .returned v) ∧
      (J (splitL 32 s) W' ∨ Jx W') := by
  have c1 := hC.c1
  have HC := Aside0.mk hC
  clear hC
  refine callsIn_of_wp Tryd.func78 rfl trivial ?_ rfl
  simp only [Tryd.ntmps78, List.size_toArray, List.length_cons, List.length_nil, Nat.reduceAdd, Nat.reduceSub, Array.replicate_succ, Array.replicate_zero, List.push_toArray, List.append_toArray, List.nil_append, List.cons_append]
  gi_wp2
  clear c1
  gi_loopw [7, 8] (fun v7 v8 wr => ∃ (pre : List (List UInt8)) (r : List UInt8), Aside0 (splitL 32 s = pre ++ splitL 32 r) ∧ r.length ≤ s.length ∧ Aside0 (Cap b1 b2 b3 r wr) ∧ Aside0 (J pre wr)) (fun _ _ wr => leftOf wr b2)
  case atStart => exact ⟨[], s, ⟨rfl⟩, Nat.le_refl _, HC, ⟨h0⟩⟩
  case round =>
    obtain ⟨pre, r, HS, hrl, HCR, HJ⟩ := hrel
    obtain ⟨w1, rfl⟩ : ∃ w1 : World, w1 = wr := ⟨_, rfl⟩
    clear HC
    have c1 := HCR.out.c1
    have c2 := HCR.out.c2
    have c3 := HCR.out.c3
    have HIX : Calls Tryd.prog 80 #[.string (bs r), .string ⟨#[32]⟩] w1 fun e w' => e = .returned (.int .i64 (Lib.indexByte r 32)) ∧ w' = w1 := Tryd.strings_Index_one (bs r) 32 w1
    by_cases hi : Lib.indexByte r 32 = -1
    · rw [hi] at HIX
      have hw := HS.out
      rw [split_none hi] at hw
      obtain ⟨fn, tmps, assign, body, hy, hR⟩ := hY pre r w1 HJ.out ⟨[], hw⟩
      have HW := Aside0.mk hw
      clear hw
      gi_wp2_with (refine ⟨trivial, ?_⟩; gi_at_call 80; refine (callsIn_wide.2 HIX).mono ?_; rintro e w' ⟨rfl, rfl⟩)
      refine hR.mono ?_
      rintro e W3 (⟨rfl, hJ3, _⟩ | ⟨rfl, hJx3⟩)
      · gi_wp2
        go_end0
        exact ⟨⟨_, rfl⟩, .inl (by rw [HW.out]; exact hJ3)⟩
      · gi_wp2
        go_end0
        exact ⟨⟨_, rfl⟩, .inr hJx3⟩
    · obtain ⟨o, ho⟩ : ∃ o : Nat, Lib.indexByte r 32 = o := ⟨(Lib.indexByte r 32).toNat, by have := Lib.indexByte_ge r 32; omega⟩
      rw [ho] at HIX
      obtain ⟨hol, hsp⟩ := split_some ho
      have hw := HS.out
      rw [hsp] at hw
      obtain ⟨fn, tmps, assign, body, hy, hR⟩ := hY pre (r.take o) w1 HJ.out ⟨_, hw⟩
      have HW := Aside0.mk (show splitL 32 s = (pre ++ [r.take o]) ++ splitL 32 (r.drop (o + 1)) by rw [hw]; simp)
      have e1 : (bs r).extract 0 o = bs (r.take o) := by
        apply ByteArray.ext
        simp [bs]
      have E2 := Aside0.mk (show (bs r).extract (o + 1) (bs r).size = bs (r.drop (o + 1)) by
        apply ByteArray.ext
        simp [bs]
        exact List.take_of_length_le (by simp [ByteArray.size]))
      rw [← e1] at hy
      have hz : (bs r).size = r.length := by simp [bs, ByteArray.size]
      have hz0 : o < (bs r).size := by omega
      have hz1 : (bs r).size ≤ 1000000 := by omega
      have HZ := Aside0.mk hz
      clear hw hsp hi ho e1 hz
      obtain ⟨t, ht⟩ : ∃ t, t = bs r := ⟨_, rfl⟩
      rw [← ht] at c2 HIX hy hz0 hz1 HZ E2
      have HT := Aside0.mk ht
      clear ht
      have hw1 : IntKind.i64.wrap ((o : Int) + 1) = (o : Int) + 1 := i64w (by omega) (by omega)
      gi_wp2_with (refine ⟨trivial, ?_⟩; gi_at_call 80; refine (callsIn_wide.2 HIX).mono ?_; rintro e w' ⟨rfl, rfl⟩)
      refine hR.mono ?_
      rintro e W3 (⟨rfl, hJ3, hk3⟩ | ⟨rfl, hJx3⟩)
      · have HC3 := Aside0.mk (hk3 r HCR.out)
        have d1 := HC3.out.c1
        have d2 := HC3.out.c2
        have d3 := HC3.out.c3
        have g2 := HC3.out.f2
        rw [← HT.out] at d2
        clear c1 c2 c3 hy hk3 HIX
        gi_wp2
        rw [E2.out]
        have hs := HC3.out.set (r.drop (o + 1))
        exact ⟨⟨pre ++ [r.take o], r.drop (o + 1), HW, by rw [List.length_drop]; omega, ⟨hs⟩, ⟨hJ _ _ _ hJ3⟩⟩, by rw [hs.left, HCR.out.left, List.length_drop]; omega⟩
      · gi_wp2
        refine bodyPost_ret (results_none rfl _ _ _) rfl ?_
        exact ⟨⟨_, rfl⟩, .inr hJx3⟩
end Go.Proofs.YtpkcnifchggbnaaDoor.HI

namespace Go.Proofs.YtpkcnifchggbnaaDoor.HI
open Go.RowKit Go.Shelf Go.Proofs.YtpkcnifchggbnaaDoor.HD Go.Proofs.YtpkcnifchggbnaaDoor.HK Go.Proofs.YtpkcnifchggbnaaDoor.HU Go.Proofs.YtpkcnifchggbnaaDoorW.PrintWords Go.Proofs.YtpkcnifchggbnaaDoorW.PrintLast Go.Proofs.YtpkcnifchggbnaaDoorW.PrintMore
set_option linter.unusedVariables false
set_option linter.unusedSimpArgs false
/-- how a round is left: it goes on, or it returns -/
def roundEnd (b1 b2 b3 : Nat) (I : List (List UInt8) → World → Prop) (Ix : World → Prop) (xs : List (List UInt8)) (W : World) : Exit → Act → World → Prop
  | .normal, _, W' => KeepsOthers W W' ∧ (∀ r, Cap b1 b2 b3 r W → Cap b1 b2 b3 r W') ∧ I xs W'
  | .ret, _, W' => KeepsOthers W W' ∧ Ix W'
  | _, _, _ => False
theorem Cap.put {b1 b2 b3 : Nat} {r : List UInt8} {W : World} {l : Nat} {o : Obj} (o' : Obj) (h : Cap b1 b2 b3 r W) (hl : W.heap[l]? = some o) (ho : o.isCells = false) : Cap b1 b2 b3 r (W.putObj l o') where
  c1 := cell_kept h.c1 (grownBy_putObj' W l o') (fun k e => by cases e; exact ⟨o, hl, ho⟩)
  c2 := cell_kept h.c2 (grownBy_putObj' W l o') (fun k e => by cases e; exact ⟨o, hl, ho⟩)
  c3 := cell_kept h.c3 (grownBy_putObj' W l o') (fun k e => by cases e; exact ⟨o, hl, ho⟩)
  f2 := (frozen_kept h.c2 (grownBy_putObj' W l o') (fun k e => by cases e; exact ⟨o, hl, ho⟩)).trans h.f2
  n1 := h.n1
  n3 := h.n3
theorem wp_split {g : Operand} {ps : Array Tmp} {assign body : Code} {Q : Exit → Act → World → Prop} {a : Act} {w : World} (n : Nat) (hn : 2 ≤ n) (hps : ps.size = 1) (s : List UInt8) (hsl : s.length ≤ 1000000) (b1 b2 b3 : Nat)
    (hg : a.eval g = .func (.func 78) #[] #[.pointer (some ⟨b1, 0, none⟩), .pointer (some ⟨b2, 0, none⟩), .pointer (some ⟨b3, 0, none⟩)]) (hC : Cap b1 b2 b3 s w)
    (I : List (List UInt8) → World → Prop) (Ix : World → Prop)
    (hIa : ∀ pre W o, I pre W → I pre (W.alloc o))
    (hIp : ∀ pre W l o o', I pre W → w.heap.size ≤ l → W.heap[l]? = some o → o.isCells = false → I pre (W.putObj l o'))
    (hIs : ∀ pre W v, I pre W → I pre (W.setCell ⟨b2, 0, none⟩ v))
    (hXp : ∀ W l o o', Ix W → w.heap.size ≤ l → W.heap[l]? = some o → o.isCells = false → Ix (W.putObj l o'))
    (h0 : I [] w) (a₁ : List UInt8 → Act)
    (hassign : ∀ (l : Nat) (x : List UInt8) (W : World) (K : Act → World → Prop), K (a₁ x) W →
      assign.wpIn (Fence.wide.inRound l) (n - 1 - 1) Tryd.prog (Exit.then K (fun _ _ _ => False)) { tmps := (ps.zip #[.string (bs x)]).foldl (fun t (p, v) => t.setIfInBounds p v) a.tmps, defers := [] } W)
    (hbody : ∀ (l : Nat) (pre : List (List UInt8)) (x : List UInt8) (W : World), I pre W → (∃ rest, splitL 32 s = pre ++ x :: rest) → body.wpIn (Fence.wide.inRound l) (n - 1 - 1) Tryd.prog (roundEnd b1 b2 b3 I Ix (pre ++ [x]) W) (a₁ x) W)
    (hdone : ∀ (D : Nat) (W : World), w.heap.size ≤ D → I (splitL 32 s) W → W.heap[D]? = some (.deferred (some [])) → Q .normal { a with defers := { target := .collected D, args := #[] } :: a.defers } W)
    (hstop : ∀ (D : Nat) (W : World), w.heap.size ≤ D → Ix W → W.heap[D]? = some (.deferred (some [])) → Code.ret.wpIn Fence.wide n Tryd.prog Q { a with defers := { target := .collected D, args := #[] } :: a.defers } W) :
    (Code.rangeFunc g ps assign body).wpIn Fence.wide n Tryd.prog Q a w := by
  refine wpIn_rangeFunc fun fn hfn => ?_
  have hb2 : b2 < w.heap.size := World.block_lt_of_cell? w _ hC.c2
  -- the loop's record in each of its states; it lies at L, the rounds' deferred calls at D
  obtain ⟨rec, hrec⟩ : ∃ rec : LoopState → Option Code → Loop, ∀ st pe, rec st pe = { state := st, pending := pe, fn := fn, tmps := a.tmps, params := ps, assign := assign, body := body, defers := w.heap.size } := ⟨_, fun _ _ => rfl⟩
  obtain ⟨D, hD⟩ : ∃ D, D = w.heap.size := ⟨_, rfl⟩
  have hmk := run_enterLoop_outer (P := Tryd.prog) (w := w) fn a.tmps ps assign body
  rw [← hrec .ready none, ← hD] at hmk
  have hz1 : (w.alloc (.deferred (some []))).heap.size = D + 1 := by rw [World.size_alloc, hD]
  have hL : ((w.alloc (.deferred (some []))).alloc (.loop (rec .ready none))).heap[D + 1]? = some (.loop (rec .ready none)) := by
    rw [← hz1]
    exact World.alloc_heap_new _ _
  have hK : ((w.alloc (.deferred (some []))).alloc (.loop (rec .ready none))).heap[D]? = some (.deferred (some [])) := by
    rw [hD]
    exact (Below.heap_alloc _ _ _ (by rw [hz1]; omega)).trans (World.alloc_heap_new w _)
  have hI1 := hIa _ _ (.loop (rec .ready none)) (hIa _ _ (.deferred (some [])) h0)
  have hC1 := hC.below (below_alloc (below_alloc (Below.refl w.heap.size w) (.deferred (some []))) (.loop (rec .ready none)))
  have hbd : ∀ {W W' : World} {k : Nat} {o : Obj}, k ≠ b2 → W.heap[k]? = some o → ∀ v, (W.setCell ⟨b2, 0, none⟩ v).heap[k]? = some o := fun hk ho v => (Below.heap_setCell _ _ _ _ hk).trans ho
  generalize (w.alloc (.deferred (some []))).alloc (.loop (rec .ready none)) = W1 at hmk hL hK hI1 hC1
  refine ⟨D + 1, _, W1, { target := .fn (.func 78) #[.pointer (some ⟨b1, 0, none⟩), .pointer (some ⟨b2, 0, none⟩), .pointer (some ⟨b3, 0, none⟩)], args := #[.func (.yield (D + 1)) #[] #[]] }, W1, 78, #[.func (.yield (D + 1)) #[] #[]] ++ #[.pointer (some ⟨b1, 0, none⟩), .pointer (some ⟨b2, 0, none⟩), .pointer (some ⟨b3, 0, none⟩)], W1, hmk, ?_, fun f' hf' => trivial, ?_, fun _ => by omega, ?_⟩
  · simp only [resolve, hg]
    simp [go_sem]
  · have eg := enters_of Tryd.func78 (by kernel_rfl) rfl
    simp [invoke, go_sem, eg]
  · refine (splitN_in (n - 1) (by omega) (D + 1) b1 b2 b3 s hsl
      (fun pre W => I pre W ∧ W.heap[D + 1]? = some (.loop (rec .ready none)) ∧ W.heap[D]? = some (.deferred (some [])))
      (fun W => Ix W ∧ W.heap[D + 1]? = some (.loop (rec .done (some .ret))) ∧ W.heap[D]? = some (.deferred (some [])))
      (fun pre W v h => ⟨hIs _ _ _ h.1, (Below.heap_setCell _ _ _ _ (show D + 1 ≠ b2 by omega)).trans h.2.1, (Below.heap_setCell _ _ _ _ (show D ≠ b2 by omega)).trans h.2.2⟩)
      ?_ W1 hC1 ⟨hI1, hL, hK⟩).mono ?_
    · -- a round
      rintro pre x W ⟨hi, hl, hk⟩ hx
      have hy := run_yield (P := Tryd.prog) (args := #[.string (bs x)]) hl (by rw [hrec, hps]; rfl)
      rw [hrec] at hy
      refine ⟨fn, _, assign, body, hy, roundIn_of_wpIn hfn (hassign _ x W _ ⟨_, run_beginRound hl (by rw [hrec]), ?_⟩)⟩
      have hlt := (Array.getElem?_eq_some_iff.1 hl).1
      have hbusy : ({ rec .ready none with state := .busy } : Loop) = rec .busy none := by rw [hrec, hrec]
      rw [hbusy]
      have hC2 : ∀ r, Cap b1 b2 b3 r W → Cap b1 b2 b3 r (W.putObj (D + 1) (.loop (rec .busy none))) := fun r h => h.put _ hl rfl
      have hi2 := hIp pre W (D + 1) _ (.loop (rec .busy none)) hi (by omega) hl rfl
      have hl2 : (W.putObj (D + 1) (.loop (rec .busy none))).heap[D + 1]? = some (.loop (rec .busy none)) := World.putObj_heap_same hlt
      have hk2 : (W.putObj (D + 1) (.loop (rec .busy none))).heap[D]? = some (.deferred (some [])) := (World.putObj_heap_other (by omega)).trans hk
      refine wpIn_mono (hbody _ pre x _ hi2 hx) ?_
      rintro e a3 W3 hp
      cases e with
      | normal =>
        obtain ⟨k3, c3, i3⟩ := hp
        have hl3 := k3.same _ _ hl2 rfl
        have hk3 := k3.same _ _ hk2 rfl
        have he := run_endRound (P := Tryd.prog) none hl3
        have hw : ({ rec .busy none with state := if (none : Option Code).isNone then .ready else .done, pending := none } : Loop) = rec .ready none := by rw [hrec, hrec]; rfl
        rw [hw] at he
        exact ⟨_, _, he, .inl ⟨rfl, ⟨hIp _ _ _ _ _ i3 (by omega) hl3 rfl, World.putObj_heap_same (Array.getElem?_eq_some_iff.1 hl3).1, (World.putObj_heap_other (by omega)).trans hk3⟩, fun r h => (c3 r (hC2 r h)).put _ hl3 rfl⟩⟩
      | ret =>
        obtain ⟨k3, i3⟩ := hp
        have hl3 := k3.same _ _ hl2 rfl
        have hk3 := k3.same _ _ hk2 rfl
        have he := run_endRound (P := Tryd.prog) (some .ret) hl3
        have hw : ({ rec .busy none with state := if (some Code.ret).isNone then .ready else .done, pending := some .ret } : Loop) = rec .done (some .ret) := by rw [hrec, hrec]; rfl
        rw [hw] at he
        exact ⟨_, _, he, .inr ⟨rfl, hXp _ _ _ _ i3 (by omega) hl3 rfl, World.putObj_heap_same (Array.getElem?_eq_some_iff.1 hl3).1, (World.putObj_heap_other (by omega)).trans hk3⟩⟩
      | exit id => exact hp.elim
      | goto t => exact hp.elim
      | panic ch => exact hp.elim
      | outgrown => exact hp.elim
    · -- behind the iterator
      rintro e W2 ⟨⟨v, rfl⟩, (⟨hi, hl, hk⟩ | ⟨hi, hl, hk⟩)⟩
      · have he := run_endLoop (P := Tryd.prog) hl (by rw [hrec]; simp)
        rw [hrec] at he
        exact ⟨none, _, he, hdone D _ (by omega) (hIp _ _ _ _ _ hi (by omega) hl rfl) ((World.putObj_heap_other (by omega)).trans hk)⟩
      · have he := run_endLoop (P := Tryd.prog) hl (by rw [hrec]; simp)
        rw [hrec] at he
        exact ⟨some .ret, _, he, hstop D _ (by omega) (hXp _ _ _ _ hi (by omega) hl rfl) ((World.putObj_heap_other (by omega)).trans hk)⟩
end Go.Proofs.YtpkcnifchggbnaaDoor.HI

namespace Go.Proofs.YtpkcnifchggbnaaDoor.HI
open Go.RowKit Go.Shelf
set_option linter.unusedVariables false
set_option linter.unusedSimpArgs false
section
variable {F : Fence} {n : Nat} {P : Program} {ops : Array Oper} {Q : Exit → Act → World → Prop}
/-- what binds an operation has been listed -/
def Dep (ops : Array Oper) (L : Array Bool) (o : Oper) : Prop := ∀ e ∈ o.after.toList, Region.binds .any e = true → L.getD e.on false = true
def Shut (ops : Array Oper) (L : Array Bool) : Prop := ∀ (j : Nat) (o : Oper), ops[j]? = some o → L.getD j false = true → Dep ops L o
theorem getD_set (L : Array Bool) (i j : Nat) (d : Bool) (hi : i < L.size) : (L.setIfInBounds i true).getD j d = if j = i then true else L.getD j d := by
  by_cases h : j = i
  · subst h
    simp [Array.getD_eq_getD_getElem?, hi]
  · simp [Array.getD_eq_getD_getElem?, Array.getElem?_setIfInBounds_ne (Ne.symm h), h]
theorem Dep.more {L : Array Bool} {o : Oper} {i : Nat} (hi : i < L.size) (h : Dep ops L o) : Dep ops (L.setIfInBounds i true) o := fun e he hb => by
  rw [getD_set L i e.on false hi]
  split
  · rfl
  · exact h e he hb
theorem ready_mem {L : Array Bool} {i : Nat} {o : Oper} (ho : ops[i]? = some o) : i ∈ Region.ready .any ops L ↔ L.getD i true = false ∧ Dep ops L o := by
  have hi : i < ops.size := (Array.getElem?_eq_some_iff.1 ho).1
  simp only [Region.ready, List.mem_filter, List.mem_range, hi, true_and, ho, Option.map_some, Option.getD_some, Bool.and_eq_true, Bool.not_eq_true', Array.all_eq_true', Dep, Bool.or_eq_true, Array.mem_toList_iff]
  constructor
  · rintro ⟨h1, h2⟩
    refine ⟨h1, fun e he hb => ?_⟩
    rcases h2 e he with h | h
    · rw [hb] at h; cases h
    · exact h
  · rintro ⟨h1, h2⟩
    refine ⟨h1, fun e he => ?_⟩
    cases hb : Region.binds .any e with
    | false => exact .inl rfl
    | true => exact .inr (h2 e he hb)
theorem all_listed {L : Array Bool} (hz : L.size = ops.size) (hord : ∀ (i : Nat) (o : Oper), ops[i]? = some o → ∀ e ∈ o.after.toList, e.on < i) (h : Region.ready .any ops L = []) : ∀ i, i < ops.size → L.getD i false = true := by
  intro i
  induction i using Nat.strongRecOn with
  | _ i ih =>
    intro hi
    have ho : ops[i]? = some ops[i] := Array.getElem?_eq_getElem hi
    have hd : Dep ops L ops[i] := fun e he _ => ih e.on (hord i _ ho e he) (by have := hord i _ ho e he; omega)
    have hg : L.getD i true = L.getD i false := by simp [Array.getD_eq_getD_getElem?, show i < L.size by omega]
    cases hc : L.getD i false with
    | true => rfl
    | false =>
      have : i ∈ Region.ready .any ops L := (ready_mem ho).2 ⟨hg.trans hc, hd⟩
      rw [h] at this
      cases this
def nF (L : Array Bool) : Nat := L.toList.count false
theorem nF_set {L : Array Bool} {i : Nat} (h : L.getD i true = false) : nF (L.setIfInBounds i true) + 1 = nF L := by
  unfold nF
  have hi : i < L.size := by
    rcases Nat.lt_or_ge i L.size with h1 | h1
    · exact h1
    · simp [Array.getD_eq_getD_getElem?, h1] at h
  have he : L.toList[i]'(by simpa using hi) = false := by simpa [Array.getD_eq_getD_getElem?, hi] using h
  rw [Array.toList_setIfInBounds, List.count_set (by simpa using hi), he]
  have hm : 0 < L.toList.count false := List.count_pos_iff.2 (he ▸ List.getElem_mem _)
  simp only [beq_self_eq_true, if_true, show (true == false) = false from rfl, Bool.false_eq_true, if_false, Nat.add_zero]
  omega
theorem any_inv (hord : ∀ (i : Nat) (o : Oper), ops[i]? = some o → ∀ e ∈ o.after.toList, e.on < i) (Inv : Array Bool → Act → World → Prop)
    (hs : ∀ (i : Nat) (o : Oper) L a w, ops[i]? = some o → L.size = ops.size → L.getD i false = false → Dep ops L o → Shut ops L → Inv L a w → wpOpIn F n P ops Q i (Inv (L.setIfInBounds i true)) a w)
    (hq : ∀ L a w, L.size = ops.size → (∀ i, i < ops.size → L.getD i false = true) → Inv L a w → Q .normal a w) :
    ∀ fuel L a w, L.size = ops.size → nF L ≤ fuel → Shut ops L → Inv L a w → wpAnyIn F n P .any ops Q fuel L a w := by
  intro fuel
  induction fuel with
  | zero =>
    intro L a w hz hf hc hi
    have hr : Region.ready .any ops L = [] := by
      rw [Region.ready, List.filter_eq_nil_iff]
      intro i hm
      have hlt : i < L.size := by rw [hz]; exact List.mem_range.1 hm
      have h0 : L.toList.count false = 0 := by unfold nF at hf; omega
      have hn := List.count_eq_zero.1 h0
      have : L[i] = true := by
        cases hb : L[i] with
        | true => rfl
        | false => exact absurd (by rw [← hb]; exact Array.getElem_mem_toList hlt) hn
      simp [Array.getD_eq_getD_getElem?, hlt, this]
    exact ⟨hr, hq L a w hz (all_listed hz hord hr) hi⟩
  | succ fuel ih =>
    intro L a w hz hf hc hi
    refine ⟨fun hr => hq L a w hz (all_listed hz hord hr) hi, fun i hm => ?_⟩
    have hlt : i < ops.size := by
      rw [Region.ready, List.mem_filter] at hm
      exact List.mem_range.1 hm.1
    have ho : ops[i]? = some ops[i] := Array.getElem?_eq_getElem hlt
    obtain ⟨h1, h2⟩ := (ready_mem ho).1 hm
    have hg : L.getD i false = false := by
      have : L.getD i true = L.getD i false := by simp [Array.getD_eq_getD_getElem?, show i < L.size by omega]
      rw [← this]; exact h1
    refine wpOpIn_mono (fun a' w' h => ih _ a' w' (by simpa using hz) (by have := nF_set h1; omega) ?_ h) (hs i _ L a w ho hz hg h2 hc hi)
    intro j o' hj hl
    rw [getD_set L i j false (by omega)] at hl
    by_cases he : j = i
    · subst he
      obtain rfl : ops[j] = o' := Option.some.inj (ho.symm.trans hj)
      exact h2.more (by omega)
    · rw [if_neg he] at hl
      exact (hc j o' hj hl).more (by omega)
theorem region_inv {id : Nat} {a0 : Act} {w0 : World} (hm : P.follows .mixedOrders = true) (hord : ∀ (i : Nat) (o : Oper), ops[i]? = some o → ∀ e ∈ o.after.toList, e.on < i) (Inv : Array Bool → Act → World → Prop)
    (h0 : Inv (Array.replicate ops.size false) a0 w0.drew)
    (hs : ∀ (i : Nat) (o : Oper) L a w, ops[i]? = some o → L.size = ops.size → L.getD i false = false → Dep ops L o → Shut ops L → Inv L a w → wpOpIn F n P ops Q i (Inv (L.setIfInBounds i true)) a w)
    (hq : ∀ L a w, L.size = ops.size → (∀ i, i < ops.size → L.getD i false = true) → Inv L a w → Q .normal a w) : (Code.region id ops true).wpIn F n P Q a0 w0 := by
  refine wpIn_region_any hm (any_inv hord Inv hs hq _ _ _ _ (by simp) (by unfold nF; simp) ?_ h0)
  intro j o hj hl
  have hf : (Array.replicate ops.size false).getD j false = false := by
    rw [Array.getD_eq_getD_getElem?, Array.getElem?_replicate]
    split <;> rfl
  rw [hf] at hl
  cases hl
theorem ord_of (h : ((List.range ops.size).all fun i => match ops[i]? with | some o => o.after.toList.all fun e => decide (e.on < i) | none => true) = true) : ∀ (i : Nat) (o : Oper), ops[i]? = some o → ∀ e ∈ o.after.toList, e.on < i := by
  intro i o ho e he
  have hi : i < ops.size := (Array.getElem?_eq_some_iff.1 ho).1
  have := List.all_eq_true.1 h i (List.mem_range.2 hi)
  rw [ho] at this
  exact of_decide_eq_true (List.all_eq_true.1 this e he)
section
variable {ρ : Operand → Value} {o : Oper} {w w' : World} {v : Value}
theorem ex_move {x : Operand} (h : o.op = .move x) (hx : ρ x = v) : (execOp ρ o).run P w = .ok (.value v) w := by
  unfold execOp
  simp [h, hx]
theorem ex_load {t : TypeId} {x : Operand} {p : Value} (h : o.op = .load t x) (hx : ρ x = p) (hr : (Instr.loadAt t p).run P w = .ok v w) : (execOp ρ o).run P w = .ok (.value v) w := by
  unfold execOp
  simp [h, hx, Sem.run_bind, hr, Result.andThen]
theorem ex_index {t : TypeId} {x y : Operand} {p q : Value} (h : o.op = .indexAddr t x y) (hx : ρ x = p) (hy : ρ y = q) (hr : (Instr.indexAt t p q).run P w = .ok v w) : (execOp ρ o).run P w = .ok (.value v) w := by
  unfold execOp
  simp [h, hx, hy, Sem.run_bind, hr, Result.andThen]
theorem ex_build {t : TypeId} {ps : Array (Nat × Operand)} {qs : Array (Nat × Value)} (h : o.op = .build t ps) (hq : (ps.map fun (i, x) => (i, ρ x)) = qs) (hr : (Instr.build t qs).run P w = .ok v w) : (execOp ρ o).run P w = .ok (.value v) w := by
  unfold execOp
  simp [h, hq, Sem.run_bind, hr, Result.andThen]
theorem ex_buildSlice {t : TypeId} {n : Nat} {ps : Array (Nat × Operand)} {qs : Array (Nat × Value)} (h : o.op = .buildSlice t n ps) (hq : (ps.map fun (i, x) => (i, ρ x)) = qs) (hr : (Instr.buildSlice t n qs).run P w = .ok v w') : (execOp ρ o).run P w = .ok (.value v) w' := by
  unfold execOp
  simp [h, hq, Sem.run_bind, hr, Result.andThen]
theorem ex_store {t : TypeId} {x y : Operand} {p q : Value} (h : o.op = .store t x y) (hx : ρ x = p) (hy : ρ y = q) (hr : (Instr.storeAt t p q).run P w = .ok () w') : (execOp ρ o).run P w = .ok .skip w' := by
  unfold execOp
  simp [h, hx, hy, Sem.run_bind, hr, Result.andThen]
theorem ex_append {t : TypeId} {x y : Operand} {p q : Value} (h : o.op = .call { callee := .builtin .append, args := #[x, y], argTypes := #[t, t] }) (hx : ρ x = p) (hy : ρ y = q) (hr : (Builtin.append_ #[t, t] o.type #[p, q]).run P w = .ok v w') : (execOp ρ o).run P w = .ok (.value v) w' := by
  unfold execOp
  simp only [h, resolve, invoke, builtin, Sem.run_bind, Sem.run_pure, Result.andThen_ok, List.map_toArray, List.map_cons, List.map_nil, hx, hy, hr]
end
/-- an operation that gives a value and leaves the world: what follows. -/
theorem op_val {l i : Nat} {o : Oper} {K : Act → World → Prop} {a : Act} {w : World} {v : Value} (ho : ops[i]? = some o) (hg : o.guard = none) (hop : ∀ c, o.op ≠ .defer c) {w' : World} (hr : (execOp a.eval o).run P w = .ok (.value v) w') (h : K (a.put o.dst v) w') :
    wpOpIn (Fence.wide.inRound l) n P ops Q i K a w := by
  have hw : Region.wanted o (yielded ops a.tmps) = true := by simp [Region.wanted, hg]
  unfold wpOpIn
  rw [ho]
  simp only [hw, if_true]
  refine ⟨fun f _ => trivial, ?_⟩
  rw [show (Fence.wide.inRound l).round = some l from rfl, Oper.semAt_some l a.eval o hop, hr]
  exact h
theorem op_skip {l i : Nat} {o : Oper} {K : Act → World → Prop} {a : Act} {w : World} (ho : ops[i]? = some o) (hg : o.guard = none) (hop : ∀ c, o.op ≠ .defer c) {w' : World} (hr : (execOp a.eval o).run P w = .ok .skip w') (h : K (a.put o.dst undef) w') :
    wpOpIn (Fence.wide.inRound l) n P ops Q i K a w := by
  have hw : Region.wanted o (yielded ops a.tmps) = true := by simp [Region.wanted, hg]
  unfold wpOpIn
  rw [ho]
  simp only [hw, if_true]
  refine ⟨fun f _ => trivial, ?_⟩
  rw [show (Fence.wide.inRound l).round = some l from rfl, Oper.semAt_some l a.eval o hop, hr]
  exact h
end
end Go.Proofs.YtpkcnifchggbnaaDoor.HI

namespace Go.Proofs.YtpkcnifchggbnaaDoor.HI
open Go.RowKit Go.Shelf Go.Proofs.YtpkcnifchggbnaaDoor.HD Go.Proofs.YtpkcnifchggbnaaDoor.HK Go.Proofs.YtpkcnifchggbnaaDoor.HU Go.Proofs.YtpkcnifchggbnaaDoorW.PrintWords Go.Proofs.YtpkcnifchggbnaaDoorW.PrintLast Go.Proofs.YtpkcnifchggbnaaDoorW.PrintMore
set_option linter.unusedVariables false
set_option linter.unusedSimpArgs false
/-- what each operation's slot holds once it is listed -/
def vAt (v0 sv sl : Value) (ad : Addr) (n0 n1 n2 n3 n4 : Int) : Nat → Value
  | 0 => v0
  | 1 => sv
  | 2 => .pointer (some ad)
  | 3 => .int .i64 n0
  | 4 => sv
  | 5 => .pointer (some (ad.add 1))
  | 6 => .int .i64 n1
  | 7 => sv
  | 8 => .pointer (some (ad.add 2))
  | 9 => .int .i64 n2
  | 10 => sv
  | 11 => .pointer (some (ad.add 3))
  | 12 => .int .i64 n3
  | 13 => sv
  | 14 => .pointer (some (ad.add 4))
  | 15 => .int .i64 n4
  | 16 => .agg #[.int .i64 n0, .int .i64 n1, .int .i64 n3, .int .i64 n4, .int .i64 n2]
  | _ => sl
structure RI (val : Nat → Value) (q4 q6 : Value) (w1 wx : World) (Ap : Value → World → Prop) (Dn : World → Prop) (L : Array Bool) (a : Act) (w : World) : Prop where
  t4 : a.tmps[4]? = some q4
  t6 : a.tmps[6]? = some q6
  sz : a.tmps.size = 51
  vals : ∀ i, i < 18 → L.getD i false = true → a.tmps[19 + i]? = some (val i)
  ph : (L.getD 17 false = false ∧ w = w1) ∨ (L.getD 17 false = true ∧ L.getD 18 false = false ∧ (∀ i, 1 ≤ i → i ≤ 16 → L.getD i false = true) ∧ w = wx) ∨
    ((∀ i, i ≤ 18 → L.getD i false = true) ∧ L.getD 19 false = false ∧ ∃ v, a.tmps[37]? = some v ∧ Ap v w) ∨ ((∀ i, i ≤ 18 → L.getD i false = true) ∧ L.getD 19 false = true ∧ Dn w)
section
variable {val : Nat → Value} {q4 q6 : Value} {w1 wx : World} {Ap : Value → World → Prop} {Dn : World → Prop} {L : Array Bool} {a : Act} {w : World}
theorem RI.ev (h : RI val q4 q6 w1 wx Ap Dn L a w) {i : Nat} (hi : i < 18) (hl : L.getD i false = true) : a.eval (.tmp (19 + i)) = val i := by
  simp [Act.eval, Array.getD_eq_getD_getElem?, h.vals i hi hl]
theorem RI.ev4 (h : RI val q4 q6 w1 wx Ap Dn L a w) : a.eval (.tmp 4) = q4 := by simp [Act.eval, Array.getD_eq_getD_getElem?, h.t4]
theorem RI.ev6 (h : RI val q4 q6 w1 wx Ap Dn L a w) : a.eval (.tmp 6) = q6 := by simp [Act.eval, Array.getD_eq_getD_getElem?, h.t6]
theorem RI.world (h : RI val q4 q6 w1 wx Ap Dn L a w) {i : Nat} (hi : i ≤ 16) (hl : L.getD i false = false) : w = w1 ∨ w = wx := by
  rcases h.ph with ⟨_, h⟩ | ⟨_, _, _, h⟩ | ⟨h, _⟩ | ⟨h, _⟩
  · exact .inl h
  · exact .inr h
  · rw [h i (by omega)] at hl; cases hl
  · rw [h i (by omega)] at hl; cases hl
theorem put_far {a : Act} {d k : Nat} {v u : Value} (h : a.tmps[k]? = some u) (hne : d ≠ k) : (a.put (some d) v).tmps[k]? = some u := by
  show (a.tmps.setIfInBounds d v)[k]? = _
  rw [Array.getElem?_setIfInBounds_ne hne]
  exact h
theorem put_same {a : Act} {d : Nat} {v : Value} (h : d < a.tmps.size) : (a.put (some d) v).tmps[d]? = some v := by
  show (a.tmps.setIfInBounds d v)[d]? = _
  simp [h]
theorem RI.val_step (h : RI val q4 q6 w1 wx Ap Dn L a w) (hz : L.size = 20) {i : Nat} (hi : i < 17) (hl : L.getD i false = false) : RI val q4 q6 w1 wx Ap Dn (L.setIfInBounds i true) (a.put (some (19 + i)) (val i)) w := by
  have hs : ∀ j, j ≠ i → (L.setIfInBounds i true).getD j false = L.getD j false := fun j hj => by rw [getD_set L i j false (by omega), if_neg hj]
  have hm : ∀ j, L.getD j false = true → (L.setIfInBounds i true).getD j false = true := fun j hj => by
    rw [getD_set L i j false (by omega)]
    split
    · rfl
    · exact hj
  refine ⟨put_far h.t4 (by omega), put_far h.t6 (by omega), by show (a.tmps.setIfInBounds _ _).size = 51; simpa using h.sz, fun j hj hlj => ?_, ?_⟩
  · by_cases he : j = i
    · subst he
      exact put_same (by rw [h.sz]; omega)
    · rw [hs j he] at hlj
      exact put_far (h.vals j hj hlj) (by omega)
  · rcases h.ph with ⟨h1, h2⟩ | ⟨h1, h2, h3, h4⟩ | ⟨h1, _⟩ | ⟨h1, _⟩
    · exact .inl ⟨by rw [hs 17 (by omega)]; exact h1, h2⟩
    · exact .inr (.inl ⟨by rw [hs 17 (by omega)]; exact h1, by rw [hs 18 (by omega)]; exact h2, fun j a b => hm j (h3 j a b), h4⟩)
    · rw [h1 i (by omega)] at hl; cases hl
    · rw [h1 i (by omega)] at hl; cases hl
theorem RI.alloc_step (h : RI val q4 q6 w1 wx Ap Dn L a w) (hz : L.size = 20) (hl : L.getD 17 false = false) (hall : ∀ i, 1 ≤ i → i ≤ 16 → L.getD i false = true) (h18 : L.getD 18 false = false) : RI val q4 q6 w1 wx Ap Dn (L.setIfInBounds 17 true) (a.put (some 36) (val 17)) wx := by
  have hs : ∀ j, j ≠ 17 → (L.setIfInBounds 17 true).getD j false = L.getD j false := fun j hj => by rw [getD_set L 17 j false (by omega), if_neg hj]
  refine ⟨put_far h.t4 (by omega), put_far h.t6 (by omega), by show (a.tmps.setIfInBounds _ _).size = 51; simpa using h.sz, fun j hj hlj => ?_, .inr (.inl ⟨by rw [getD_set L 17 17 false (by omega), if_pos rfl], by rw [hs 18 (by omega)]; exact h18, fun j a b => by rw [hs j (by omega)]; exact hall j a b, rfl⟩)⟩
  by_cases he : j = 17
  · subst he
    exact put_same (by rw [h.sz]; omega)
  · rw [hs j he] at hlj
    exact put_far (h.vals j hj hlj) (by omega)
theorem RI.app_step (h : RI val q4 q6 w1 wx Ap Dn L a w) (hz : L.size = 20) (h0 : L.getD 0 false = true) (hall : ∀ i, 1 ≤ i → i ≤ 16 → L.getD i false = true) (h17 : L.getD 17 false = true) (h19 : L.getD 19 false = false) {v : Value} {w' : World} (hA : Ap v w') : RI val q4 q6 w1 wx Ap Dn (L.setIfInBounds 18 true) (a.put (some 37) v) w' := by
  have hs : ∀ j, j ≠ 18 → (L.setIfInBounds 18 true).getD j false = L.getD j false := fun j hj => by rw [getD_set L 18 j false (by omega), if_neg hj]
  refine ⟨put_far h.t4 (by omega), put_far h.t6 (by omega), by show (a.tmps.setIfInBounds _ _).size = 51; simpa using h.sz, fun j hj hlj => ?_, .inr (.inr (.inl ⟨fun j hj => ?_, by rw [hs 19 (by omega)]; exact h19, v, put_same (by rw [h.sz]; omega), hA⟩))⟩
  · rw [hs j (by omega)] at hlj
    exact put_far (h.vals j hj hlj) (by omega)
  · by_cases he : j = 18
    · rw [he, getD_set L 18 18 false (by omega), if_pos rfl]
    · rw [hs j he]
      by_cases h1 : j = 0
      · rw [h1]; exact h0
      · by_cases h2 : j = 17
        · rw [h2]; exact h17
        · exact hall j (by omega) (by omega)
theorem RI.done_step (h : RI val q4 q6 w1 wx Ap Dn L a w) (hz : L.size = 20) (hall : ∀ i, i ≤ 18 → L.getD i false = true) {w' : World} (hD : Dn w') : RI val q4 q6 w1 wx Ap Dn (L.setIfInBounds 19 true) a w' := by
  have hs : ∀ j, j ≠ 19 → (L.setIfInBounds 19 true).getD j false = L.getD j false := fun j hj => by rw [getD_set L 19 j false (by omega), if_neg hj]
  exact ⟨h.t4, h.t6, h.sz, fun j hj hlj => h.vals j hj (by rw [hs j (by omega)] at hlj; exact hlj), .inr (.inr (.inr ⟨fun j hj => by rw [hs j (by omega)]; exact hall j hj, by rw [getD_set L 19 19 false (by omega), if_pos rfl], hD⟩))⟩
end
theorem run_app {W : World} {base b : Nat} {ok : Nat → Prop} {v : Value} {xs : List Cho} (x : Cho) (ty : TypeId) (HO : Kd.R k40 40 W base ok v xs) (hb : W.heap[b]? = some (cc x)) (hfresh : ∀ k, W.heap.size ≤ k → ok k) (hbase : base ≤ W.heap.size) (hl : (xs.length + 1) * 40 ≤ 140737488355328) :
    ∃ v1 w1, (Builtin.append_ #[22, 22] ty #[v, .slice (some ⟨b, 0, none⟩) 1 1]).run Tryd.prog W = .ok v1 w1 ∧ Kd.R k40 40 w1 base ok v1 (xs ++ [x]) ∧ W.grownBy w1 v.ownBlock := by
  obtain ⟨h0, inner, hown, hr⟩ := HO
  obtain ⟨i0, hi, hz0, hz1, hz2⟩ := info_parts infoCh
  obtain ⟨a0, a1, a2, a3, a4⟩ := cells_c hb
  obtain ⟨v1, w1, hrun, hown1, hg1, _, hat1⟩ := run_append_own_at (P := Tryd.prog) (w := W) base 22 ty 40 i0 _ 5 40 Tryd.underlying22 hi hz0 hz1 hz2 rfl (by decide) v xs.length inner hown ⟨b, 0, none⟩ 1 1 (encC x) rfl
    (fun j u hu => by
      have hj : j < 5 := by
        rcases Nat.lt_or_ge j 5 with h | h
        · exact h
        · rw [List.getElem?_eq_none (by simpa [encC] using h)] at hu; cases hu
      obtain rfl | rfl | rfl | rfl | rfl : j = 0 ∨ j = 1 ∨ j = 2 ∨ j = 3 ∨ j = 4 := by omega
      all_goals (
        obtain rfl := Option.some.inj hu
        simp only [Addr.add]
        assumption))
    (fun u hu => by
      simp only [encC, List.mem_cons, List.not_mem_nil, or_false] at hu
      rcases hu with rfl | rfl | rfl | rfl | rfl <;> rfl) (by simp only [maxLen]; omega) hl hbase
  refine ⟨v1, w1, hrun, Kd.R_appended h0 hr (k40_mkM W base (fun _ => False) x) (fun _ h => h.elim) hfresh hown1 hg1 ?_, hg1⟩
  rcases hat1 with h | h
  · exact .inl h
  · exact .inr ⟨_, h, Nat.le_refl _⟩
end Go.Proofs.YtpkcnifchggbnaaDoor.HI

namespace Go.Proofs.YtpkcnifchggbnaaDoor.HI
open Go.RowKit Go.Shelf Go.Proofs.YtpkcnifchggbnaaDoor.HD Go.Proofs.YtpkcnifchggbnaaDoor.HK Go.Proofs.YtpkcnifchggbnaaDoor.HU Go.Proofs.YtpkcnifchggbnaaDoorW.PrintWords Go.Proofs.YtpkcnifchggbnaaDoorW.PrintLast Go.Proofs.YtpkcnifchggbnaaDoorW.PrintMore
set_option linter.unusedVariables false
set_option linter.unusedSimpArgs false
attribute [local go_sem] Oper.semAt_some
def OkX (b b1 b2 b3 k : Nat) : Prop := k ≠ b2 ∧ k ≠ b ∧ k ≠ b + 1 ∧ k ≠ b + 1 + 1 ∧ k ≠ b1 ∧ k ≠ b3
abbrev RX (W : World) (b b1 b2 b3 : Nat) (v : Value) (xs : List Cho) : Prop := Kd.R k40 40 W b (OkX b b1 b2 b3) v xs
/-- between two rounds -/
structure PI (w : World) (b1 b2 b3 : Nat) (pre : List (List UInt8)) (W : World) : Prop where
  e0 : W.cell? ⟨w.heap.size, 0, none⟩ = some (.slice none 0 0)
  e1 : W.cell? ⟨w.heap.size + 1, 0, none⟩ = some (.int .i64 0)
  g0 : W.frozen? ⟨w.heap.size, 0, none⟩ = false
  g1 : W.frozen? ⟨w.heap.size + 1, 0, none⟩ = false
  g2 : W.frozen? ⟨w.heap.size + 1 + 1, 0, none⟩ = false
  hb : Below w.heap.size w W
  hz : (w.heap.size + 1 + 1 < b1 ∧ w.heap.size + 1 + 1 < b2 ∧ w.heap.size + 1 + 1 < b3) ∧ b1 < W.heap.size ∧ b2 < W.heap.size ∧ b3 < W.heap.size
  hl : ∃ v l, readW pre = some l ∧ W.cell? ⟨w.heap.size + 1 + 1, 0, none⟩ = some v ∧ RX W w.heap.size b1 b2 b3 v l
/-- a word that is no choice: it returns -/
structure PX (w : World) (s : List UInt8) (W : World) : Prop where
  e0 : W.cell? ⟨w.heap.size, 0, none⟩ = some (.slice none 0 0)
  e1 : W.cell? ⟨w.heap.size + 1, 0, none⟩ = some (.int .i64 240)
  hb : Below w.heap.size w W
  no : readW (splitL 32 s) = none
theorem readW_app : ∀ (a b : List (List UInt8)), readW (a ++ b) = (readW a).bind fun l => (readW b).map (l ++ ·)
  | [], b => by simp [readW]
  | x :: t, b => by
    rw [List.cons_append, readW, readW, readW_app t b]
    split
    · cases readW t <;> cases readW b <;> simp
    · rfl
theorem readW_len : ∀ {a : List (List UInt8)} {l : List Cho}, readW a = some l → l.length = a.length
  | [], l, h => by rw [← Option.some.inj h]; rfl
  | x :: t, l, h => by
    rw [readW] at h
    split at h
    · cases ht : readW t with
      | none => rw [ht] at h; cases h
      | some m =>
        rw [ht] at h
        rw [← Option.some.inj h, List.length_cons, List.length_cons, readW_len ht]
    · cases h
theorem split_num (c : UInt8) : ∀ (l : List UInt8), (splitL c l).length ≤ l.length + 1
  | [] => Nat.le_refl _
  | b :: t => by
    have h := split_num c t
    by_cases hb : b = c
    · simp only [splitL, if_pos hb, List.length_cons]
      omega
    · cases he : splitL c t with
      | nil => exact absurd he (splitL_ne c t)
      | cons y r =>
        rw [splitL_cons hb he]
        rw [he] at h
        simp only [List.length_cons] at *
        omega
theorem readW_no {a : List (List UInt8)} {x : List UInt8} (b : List (List UInt8)) (h : (numL (bs x)).length ≠ 5) : readW (a ++ x :: b) = none := by
  rw [readW_app, readW, if_neg h]
  cases readW a <;> rfl
theorem readW_snoc {a : List (List UInt8)} {x : List UInt8} {l : List Cho} (ha : readW a = some l) (h : (numL (bs x)).length = 5) : readW (a ++ [x]) = some (l ++ [choN (numL (bs x))]) := by
  rw [readW_app, ha, Option.bind_some, readW, if_pos h]
  rfl
theorem R_putObj {W : World} {base l : Nat} {ok : Nat → Prop} {v : Value} {xs : List Cho} {o : Obj} (o' : Obj) (h : Kd.R k40 40 W base ok v xs) (hl : W.heap[l]? = some o) (ho : o.isCells = false) : Kd.R k40 40 (W.putObj l o') base ok v xs := by
  have ht := Kd.R_step (w1 := W.putObj l o') (Kd.R_tight rfl h) (fun k hk _ => World.putObj_heap_other (fun e => by
    subst e
    obtain ⟨cells, hc⟩ := Kd.R_typed h k hk.symm
    rw [hl] at hc
    cases hc
    cases ho))
  exact Kd.R_reok rfl ht h.1
theorem PI.alloc {w : World} {b1 b2 b3 : Nat} {pre : List (List UInt8)} {W : World} (h : PI w b1 b2 b3 pre W) (o : Obj) : PI w b1 b2 b3 pre (W.alloc o) where
  e0 := cellw_alloc o h.e0
  e1 := cellw_alloc o h.e1
  g0 := frzw_alloc o h.e0 h.g0
  g1 := frzw_alloc o h.e1 h.g1
  g2 := by obtain ⟨v, l, _, hc, _⟩ := h.hl; exact frzw_alloc o hc h.g2
  hb := below_alloc h.hb o
  hz := by have := h.hz; rw [World.size_alloc]; omega
  hl := by obtain ⟨v, l, hr, hc, hR⟩ := h.hl; exact ⟨v, l, hr, cellw_alloc o hc, Kd.R_alloc hR o⟩
theorem PI.put {w wl : World} {b1 b2 b3 : Nat} {pre : List (List UInt8)} {W : World} {l : Nat} {o : Obj} (hz : w.heap.size ≤ wl.heap.size) (h : PI w b1 b2 b3 pre W) (o' : Obj) (hle : wl.heap.size ≤ l) (hl : W.heap[l]? = some o) (ho : o.isCells = false) : PI w b1 b2 b3 pre (W.putObj l o') := by
  have hg := grownBy_putObj' W l o'
  have hr : ∀ r, some l = some r → ∃ o : Obj, W.heap[r]? = some o ∧ o.isCells = false := fun r e => by cases e; exact ⟨o, hl, ho⟩
  obtain ⟨v, xs, hrd, hc, hR⟩ := h.hl
  exact ⟨cell_kept h.e0 hg hr, cell_kept h.e1 hg hr, (frozen_kept h.e0 hg hr).trans h.g0, (frozen_kept h.e1 hg hr).trans h.g1, (frozen_kept hc hg hr).trans h.g2,
    h.hb.grown hg h.hb.size (fun k e => by cases e; omega), by rw [World.putObj_size]; exact h.hz, v, xs, hrd, cell_kept hc hg hr, R_putObj o' hR hl ho⟩
theorem PI.set {w : World} {b1 b2 b3 : Nat} {pre : List (List UInt8)} {W : World} (h : PI w b1 b2 b3 pre W) (v : Value) : PI w b1 b2 b3 pre (W.setCell ⟨b2, 0, none⟩ v) := by
  obtain ⟨u, xs, hrd, hc, hR⟩ := h.hl
  have hz := h.hz
  have hk : ∀ (k : Nat), k ≠ b2 → (W.setCell ⟨b2, 0, none⟩ v).cell? ⟨k, 0, none⟩ = W.cell? ⟨k, 0, none⟩ := fun k hne => World.cell?_of_block (Below.heap_setCell _ _ _ _ hne)
  exact ⟨(hk _ (by omega)).trans h.e0, (hk _ (by omega)).trans h.e1, (World.frozen?_setCell ..).trans h.g0, (World.frozen?_setCell ..).trans h.g1, (World.frozen?_setCell ..).trans h.g2,
    below_set h.hb (by show w.heap.size ≤ b2; omega), by rw [World.size_setCell]; exact hz, u, xs, hrd, (hk _ (by omega)).trans hc, Kd.R_far hR (fun k hk => hk.1) v⟩
theorem PX.put {w wl : World} {s : List UInt8} {W : World} {l : Nat} {o : Obj} (hz : w.heap.size ≤ wl.heap.size) (h : PX w s W) (o' : Obj) (hle : wl.heap.size ≤ l) (hl : W.heap[l]? = some o) (ho : o.isCells = false) : PX w s (W.putObj l o') := by
  have hg := grownBy_putObj' W l o'
  have hr : ∀ r, some l = some r → ∃ o : Obj, W.heap[r]? = some o ∧ o.isCells = false := fun r e => by cases e; exact ⟨o, hl, ho⟩
  exact ⟨cell_kept h.e0 hg hr, cell_kept h.e1 hg hr, h.hb.grown hg h.hb.size (fun k e => by cases e; omega), h.no⟩
theorem two_set {W : World} {h : Nat} {u0 u1 v0 v1 : Value} (e0 : W.cell? ⟨h, 0, none⟩ = some u0) (e1 : W.cell? ⟨h + 1, 0, none⟩ = some u1) :
    ((W.setCell ⟨h, 0, none⟩ v0).setCell ⟨h + 1, 0, none⟩ v1).cell? ⟨h, 0, none⟩ = some v0 ∧ ((W.setCell ⟨h, 0, none⟩ v0).setCell ⟨h + 1, 0, none⟩ v1).cell? ⟨h + 1, 0, none⟩ = some v1 :=
  ⟨(World.cell?_of_block (Below.heap_setCell _ _ _ _ (by simp))).trans (World.cell?_setCell_same' W ⟨h, 0, none⟩ _ (by rw [e0]; rfl)),
    World.cell?_setCell_same' _ _ _ (by rw [World.cell?_of_block (w := W) (Below.heap_setCell _ _ _ _ (by simp)), e1]; rfl)⟩
/-- the end of Parse: the results are stored, the rounds' deferred calls (there are none) are taken -/
theorem parse_end {w W : World} {a : Act} {D : Nat} {s : List UInt8} {v : Value} {e : Int} (hd : a.defers = [{ target := .collected D, args := #[] }]) (h2 : a.tmps[2]? = some (.pointer (some ⟨w.heap.size, 0, none⟩))) (h3 : a.tmps[3]? = some (.pointer (some ⟨w.heap.size + 1, 0, none⟩)))
    (hD : w.heap.size ≤ D) (hK : W.heap[D]? = some (.deferred (some []))) (c0 : W.cell? ⟨w.heap.size, 0, none⟩ = some v) (c1 : W.cell? ⟨w.heap.size + 1, 0, none⟩ = some (.int .i64 e)) (he : parseE s = e)
    (hR : Kd.R k40 40 W w.heap.size (fun _ => True) v ((parseO s).getD [])) (hb : Below w.heap.size w W) :
    bodyPostM Fence.wide 5 Tryd.prog Tryd.f17 (fun e w' => ∃ v, e = .returned (.tuple #[v, .int .i64 (parseE s)]) ∧ Kd.R k40 40 w' w.heap.size (fun _ => True) v ((parseO s).getD []) ∧ Below w.heap.size w w') .ret a W := by
  obtain ⟨tm, ds⟩ := a
  dsimp only at hd h2 h3
  subst hd
  have hc0 := Go.cell_kept c0 (grownBy_putObj' W D (.deferred none)) (fun r e => by cases e; exact ⟨_, hK, rfl⟩)
  have hc1 := Go.cell_kept c1 (grownBy_putObj' W D (.deferred none)) (fun r e => by cases e; exact ⟨_, hK, rfl⟩)
  refine ⟨by simp, .inl ⟨_, _, rfl, run_takeDeferred hK, .tuple #[v, .int .i64 e], ?_, v, by rw [he], R_putObj _ hR hK rfl, hb.trans (belowK_b (w := w) (Nat.le_refl _) W D _ _ hD hK rfl rfl)⟩⟩
  simp [results, Tryd.f17, go_sem, h2, h3, hc0, hc1]
theorem frozen_block {W W' : World} {k j : Nat} (h : W'.heap[k]? = W.heap[k]?) : W'.frozen? ⟨k, j, none⟩ = W.frozen? ⟨k, j, none⟩ := by
  simp only [World.frozen?, h]
theorem Cap.same {b1 b2 b3 : Nat} {r : List UInt8} {W W' : World} (h : Cap b1 b2 b3 r W) (hk : ∀ k, (k = b1 ∨ k = b2 ∨ k = b3) → W'.heap[k]? = W.heap[k]?) : Cap b1 b2 b3 r W' where
  c1 := (World.cell?_of_block (hk _ (.inl rfl))).trans h.c1
  c2 := (World.cell?_of_block (hk _ (.inr (.inl rfl)))).trans h.c2
  c3 := (World.cell?_of_block (hk _ (.inr (.inr rfl)))).trans h.c3
  f2 := (frozen_block (hk _ (.inr (.inl rfl)))).trans h.f2
  n1 := h.n1
  n3 := h.n3
theorem rep_false (n i : Nat) : (Array.replicate n false).getD i false = false := by
  rw [Array.getD_eq_getD_getElem?, Array.getElem?_replicate]
  split <;> rfl
theorem load_int {V : World} {q : Addr} {n : Int} (h : V.cell? q = some (.int .i64 n)) : (Instr.loadAt 3 (.pointer (some q))).run Tryd.prog V = .ok (.int .i64 n) V := by go_simp
theorem splitSeq_k (s : List UInt8) (w : World) :
    Calls Tryd.prog 61 #[.string (bs s), .string ⟨#[32]⟩, .int .i64 0] w fun e w' => (∃ b1 b2 b3, e = .returned (.func (.func 78) #[] #[.pointer (some ⟨b1, 0, none⟩), .pointer (some ⟨b2, 0, none⟩), .pointer (some ⟨b3, 0, none⟩)]) ∧ Cap b1 b2 b3 s w' ∧ w.heap.size ≤ b1 ∧ w.heap.size ≤ b2 ∧ w.heap.size ≤ b3) ∧ Below w.heap.size w w' := by
  go_enter Tryd.func61, Tryd.ntmps61
  go_wp2_with fail
  go_ret
  have k0 := cellw_new w (.string (bs s)) 9
  have k1 := cellw_new (w.alloc (.cells #[.string (bs s)] 9)) (.string ⟨#[32]⟩) 9
  have k2 := cellw_new ((w.alloc (.cells #[.string (bs s)] 9)).alloc (.cells #[.string ⟨#[32]⟩] 9)) (.int .i64 0) 3
  simp only [World.size_alloc] at k1 k2
  exact ⟨⟨_, _, _, rfl, ⟨cellw_alloc _ k1.1, cellw_alloc _ (cellw_alloc _ k0.1), k2.1, frzw_alloc _ (cellw_alloc _ k0.1) (frzw_alloc _ k0.1 k0.2), by omega, by omega⟩, by omega, by omega, by omega⟩, below_alloc (below_alloc (below_alloc (Below.refl _ _) _) _) _⟩
theorem SplitSeq_k (s : List UInt8) (w : World) :
    Calls Tryd.prog 38 #[.string (bs s), .string ⟨#[32]⟩] w fun e w' => (∃ b1 b2 b3, e = .returned (.func (.func 78) #[] #[.pointer (some ⟨b1, 0, none⟩), .pointer (some ⟨b2, 0, none⟩), .pointer (some ⟨b3, 0, none⟩)]) ∧ Cap b1 b2 b3 s w' ∧ w.heap.size ≤ b1 ∧ w.heap.size ≤ b2 ∧ w.heap.size ≤ b3) ∧ Below w.heap.size w w' := by
  go_enter Tryd.func38, Tryd.ntmps38
  go_wp2_with fail
  refine (splitSeq_k s w).mono ?_
  rintro e w1 ⟨⟨b1, b2, b3, rfl, h1, h2⟩, hb⟩
  go_wp2
  go_ret
  exact ⟨⟨b1, b2, b3, rfl, h1, h2⟩, hb⟩
set_option maxHeartbeats 4000000 in
set_option maxRecDepth 100000 in
theorem parse_w (s : List UInt8) (w : World) (hs : s.length ≤ 40000) (ht : Tab w) (hd' : s ≠ [45]) :
    Calls Tryd.prog 17 #[.string (bs s)] w fun e w' => ∃ v, e = .returned (.tuple #[v, .int .i64 (parseE s)]) ∧ Kd.R k40 40 w' w.heap.size (fun _ => True) v ((parseO s).getD []) ∧ Below w.heap.size w w' := by
  refine (callsIn_wide (n := 5)).1 ?_
  refine callsIn_of_wp_marks Tryd.func17 rfl trivial ?_ rfl
  simp only [Tryd.ntmps17, List.size_toArray, List.length_cons, List.length_nil, Nat.reduceAdd, Nat.reduceSub, Array.replicate_succ, Array.replicate_zero, List.push_toArray, List.append_toArray, List.nil_append, List.cons_append]
  have HSP := SplitSeq_k s
  have HT := Aside0.mk ht
  have hd : ((bs s).toList == [45]) = false := by
    have : (bs s).toList = s := by simp [bs, ByteArray.toList_eq]
    rw [this]
    simpa using hd'
  have HD := Aside0.mk hd'
  clear ht hd'
  gi_wp2_with (refine ⟨trivial, ?_⟩; gi_at_call 38; refine (callsIn_wide.2 (HSP _)).mono ?_; rintro e wl ⟨⟨b1, b2, b3, rfl, hC, hb1, hb2, hb3⟩, hb⟩)
  have hz : w.heap.size + 3 ≤ wl.heap.size := by have := hb.size; simp at this; omega
  have hzb : w.heap.size + 1 + 1 < b1 ∧ w.heap.size + 1 + 1 < b2 ∧ w.heap.size + 1 + 1 < b3 := by simp at hb1 hb2 hb3; omega
  have hlt : b1 < wl.heap.size ∧ b2 < wl.heap.size ∧ b3 < wl.heap.size := ⟨World.block_lt_of_cell? _ _ hC.c1, World.block_lt_of_cell? _ _ hC.c2, World.block_lt_of_cell? _ _ hC.c3⟩
  have hPI : PI w b1 b2 b3 [] wl := by
    have k0 := cellw_new w (.slice none 0 0) 22
    have k1 := cellw_new (w.alloc (.cells #[.slice none 0 0] 22)) (.int .i64 0) 27
    have k2 := cellw_new ((w.alloc (.cells #[.slice none 0 0] 22)).alloc (.cells #[.int .i64 0] 27)) (.slice none 0 0) 22
    simp only [World.size_alloc] at k1 k2
    exact ⟨(hb.cell (p := ⟨w.heap.size, 0, none⟩) (by simp; omega)).trans (cellw_alloc _ (cellw_alloc _ k0.1)), (hb.cell (p := ⟨w.heap.size + 1, 0, none⟩) (by simp)).trans (cellw_alloc _ k1.1),
      (hb.frozen (p := ⟨w.heap.size, 0, none⟩) (by simp; omega)).trans (frzw_alloc _ (cellw_alloc _ k0.1) (frzw_alloc _ k0.1 k0.2)), (hb.frozen (p := ⟨w.heap.size + 1, 0, none⟩) (by simp)).trans (frzw_alloc _ k1.1 k1.2),
      (hb.frozen (p := ⟨w.heap.size + 1 + 1, 0, none⟩) (by simp)).trans k2.2, below_then (below_alloc (below_alloc (below_alloc (Below.refl _ _) _) _) _) (by simp; omega) hb, ⟨hzb, hlt⟩,
      _, [], rfl, (hb.cell (p := ⟨w.heap.size + 1 + 1, 0, none⟩) (by simp)).trans k2.1, Kd.R_nil _ _ _ _ _⟩
  clear hb hb1 hb2 hb3
  refine wp_split 5 (by decide) rfl s (by omega) b1 b2 b3 rfl hC (PI w b1 b2 b3) (PX w s) (fun _ _ o h => h.alloc o) (fun _ _ _ _ o' h h1 h2 h3 => h.put (by omega) o' h1 h2 h3) (fun _ _ v h => h.set v) (fun _ _ _ o' h h1 h2 h3 => h.put (by omega) o' h1 h2 h3) hPI
    (fun x => { tmps := #[.string (bs s), undef, .pointer (some ⟨w.heap.size, 0, none⟩), .pointer (some ⟨w.heap.size + 1, 0, none⟩), .pointer (some ⟨w.heap.size + 1 + 1, 0, none⟩), .string (bs x), undef, undef, undef, .string (bs s), .bool true, .string (bs s), .func (.func 78) #[] #[.pointer (some ⟨b1, 0, none⟩), .pointer (some ⟨b2, 0, none⟩), .pointer (some ⟨b3, 0, none⟩)], .string (bs x), undef, undef, undef, undef, undef, undef, undef, undef, undef, undef, undef, undef, undef, undef, undef, undef, undef, undef, undef, undef, undef, undef, undef, undef, undef, undef, undef, undef, undef, undef, undef, undef, undef, undef, undef, undef, undef], defers := [] }) ?assign ?body ?done ?stop
  case assign =>
    intro l x W K hK
    gi_wp2
    exact hK
  case body =>
    rintro l pre x W hI ⟨rest, hx⟩
    have hxl : (bs x).size ≤ 1000000 := by
      have := split_len s x (by rw [hx]; simp)
      have : (bs x).size = x.length := by simp [bs, ByteArray.size]
      omega
    have e0 := hI.e0
    have e1 := hI.e1
    have g0 := hI.g0
    have g1 := hI.g1
    have HI := Aside0.mk hI
    have HX := Aside0.mk hx
    have HNC := numbers_c (bs x) W hxl
    clear hI hx hPI hC hd
    by_cases hn : (numL (bs x)).length = 5
    · have HN := Aside0.mk hn
      clear hn
      gi_wp2_with (refine ⟨trivial, ?_⟩; gi_at_call 39; refine (CallsIn.inRound l (callsIn_wide.2 HNC)).mono ?_; rintro e W2 ⟨v, rfl, hR, hb⟩; obtain ⟨Av, cv, rfl, hlc, hCv⟩ := Kd.R_reads hR; rw [HN.out] at hlc hCv ⊢; have HRV := Aside0.mk hCv; clear hCv hR)
      obtain ⟨v0, xs, hrd, hc0, hRx⟩ := HI.out.hl
      have hz0 := HI.out.hz
      have hc := (hb.cell (p := ⟨w.heap.size + 1 + 1, 0, none⟩) (World.block_lt_of_cell? _ _ hc0)).trans hc0
      have hf := (hb.frozen (p := ⟨w.heap.size + 1 + 1, 0, none⟩) (World.block_lt_of_cell? _ _ hc0)).trans HI.out.g2
      have hR2 := Kd.R_below hRx hb
      obtain ⟨ad, hAv, n0⟩ := Kd.at_int HRV.out 0 (by omega) (by omega)
      subst hAv
      obtain ⟨_, he, n1⟩ := Kd.at_int HRV.out 1 (by omega) (by omega)
      injection he with he
      subst he
      obtain ⟨_, he, n2⟩ := Kd.at_int HRV.out 2 (by omega) (by omega)
      injection he with he
      subst he
      obtain ⟨_, he, n3⟩ := Kd.at_int HRV.out 3 (by omega) (by omega)
      injection he with he
      subst he
      obtain ⟨_, he, n4⟩ := Kd.at_int HRV.out 4 (by omega) (by omega)
      injection he with he
      subst he
      have hrd0 : ∀ k : Nat, rd (numL (bs x)) (k : Int) = (numL (bs x)).getD k 0 := fun k => by simp [rd, List.getD_eq_getElem?_getD]
      obtain ⟨c, hcN⟩ : ∃ c : Cho, c = choN (numL (bs x)) := ⟨_, rfl⟩
      have m0 : W2.cell? ad = some (.int .i64 c.f0) := by rw [hcN]; exact n0.trans (by rw [show (0 : Int) = ((0 : Nat) : Int) from rfl, hrd0]; rfl)
      have m1 : W2.cell? (ad.add 1) = some (.int .i64 c.f1) := by rw [hcN]; exact n1.trans (by rw [show (1 : Int) = ((1 : Nat) : Int) from rfl, hrd0]; rfl)
      have m2 : W2.cell? (ad.add 2) = some (.int .i64 c.f4) := by rw [hcN]; exact n2.trans (by rw [show (2 : Int) = ((2 : Nat) : Int) from rfl, hrd0]; rfl)
      have m3 : W2.cell? (ad.add 3) = some (.int .i64 c.f2) := by rw [hcN]; exact n3.trans (by rw [show (3 : Int) = ((3 : Nat) : Int) from rfl, hrd0]; rfl)
      have m4 : W2.cell? (ad.add 4) = some (.int .i64 c.f3) := by rw [hcN]; exact n4.trans (by rw [show (4 : Int) = ((4 : Nat) : Int) from rfl, hrd0]; rfl)
      clear n0 n1 n2 n3 n4 hrd0
      have HCN := Aside0.mk hcN
      clear hcN
      obtain ⟨A0, c0, hv0, _, _⟩ := Kd.R_reads hR2
      subst hv0
      obtain ⟨w1, hw1⟩ : ∃ w1 : World, w1 = W2.drew := ⟨_, rfl⟩
      obtain ⟨wx, hwx⟩ : ∃ wx : World, wx = w1.alloc (cc c) := ⟨_, rfl⟩
      have hb1 : Below W2.heap.size W2 w1 := hw1 ▸ below_drew (Below.refl _ _)
      have hbx : Below W2.heap.size W2 wx := hwx ▸ below_alloc hb1 _
      have cw : ∀ (q : Addr) (v : Value), W2.cell? q = some v → ∀ V, V = w1 ∨ V = wx → V.cell? q = some v := fun q v h V hV => by
        have hq := World.block_lt_of_cell? _ _ h
        rcases hV with rfl | rfl
        · exact (hb1.cell hq).trans h
        · exact (hbx.cell hq).trans h
      have hL0 : ∀ V, V = w1 ∨ V = wx → (Instr.loadAt 22 (.pointer (some ⟨w.heap.size + 1 + 1, 0, none⟩))).run Tryd.prog V = .ok (.slice A0 xs.length c0) V := fun V hV => by
        have := cw _ _ hc V hV
        go_simp
      have hN0 : ∀ V, V = w1 ∨ V = wx → (Instr.loadAt 3 (.pointer (some ad))).run Tryd.prog V = .ok (.int .i64 c.f0) V := fun V hV => load_int (cw _ _ m0 V hV)
      have hN1 : ∀ V, V = w1 ∨ V = wx → (Instr.loadAt 3 (.pointer (some (ad.add 1)))).run Tryd.prog V = .ok (.int .i64 c.f1) V := fun V hV => load_int (cw _ _ m1 V hV)
      have hN2 : ∀ V, V = w1 ∨ V = wx → (Instr.loadAt 3 (.pointer (some (ad.add 2)))).run Tryd.prog V = .ok (.int .i64 c.f4) V := fun V hV => load_int (cw _ _ m2 V hV)
      have hN3 : ∀ V, V = w1 ∨ V = wx → (Instr.loadAt 3 (.pointer (some (ad.add 3)))).run Tryd.prog V = .ok (.int .i64 c.f2) V := fun V hV => load_int (cw _ _ m3 V hV)
      have hN4 : ∀ V, V = w1 ∨ V = wx → (Instr.loadAt 3 (.pointer (some (ad.add 4)))).run Tryd.prog V = .ok (.int .i64 c.f3) V := fun V hV => load_int (cw _ _ m4 V hV)
      have hX0 : ∀ V, (Instr.indexAt 59 (.slice (some ad) 5 cv) (.int .i64 0)).run Tryd.prog V = .ok (.pointer (some ad)) V := fun V => by go_simp
      have hX1 : ∀ V, (Instr.indexAt 59 (.slice (some ad) 5 cv) (.int .i64 1)).run Tryd.prog V = .ok (.pointer (some (ad.add 1))) V := fun V => by go_simp
      have hX2 : ∀ V, (Instr.indexAt 59 (.slice (some ad) 5 cv) (.int .i64 2)).run Tryd.prog V = .ok (.pointer (some (ad.add 2))) V := fun V => by go_simp
      have hX3 : ∀ V, (Instr.indexAt 59 (.slice (some ad) 5 cv) (.int .i64 3)).run Tryd.prog V = .ok (.pointer (some (ad.add 3))) V := fun V => by go_simp
      have hX4 : ∀ V, (Instr.indexAt 59 (.slice (some ad) 5 cv) (.int .i64 4)).run Tryd.prog V = .ok (.pointer (some (ad.add 4))) V := fun V => by go_simp
      have hBD : ∀ V, (Instr.build 40 #[(0, .int .i64 c.f0), (1, .int .i64 c.f1), (4, .int .i64 c.f4), (2, .int .i64 c.f2), (3, .int .i64 c.f3)]).run Tryd.prog V = .ok (.agg #[.int .i64 c.f0, .int .i64 c.f1, .int .i64 c.f2, .int .i64 c.f3, .int .i64 c.f4]) V := fun V => by go_simp
      have hBS : (Instr.buildSlice 22 1 #[(0, .agg #[.int .i64 c.f0, .int .i64 c.f1, .int .i64 c.f2, .int .i64 c.f3, .int .i64 c.f4])]).run Tryd.prog w1 = .ok (.slice (some ⟨w1.heap.size, 0, none⟩) 1 1) wx := by rw [hwx]; go_simp
      have hR3 := Kd.R_below hR2 hbx
      have hbk : wx.heap[w1.heap.size]? = some (cc c) := hwx ▸ blk_new w1 (cc c)
      have hzx : W.heap.size ≤ wx.heap.size := Nat.le_trans hb.size hbx.size
      have hxl2 : xs.length ≤ 40001 := by
        have h1 := readW_len hrd
        have h2 := split_num 32 s
        rw [HX.out, List.length_append, List.length_cons] at h2
        omega
      obtain ⟨v1, wa, hrun, hRa, hga⟩ := run_app c 22 hR3 hbk (fun k hk => by unfold OkX; omega) (by have := HI.out.hb.size; omega) (by omega)
      obtain ⟨A1, c1, hv1, _, _⟩ := Kd.R_reads hRa
      have hown : ∀ k, (k = w.heap.size ∨ k = w.heap.size + 1 ∨ k = w.heap.size + 1 + 1 ∨ k = b1 ∨ k = b2 ∨ k = b3) → some k ≠ (Value.slice A0 xs.length c0).ownBlock := fun k hk he => by
        have := hR3.1 k he.symm
        unfold OkX at this
        omega
      obtain ⟨w3, hw3⟩ : ∃ w3 : World, w3 = wa.setCell ⟨w.heap.size + 1 + 1, 0, none⟩ v1 := ⟨_, rfl⟩
      have hh2 : w.heap.size + 1 + 1 < W.heap.size := World.block_lt_of_cell? _ _ hc0
      have hba : ∀ k, k < W.heap.size → some k ≠ (Value.slice A0 xs.length c0).ownBlock → wa.heap[k]? = W.heap[k]? := fun k hk hne =>
        (hga.block k (by omega) hne).trans ((hbx.block k (by have := hb.size; omega)).trans (hb.block k hk))
      have hcA : wa.cell? ⟨w.heap.size + 1 + 1, 0, none⟩ = some (.slice A0 xs.length c0) := (World.cell?_of_block (hba _ hh2 (hown (w.heap.size + 1 + 1) (by omega)))).trans hc0
      have hfA : wa.frozen? ⟨w.heap.size + 1 + 1, 0, none⟩ = false := (frozen_block (hba _ hh2 (hown (w.heap.size + 1 + 1) (by omega)))).trans HI.out.g2
      have hst : (Instr.storeAt 22 (.pointer (some ⟨w.heap.size + 1 + 1, 0, none⟩)) v1).run Tryd.prog wa = .ok () w3 := by
        rw [hw3]
        subst hv1
        clear hw3 hrun
        go_simp
      have hsm : ∀ k, k < W.heap.size → (k = w.heap.size ∨ k = w.heap.size + 1 ∨ k = b1 ∨ k = b2 ∨ k = b3) → w3.heap[k]? = W.heap[k]? := fun k hk hm => by
        rw [hw3]
        exact (Below.heap_setCell _ _ _ _ (show k ≠ w.heap.size + 1 + 1 by omega)).trans (hba k hk (hown k (by omega)))
      have hbw3 : Below w.heap.size w w3 := by
        rw [hw3]
        have h1 := below_then (below_then HI.out.hb HI.out.hb.size hb) (Nat.le_trans HI.out.hb.size hb.size) hbx
        exact below_set (h1.grown hga h1.size (fun k e => Kd.R_base hR3 k e)) (by show w.heap.size ≤ w.heap.size + 1 + 1; omega)
      have hD : KeepsOthers W w3 ∧ (∀ r, Cap b1 b2 b3 r W → Cap b1 b2 b3 r w3) ∧ PI w b1 b2 b3 (pre ++ [x]) w3 := by
        refine ⟨?_, fun r h => h.same fun k hk => hsm k (by omega) (by omega), ?_⟩
        · rw [hw3]
          refine (((keeps_below hb).trans (keeps_below hbx)).trans (KeepsOthers.of_grownBy hga (fun j o e ho => ?_))).trans (KeepsOthers.setCell _ _ _)
          obtain ⟨cells, hcl⟩ := Kd.R_typed hR3 j e
          rw [ho] at hcl
          cases hcl
          rfl
        · refine ⟨(World.cell?_of_block (hsm w.heap.size (by omega) (by omega))).trans HI.out.e0, (World.cell?_of_block (hsm (w.heap.size + 1) (by omega) (by omega))).trans HI.out.e1, (frozen_block (hsm w.heap.size (by omega) (by omega))).trans HI.out.g0, (frozen_block (hsm (w.heap.size + 1) (by omega) (by omega))).trans HI.out.g1, ?_, hbw3, ⟨hz0.1, ?_⟩, v1, xs ++ [c], ?_, ?_, ?_⟩
          · rw [hw3, World.frozen?_setCell]
            exact hfA
          · have h1 := hga.size
            have h2 : w3.heap.size = wa.heap.size := by rw [hw3, World.size_setCell]
            omega
          · rw [HCN.out]
            exact readW_snoc hrd HN.out
          · rw [hw3]
            exact World.cell?_setCell_same' wa ⟨w.heap.size + 1 + 1, 0, none⟩ _ (by rw [hcA]; rfl)
          · rw [hw3]
            exact Kd.R_far hRa (fun k hk => hk.2.2.2.1) v1
      have hStore : ∀ v w', (v = v1 ∧ w' = wa) → ∃ w4, (Instr.storeAt 22 (.pointer (some ⟨w.heap.size + 1 + 1, 0, none⟩)) v).run Tryd.prog w' = .ok () w4 ∧ (KeepsOthers W w4 ∧ (∀ r, Cap b1 b2 b3 r W → Cap b1 b2 b3 r w4) ∧ PI w b1 b2 b3 (pre ++ [x]) w4) := by
        rintro v w' ⟨rfl, rfl⟩
        exact ⟨w3, hst, hD⟩
      have hAp : v1 = v1 ∧ wa = wa := ⟨rfl, rfl⟩
      refine region_inv (by kernel_rfl) (ord_of (by kernel_rfl)) (RI (vAt (.slice A0 xs.length c0) (.slice (some ad) 5 cv) (.slice (some ⟨w1.heap.size, 0, none⟩) 1 1) ad c.f0 c.f1 c.f4 c.f2 c.f3) (.pointer (some ⟨w.heap.size + 1 + 1, 0, none⟩)) (.slice (some ad) 5 cv) w1 wx (fun v w' => v = v1 ∧ w' = wa) (fun w' => KeepsOthers W w' ∧ (∀ r, Cap b1 b2 b3 r W → Cap b1 b2 b3 r w') ∧ PI w b1 b2 b3 (pre ++ [x]) w')) ?h0 ?hs ?hq
      case h0 =>
        refine ⟨rfl, rfl, rfl, fun i _ hi => ?_, .inl ⟨?_, hw1.symm⟩⟩
        · rw [rep_false] at hi
          cases hi
        · exact rep_false _ _
      case hq =>
        intro L a w' hz hall h
        rcases h.ph with ⟨h1, _⟩ | ⟨_, h1, _⟩ | ⟨_, h1, _⟩ | ⟨_, _, h1⟩
        · rw [hall 17 (by decide)] at h1; cases h1
        · rw [hall 18 (by decide)] at h1; cases h1
        · rw [hall 19 (by decide)] at h1; cases h1
        · exact h1
      case hs =>
        intro i o L a w ho hz hl hd hsh h
        have hi : i < 20 := (Array.getElem?_eq_some_iff.1 ho).1
        obtain rfl | rfl | rfl | rfl | rfl | rfl | rfl | rfl | rfl | rfl | rfl | rfl | rfl | rfl | rfl | rfl | rfl | rfl | rfl | rfl : i = 0 ∨ i = 1 ∨ i = 2 ∨ i = 3 ∨ i = 4 ∨ i = 5 ∨ i = 6 ∨ i = 7 ∨ i = 8 ∨ i = 9 ∨ i = 10 ∨ i = 11 ∨ i = 12 ∨ i = 13 ∨ i = 14 ∨ i = 15 ∨ i = 16 ∨ i = 17 ∨ i = 18 ∨ i = 19 := by omega
        · obtain rfl := Option.some.inj ho
          rcases h.world (by omega) hl with rfl | rfl
          · exact op_val ho rfl (fun _ h => by cases h) (ex_load rfl h.ev4 (hL0 _ (.inl rfl))) (h.val_step hz (by omega) hl)
          · exact op_val ho rfl (fun _ h => by cases h) (ex_load rfl h.ev4 (hL0 _ (.inr rfl))) (h.val_step hz (by omega) hl)
        · obtain rfl := Option.some.inj ho
          exact op_val ho rfl (fun _ h => by cases h) (ex_move rfl h.ev6) (h.val_step hz (by omega) hl)
        · obtain rfl := Option.some.inj ho
          exact op_val ho rfl (fun _ h => by cases h) (ex_index rfl (h.ev (i := 1) (by omega) (hd ⟨1, .data⟩ (by simp) rfl)) rfl (hX0 _)) (h.val_step hz (by omega) hl)
        · obtain rfl := Option.some.inj ho
          rcases h.world (by omega) hl with rfl | rfl
          · exact op_val ho rfl (fun _ h => by cases h) (ex_load rfl (h.ev (i := 2) (by omega) (hd ⟨2, .data⟩ (by simp) rfl)) (hN0 _ (.inl rfl))) (h.val_step hz (by omega) hl)
          · exact op_val ho rfl (fun _ h => by cases h) (ex_load rfl (h.ev (i := 2) (by omega) (hd ⟨2, .data⟩ (by simp) rfl)) (hN0 _ (.inr rfl))) (h.val_step hz (by omega) hl)
        · obtain rfl := Option.some.inj ho
          exact op_val ho rfl (fun _ h => by cases h) (ex_move rfl h.ev6) (h.val_step hz (by omega) hl)
        · obtain rfl := Option.some.inj ho
          exact op_val ho rfl (fun _ h => by cases h) (ex_index rfl (h.ev (i := 4) (by omega) (hd ⟨4, .data⟩ (by simp) rfl)) rfl (hX1 _)) (h.val_step hz (by omega) hl)
        · obtain rfl := Option.some.inj ho
          rcases h.world (by omega) hl with rfl | rfl
          · exact op_val ho rfl (fun _ h => by cases h) (ex_load rfl (h.ev (i := 5) (by omega) (hd ⟨5, .data⟩ (by simp) rfl)) (hN1 _ (.inl rfl))) (h.val_step hz (by omega) hl)
          · exact op_val ho rfl (fun _ h => by cases h) (ex_load rfl (h.ev (i := 5) (by omega) (hd ⟨5, .data⟩ (by simp) rfl)) (hN1 _ (.inr rfl))) (h.val_step hz (by omega) hl)
        · obtain rfl := Option.some.inj ho
          exact op_val ho rfl (fun _ h => by cases h) (ex_move rfl h.ev6) (h.val_step hz (by omega) hl)
        · obtain rfl := Option.some.inj ho
          exact op_val ho rfl (fun _ h => by cases h) (ex_index rfl (h.ev (i := 7) (by omega) (hd ⟨7, .data⟩ (by simp) rfl)) rfl (hX2 _)) (h.val_step hz (by omega) hl)
        · obtain rfl := Option.some.inj ho
          rcases h.world (by omega) hl with rfl | rfl
          · exact op_val ho rfl (fun _ h => by cases h) (ex_load rfl (h.ev (i := 8) (by omega) (hd ⟨8, .data⟩ (by simp) rfl)) (hN2 _ (.inl rfl))) (h.val_step hz (by omega) hl)
          · exact op_val ho rfl (fun _ h => by cases h) (ex_load rfl (h.ev (i := 8) (by omega) (hd ⟨8, .data⟩ (by simp) rfl)) (hN2 _ (.inr rfl))) (h.val_step hz (by omega) hl)
        · obtain rfl := Option.some.inj ho
          exact op_val ho rfl (fun _ h => by cases h) (ex_move rfl h.ev6) (h.val_step hz (by omega) hl)
        · obtain rfl := Option.some.inj ho
          exact op_val ho rfl (fun _ h => by cases h) (ex_index rfl (h.ev (i := 10) (by omega) (hd ⟨10, .data⟩ (by simp) rfl)) rfl (hX3 _)) (h.val_step hz (by omega) hl)
        · obtain rfl := Option.some.inj ho
          rcases h.world (by omega) hl with rfl | rfl
          · exact op_val ho rfl (fun _ h => by cases h) (ex_load rfl (h.ev (i := 11) (by omega) (hd ⟨11, .data⟩ (by simp) rfl)) (hN3 _ (.inl rfl))) (h.val_step hz (by omega) hl)
          · exact op_val ho rfl (fun _ h => by cases h) (ex_load rfl (h.ev (i := 11) (by omega) (hd ⟨11, .data⟩ (by simp) rfl)) (hN3 _ (.inr rfl))) (h.val_step hz (by omega) hl)
        · obtain rfl := Option.some.inj ho
          exact op_val ho rfl (fun _ h => by cases h) (ex_move rfl h.ev6) (h.val_step hz (by omega) hl)
        · obtain rfl := Option.some.inj ho
          exact op_val ho rfl (fun _ h => by cases h) (ex_index rfl (h.ev (i := 13) (by omega) (hd ⟨13, .data⟩ (by simp) rfl)) rfl (hX4 _)) (h.val_step hz (by omega) hl)
        · obtain rfl := Option.some.inj ho
          rcases h.world (by omega) hl with rfl | rfl
          · exact op_val ho rfl (fun _ h => by cases h) (ex_load rfl (h.ev (i := 14) (by omega) (hd ⟨14, .data⟩ (by simp) rfl)) (hN4 _ (.inl rfl))) (h.val_step hz (by omega) hl)
          · exact op_val ho rfl (fun _ h => by cases h) (ex_load rfl (h.ev (i := 14) (by omega) (hd ⟨14, .data⟩ (by simp) rfl)) (hN4 _ (.inr rfl))) (h.val_step hz (by omega) hl)
        · obtain rfl := Option.some.inj ho
          have e0 := h.ev (i := 3) (by omega) (hd ⟨3, .data⟩ (by simp) rfl)
          have e1 := h.ev (i := 6) (by omega) (hd ⟨6, .data⟩ (by simp) rfl)
          have e2 := h.ev (i := 9) (by omega) (hd ⟨9, .data⟩ (by simp) rfl)
          have e3 := h.ev (i := 12) (by omega) (hd ⟨12, .data⟩ (by simp) rfl)
          have e4 := h.ev (i := 15) (by omega) (hd ⟨15, .data⟩ (by simp) rfl)
          exact op_val ho rfl (fun _ h => by cases h) (ex_build rfl (by simp only [List.map_toArray, List.map_cons, List.map_nil]; rw [e0, e1, e2, e3, e4]; rfl) (hBD _)) (h.val_step hz (by omega) hl)
        · obtain rfl := Option.some.inj ho
          have h16 := (hd ⟨16, .data⟩ (by simp) rfl)
          have d16 := hsh 16 _ rfl h16
          have h3 := d16 ⟨3, .data⟩ (by simp) rfl
          have h2 := hsh 3 _ rfl h3 ⟨2, .data⟩ (by simp) rfl
          have h1 := hsh 2 _ rfl h2 ⟨1, .data⟩ (by simp) rfl
          have h6 := d16 ⟨6, .data⟩ (by simp) rfl
          have h5 := hsh 6 _ rfl h6 ⟨5, .data⟩ (by simp) rfl
          have h4 := hsh 5 _ rfl h5 ⟨4, .data⟩ (by simp) rfl
          have h9 := d16 ⟨9, .data⟩ (by simp) rfl
          have h8 := hsh 9 _ rfl h9 ⟨8, .data⟩ (by simp) rfl
          have h7 := hsh 8 _ rfl h8 ⟨7, .data⟩ (by simp) rfl
          have h12 := d16 ⟨12, .data⟩ (by simp) rfl
          have h11 := hsh 12 _ rfl h12 ⟨11, .data⟩ (by simp) rfl
          have h10 := hsh 11 _ rfl h11 ⟨10, .data⟩ (by simp) rfl
          have h15 := d16 ⟨15, .data⟩ (by simp) rfl
          have h14 := hsh 15 _ rfl h15 ⟨14, .data⟩ (by simp) rfl
          have h13 := hsh 14 _ rfl h14 ⟨13, .data⟩ (by simp) rfl
          have hall : ∀ i, 1 ≤ i → i ≤ 16 → L.getD i false = true := fun i a b => by
            obtain rfl | rfl | rfl | rfl | rfl | rfl | rfl | rfl | rfl | rfl | rfl | rfl | rfl | rfl | rfl | rfl : i = 1 ∨ i = 2 ∨ i = 3 ∨ i = 4 ∨ i = 5 ∨ i = 6 ∨ i = 7 ∨ i = 8 ∨ i = 9 ∨ i = 10 ∨ i = 11 ∨ i = 12 ∨ i = 13 ∨ i = 14 ∨ i = 15 ∨ i = 16 := by omega
            all_goals assumption
          have h18 : L.getD 18 false = false := by
            rcases h.ph with ⟨_, _⟩ | ⟨h1, _⟩ | ⟨h1, _⟩ | ⟨h1, _⟩
            · cases hq : L.getD 18 false with
              | false => rfl
              | true => rw [hsh 18 _ rfl hq ⟨17, .data⟩ (by simp) rfl] at hl; cases hl
            · rw [h1] at hl; cases hl
            · rw [h1 17 (by omega)] at hl; cases hl
            · rw [h1 17 (by omega)] at hl; cases hl
          have hw : w = w1 := by
            rcases h.ph with ⟨_, h1⟩ | ⟨h1, _⟩ | ⟨h1, _⟩ | ⟨h1, _⟩
            · exact h1
            · rw [h1] at hl; cases hl
            · rw [h1 17 (by omega)] at hl; cases hl
            · rw [h1 17 (by omega)] at hl; cases hl
          subst hw
          have e16 := h.ev (i := 16) (by omega) h16
          exact op_val ho rfl (fun _ h => by cases h) (ex_buildSlice rfl (by simp only [List.map_toArray, List.map_cons, List.map_nil]; rw [e16]; rfl) hBS) (h.alloc_step hz hl hall h18)
        · obtain rfl := Option.some.inj ho
          have h17 := (hd ⟨17, .data⟩ (by simp) rfl)
          have h0 := (hd ⟨0, .data⟩ (by simp) rfl)
          have hph : (∀ i, 1 ≤ i → i ≤ 16 → L.getD i false = true) ∧ w = wx := by
            rcases h.ph with ⟨h1, _⟩ | ⟨_, _, h1, h2⟩ | ⟨h1, _⟩ | ⟨h1, _⟩
            · rw [h1] at h17; cases h17
            · exact ⟨h1, h2⟩
            · rw [h1 18 (by omega)] at hl; cases hl
            · rw [h1 18 (by omega)] at hl; cases hl
          have h19 : L.getD 19 false = false := by
            cases hq : L.getD 19 false with
            | false => rfl
            | true => rw [hsh 19 _ rfl hq ⟨18, .data⟩ (by simp) rfl] at hl; cases hl
          obtain ⟨hall, rfl⟩ := hph
          exact op_val ho rfl (fun _ h => by cases h) (ex_append rfl (h.ev (i := 0) (by omega) h0) (h.ev (i := 17) (by omega) h17) hrun) (h.app_step hz h0 hall h17 h19 hAp)
        · obtain rfl := Option.some.inj ho
          have h18 := (hd ⟨18, .data⟩ (by simp) rfl)
          have hph : (∀ i, i ≤ 18 → L.getD i false = true) ∧ ∃ v, a.tmps[37]? = some v ∧ (v = v1 ∧ w = wa) := by
            rcases h.ph with ⟨h1, _⟩ | ⟨_, h1, _⟩ | ⟨h1, _, h2⟩ | ⟨_, h1, _⟩
            · rw [hsh 18 _ rfl h18 ⟨17, .data⟩ (by simp) rfl] at h1; cases h1
            · rw [h1] at h18; cases h18
            · exact ⟨h1, h2⟩
            · rw [h1] at hl; cases hl
          obtain ⟨hall, v, hv, hA⟩ := hph
          obtain ⟨w3, hst, hD⟩ := hStore v w hA
          have ev : a.eval (.tmp 37) = v := by simp [Act.eval, Array.getD_eq_getD_getElem?, hv]
          exact op_skip ho rfl (fun _ h => by cases h) (ex_store rfl h.ev4 ev hst) (h.done_step hz hall hD)
    · have HN := Aside0.mk hn
      clear hn
      gi_wp2_with (refine ⟨trivial, ?_⟩; gi_at_call 39; refine (CallsIn.inRound l (callsIn_wide.2 HNC)).mono ?_; rintro e W2 ⟨v, rfl, hR, hb⟩; obtain ⟨Av, cv, rfl, hlc, _⟩ := Kd.R_reads hR; have hn5 : ((numL (bs x)).length : Int) ≠ 5 := (by have := HN.out; omega); have e0' := (hb.cell (p := ⟨w.heap.size, 0, none⟩) (World.block_lt_of_cell? _ _ e0)).trans e0; have e1' := (hb.cell (p := ⟨w.heap.size + 1, 0, none⟩) (World.block_lt_of_cell? _ _ e1)).trans e1; have g0' := (hb.frozen (p := ⟨w.heap.size, 0, none⟩) (World.block_lt_of_cell? _ _ e0)).trans g0; have g1' := (hb.frozen (p := ⟨w.heap.size + 1, 0, none⟩) (World.block_lt_of_cell? _ _ e1)).trans g1)
      refine ⟨((keeps_below hb).trans (KeepsOthers.setCell _ _ _)).trans (KeepsOthers.setCell _ _ _), ⟨?_, ?_, below_set (below_set (below_then HI.out.hb HI.out.hb.size hb) (Nat.le_refl _)) (Nat.le_succ _), by rw [HX.out]; exact readW_no _ HN.out⟩⟩
      · exact (World.cell?_of_block (Below.heap_setCell _ _ _ _ (by simp))).trans (World.cell?_setCell_same' W2 ⟨w.heap.size, 0, none⟩ _ (by rw [e0']; rfl))
      · exact World.cell?_setCell_same' _ _ _ (by rw [World.cell?_of_block (w := W2) (Below.heap_setCell _ _ _ _ (by simp)), e1']; rfl)
  case done =>
    rintro D W hDlt hI hK
    obtain ⟨v, xs, hrd, hc, hR⟩ := hI.hl
    obtain ⟨Al, cl, hv, hcl, hCl⟩ := Kd.R_reads hR
    subst hv
    have hraw : rawO s = some xs := by unfold rawO; rw [if_neg HD.out, hrd]
    have hll : xs.length ≤ 40001 := by
      have := readW_len hrd
      have := split_num 32 s
      omega
    have hhs : (bs s).toList = s := by simp [bs, ByteArray.toList_eq]
    have e0 := hI.e0
    have e1 := hI.e1
    have g0 := hI.g0
    have g1 := hI.g1
    have HI := Aside0.mk hI
    have HR := Aside0.mk hR
    have HH := Aside0.mk hhs
    have HRAW := Aside0.mk hraw
    have HKD := Aside0.mk hK
    cases hm : mayL xs with
    | false =>
      have HTX := text_no Al cl xs W hCl hcl hm
      have hpo : parseO s = none := by unfold parseO; rw [hraw, Option.bind_some, hm]; rfl
      have HPO := Aside0.mk hpo
      clear hI hR hhs hraw hpo hrd hm hd hC hPI hK hCl
      gi_wp2_with (refine ⟨trivial, ?_⟩; gi_at_call 15; ((with_reducible refine (callsIn_wide.2 HTX).mono ?_)); rintro e W2 ⟨rfl, hb⟩; have e0' := (hb.cell (p := ⟨w.heap.size, 0, none⟩) (World.block_lt_of_cell? _ _ e0)).trans e0; have e1' := (hb.cell (p := ⟨w.heap.size + 1, 0, none⟩) (World.block_lt_of_cell? _ _ e1)).trans e1; have g0' := (hb.frozen (p := ⟨w.heap.size, 0, none⟩) (World.block_lt_of_cell? _ _ e0)).trans g0; have g1' := (hb.frozen (p := ⟨w.heap.size + 1, 0, none⟩) (World.block_lt_of_cell? _ _ e1)).trans g1)
      have hts := two_set (v0 := .slice none 0 0) (v1 := .int .i64 240) e0' e1'
      refine parse_end rfl rfl rfl (by omega) ((Below.heap_setCell _ _ _ _ (show D ≠ w.heap.size + 1 by omega)).trans ((Below.heap_setCell _ _ _ _ (show D ≠ w.heap.size by omega)).trans ((hb.block D (blk_lt HKD.out)).trans HKD.out))) hts.1 hts.2 ?_ ?_ (below_set (below_set (below_then HI.out.hb HI.out.hb.size hb) (Nat.le_refl _)) (Nat.le_succ _))
      · unfold parseE; rw [HPO.out]; rfl
      · rw [HPO.out]; exact Kd.R_nil _ _ _ _ _
    | true =>
      have HTX := text_ok Al cl xs W hCl hcl (by omega) hm (HT.out.after HI.out.hb)
      by_cases hts : textB xs = s
      · have hpo : parseO s = some xs := by unfold parseO; rw [hraw, Option.bind_some, if_pos ⟨hm, hts⟩]
        have HPO := Aside0.mk hpo
        rw [hts] at HTX
        clear hI hR hhs hraw hpo hrd hm hd hC hPI hK hCl hts
        gi_wp2_with (refine ⟨trivial, ?_⟩; gi_at_call 15; ((with_reducible refine (callsIn_wide.2 HTX).mono ?_)); rintro e W2 ⟨rfl, hb⟩; have e0' := (hb.cell (p := ⟨w.heap.size, 0, none⟩) (World.block_lt_of_cell? _ _ e0)).trans e0; have e1' := (hb.cell (p := ⟨w.heap.size + 1, 0, none⟩) (World.block_lt_of_cell? _ _ e1)).trans e1; have e2' := (hb.cell (p := ⟨w.heap.size + 1 + 1, 0, none⟩) (World.block_lt_of_cell? _ _ hc)).trans hc; have g0' := (hb.frozen (p := ⟨w.heap.size, 0, none⟩) (World.block_lt_of_cell? _ _ e0)).trans g0; have g1' := (hb.frozen (p := ⟨w.heap.size + 1, 0, none⟩) (World.block_lt_of_cell? _ _ e1)).trans g1)
        have hts := two_set (v0 := .slice Al xs.length cl) (v1 := .int .i64 0) e0' e1'
        have hR2 := Kd.R_far (p := ⟨w.heap.size + 1, 0, none⟩) (Kd.R_far (p := ⟨w.heap.size, 0, none⟩) (Kd.R_below HR.out hb) (fun k hk => hk.2.1) (.slice Al xs.length cl)) (fun k hk => hk.2.2.1) (.int .i64 0)
        refine parse_end rfl rfl rfl (by omega) ((Below.heap_setCell _ _ _ _ (show D ≠ w.heap.size + 1 by omega)).trans ((Below.heap_setCell _ _ _ _ (show D ≠ w.heap.size by omega)).trans ((hb.block D (blk_lt HKD.out)).trans HKD.out))) hts.1 hts.2 ?_ ?_ (below_set (below_set (below_then HI.out.hb HI.out.hb.size hb) (Nat.le_refl _)) (Nat.le_succ _))
        · unfold parseE; rw [HPO.out]; rfl
        · rw [HPO.out]; exact Kd.R_mono hR2 (fun _ _ => trivial)
      · have hpo : parseO s = none := by unfold parseO; rw [hraw, Option.bind_some, if_neg (fun h => hts h.2)]
        have HPO := Aside0.mk hpo
        have hne : ((bs (textB xs)).toList == (bs s).toList) = false := by
          rw [hhs, show (bs (textB xs)).toList = textB xs by simp [bs, ByteArray.toList_eq]]
          simpa using hts
        clear hI hR hhs hraw hpo hrd hm hd hC hPI hK hCl hts
        gi_wp2_with (refine ⟨trivial, ?_⟩; gi_at_call 15; ((with_reducible refine (callsIn_wide.2 HTX).mono ?_)); rintro e W2 ⟨rfl, hb⟩; have e0' := (hb.cell (p := ⟨w.heap.size, 0, none⟩) (World.block_lt_of_cell? _ _ e0)).trans e0; have e1' := (hb.cell (p := ⟨w.heap.size + 1, 0, none⟩) (World.block_lt_of_cell? _ _ e1)).trans e1; have g0' := (hb.frozen (p := ⟨w.heap.size, 0, none⟩) (World.block_lt_of_cell? _ _ e0)).trans g0; have g1' := (hb.frozen (p := ⟨w.heap.size + 1, 0, none⟩) (World.block_lt_of_cell? _ _ e1)).trans g1)
        have hts := two_set (v0 := .slice none 0 0) (v1 := .int .i64 240) e0' e1'
        refine parse_end rfl rfl rfl (by omega) ((Below.heap_setCell _ _ _ _ (show D ≠ w.heap.size + 1 by omega)).trans ((Below.heap_setCell _ _ _ _ (show D ≠ w.heap.size by omega)).trans ((hb.block D (blk_lt HKD.out)).trans HKD.out))) hts.1 hts.2 ?_ ?_ (below_set (below_set (below_then HI.out.hb HI.out.hb.size hb) (Nat.le_refl _)) (Nat.le_succ _))
        · unfold parseE; rw [HPO.out]; rfl
        · rw [HPO.out]; exact Kd.R_nil _ _ _ _ _
  case stop =>
    rintro D W hDlt hX hK
    have e0 := hX.e0
    have e1 := hX.e1
    gi_wp2
    have hpo : parseO s = none := by unfold parseO rawO; rw [if_neg HD.out, hX.no]; rfl
    refine parse_end rfl rfl rfl (by omega) hK e0 e1 ?_ ?_ hX.hb
    · unfold parseE; rw [hpo]; rfl
    · rw [hpo]; exact Kd.R_nil _ _ _ _ _
end Go.Proofs.YtpkcnifchggbnaaDoor.HI

namespace Go.Proofs.YtpkcnifchggbnaaDoor.HI
open Go.RowKit Go.Proofs.YtpkcnifchggbnaaDoor.HD Go.Proofs.YtpkcnifchggbnaaDoor.HK Go.Proofs.YtpkcnifchggbnaaDoor.HU Go.Proofs.YtpkcnifchggbnaaDoorW.PrintWords Go.Proofs.YtpkcnifchggbnaaDoorW.PrintLast Go.Proofs.YtpkcnifchggbnaaDoorW.PrintMore
set_option linter.unusedVariables false
set_option linter.unusedSimpArgs false
theorem parse_dashO : parseO [45] = some [] := by
  unfold parseO rawO
  rw [if_pos rfl, Option.bind_some, if_pos ⟨rfl, rfl⟩]
set_option maxHeartbeats 4000000 in
set_option maxRecDepth 100000 in
theorem parse_dash (w : World) (ht : Tab w) :
    Calls Tryd.prog 17 #[.string (bs [45])] w fun e w' => ∃ v, e = .returned (.tuple #[v, .int .i64 (parseE [45])]) ∧ Kd.R k40 40 w' w.heap.size (fun _ => True) v ((parseO [45]).getD []) ∧ Below w.heap.size w w' := by
  have HT := Aside0.mk ht
  have hd : ((bs [45]).toList == [45]) = true := by simp [bs, ByteArray.toList_eq]
  clear ht
  go_enter Tryd.func17, Tryd.ntmps17
  have k0 := cellw_new w (.slice none 0 0) 22
  have k1 := cellw_new (w.alloc (.cells #[.slice none 0 0] 22)) (.int .i64 0) 27
  have k2 := cellw_new ((w.alloc (.cells #[.slice none 0 0] 22)).alloc (.cells #[.int .i64 0] 27)) (.slice none 0 0) 22
  simp only [World.size_alloc] at k1 k2
  have K0 := Aside0.mk (cellw_alloc (.cells #[.slice none 0 0] 22) (cellw_alloc (.cells #[.int .i64 0] 27) k0.1))
  have K1 := Aside0.mk (cellw_alloc (.cells #[.slice none 0 0] 22) k1.1)
  have K2 := Aside0.mk k2.1
  have F0 := Aside0.mk (frzw_alloc (.cells #[.slice none 0 0] 22) (cellw_alloc (.cells #[.int .i64 0] 27) k0.1) (frzw_alloc (.cells #[.int .i64 0] 27) k0.1 k0.2))
  have F1 := Aside0.mk (frzw_alloc (.cells #[.slice none 0 0] 22) k1.1 k1.2)
  have HB := Aside0.mk (below_alloc (below_alloc (below_alloc (Below.refl w.heap.size w) (.cells #[.slice none 0 0] 22)) (.cells #[.int .i64 0] 27)) (.cells #[.slice none 0 0] 22))
  clear k0 k1 k2
  go_wp2_with fail
  generalize ((w.alloc (.cells #[.slice none 0 0] 22)).alloc (.cells #[.int .i64 0] 27)).alloc (.cells #[.slice none 0 0] 22) = W at K0 K1 K2 F0 F1 HB ⊢
  refine (text_ok none 0 [] W (nil_C W) (by decide) (by decide) (by decide) (HT.out.after HB.out)).mono ?_
  rintro e W2 ⟨rfl, hb⟩
  rw [show textB [] = [45] from rfl]
  have e0' := (hb.cell (p := ⟨w.heap.size, 0, none⟩) (World.block_lt_of_cell? _ _ K0.out)).trans K0.out
  have e1' := (hb.cell (p := ⟨w.heap.size + 1, 0, none⟩) (World.block_lt_of_cell? _ _ K1.out)).trans K1.out
  have e2' := (hb.cell (p := ⟨w.heap.size + 1 + 1, 0, none⟩) (World.block_lt_of_cell? _ _ K2.out)).trans K2.out
  have g0' := (hb.frozen (p := ⟨w.heap.size, 0, none⟩) (World.block_lt_of_cell? _ _ K0.out)).trans F0.out
  have g1' := (hb.frozen (p := ⟨w.heap.size + 1, 0, none⟩) (World.block_lt_of_cell? _ _ K1.out)).trans F1.out
  have HB2 := Aside0.mk (below_then HB.out HB.out.size hb)
  clear hb K0 K1 K2 F0 F1
  go_wp2
  have hts := two_set (v0 := .slice none 0 0) (v1 := .int .i64 0) e0' e1'
  refine bodyPost_ret (v := .tuple #[.slice none 0 0, .int .i64 0]) (by simp [results, Tryd.f17, go_sem, hts.1, hts.2]) rfl ⟨.slice none 0 0, ?_, ?_, below_set (below_set HB2.out (Nat.le_refl _)) (Nat.le_succ _)⟩
  · unfold parseE
    rw [parse_dashO]
    rfl
  · rw [parse_dashO]
    exact Kd.R_nil _ _ _ _ _
theorem parse_c (s : List UInt8) (w : World) (hs : s.length ≤ 40000) (ht : Tab w) :
    Calls Tryd.prog 17 #[.string (bs s)] w fun e w' => ∃ v, e = .returned (.tuple #[v, .int .i64 (parseE s)]) ∧ Kd.R k40 40 w' w.heap.size (fun _ => True) v ((parseO s).getD []) ∧ Below w.heap.size w w' := by
  by_cases hd : s = [45]
  · subst hd
    exact parse_dash w ht
  · exact parse_w s w hs ht hd
theorem parse_len {s : List UInt8} {m : List Cho} (h : parseO s = some m) : m.length ≤ s.length + 1 := by
  unfold parseO at h
  cases hr : rawO s with
  | none => rw [hr] at h; cases h
  | some l =>
    rw [hr, Option.bind_some] at h
    split at h
    · obtain rfl := Option.some.inj h
      unfold rawO at hr
      split at hr
      · rw [← Option.some.inj hr]
        exact Nat.zero_le _
      · have h1 := readW_len hr
        have h2 := split_num 32 s
        omega
    · cases h
theorem text_len {l : List Cho} (hm : mayL l = true) (hl : l.length ≤ 200) : (textB l).length ≤ 40000 := by
  unfold textB
  split
  · simp
  · have := joinLen [32] 132 (l.map chB) (fun y hy => by
      obtain ⟨x, hx, rfl⟩ := List.mem_map.1 hy
      exact chB_len (fun n hn => one_rng ((mayL_iff.1 hm).1 x hx) hn))
    simp only [List.length_map, List.length_singleton] at this
    omega
set_option maxHeartbeats 4000000 in
set_option maxRecDepth 100000 in
theorem back_w (A0 : Option Addr) (c0 : Nat) (l : List Cho) (s : List UInt8) (w : World) (h0 : Kd.C k40 w A0 l.length l) (hc0 : l.length ≤ c0) (ht : Tab w) :
    Calls Tryd.prog 6 #[.slice A0 l.length c0, .string (bs s)] w fun e w' => e = .returned (.bool true) ∧ Below w.heap.size w w' := by
  have HR := Aside0.mk h0
  have HT := Aside0.mk ht
  have HAW := Aside0.mk (awake_c w ht)
  clear h0 ht
  go_enter Tryd.func6, Tryd.ntmps6
  go_wp2_with fail
  refine HAW.out.mono ?_
  rintro e w1 ⟨rfl, hb⟩
  have HB1 := Aside0.mk hb
  have HR1 := Aside0.mk (Kd.C_below HR.out hb)
  have HT1 := Aside0.mk (HT.out.after hb)
  clear hb HAW HR HT
  have hsz : (bs s).size = s.length := by simp [bs, ByteArray.size]
  have HSZ := Aside0.mk hsz
  by_cases hz0 : l.length ≤ 200
  · by_cases hz1 : (bs s).size ≤ 5000
    · have HS4 := Aside0.mk (show s.length ≤ 40000 by omega)
      clear hsz
      cases hm : mayL l with
      | false =>
        have HC := Aside0.mk (text_no A0 c0 l w1 HR1.out hc0 hm)
        go_wp2_with fail
        refine HC.out.mono ?_
        rintro e w2 ⟨rfl, hb⟩
        have HB2 := Aside0.mk (below_then HB1.out HB1.out.size hb)
        have HR2 := Aside0.mk (Kd.C_below HR1.out hb)
        have HT2 := Aside0.mk (HT1.out.after hb)
        clear hb HC
        have HC := Aside0.mk (show Calls _ _ _ _ _ from by have h := may_c A0 c0 l w2 HR2.out hc0; rw [hm] at h; exact h)
        go_wp2_with fail
        refine HC.out.mono ?_
        rintro e w3 ⟨rfl, hb⟩
        have HB3 := Aside0.mk (below_then HB2.out HB2.out.size hb)
        have HR3 := Aside0.mk (Kd.C_below HR2.out hb)
        have HT3 := Aside0.mk (HT2.out.after hb)
        clear hb HC
        clear hm
        have HPC := Aside0.mk (parse_c s w3 HS4.out HT3.out)
        cases hp : parseO s with
        | none =>
          have hpe : parseE s = 240 := by unfold parseE; rw [hp]; rfl
          rw [hp, hpe] at HPC
          clear hp hpe
          go_wp2_with fail
          refine HPC.out.mono ?_
          rintro e w4 ⟨v, rfl, hR, hb⟩
          obtain ⟨Av, cv, rfl, hcv, _⟩ := Kd.R_reads hR
          have HBF := Aside0.mk (below_then HB3.out HB3.out.size hb)
          clear hb hR HPC
          go_wp2_with fail
          go_ret
          exact ⟨rfl, HBF.out⟩
        | some m =>
          have hpe : parseE s = 0 := by unfold parseE; rw [hp]; rfl
          obtain ⟨hmm, htm⟩ := parse_some hp
          have hml := parse_len hp
          rw [hp, hpe] at HPC
          have HMM := Aside0.mk hmm
          have HTM := Aside0.mk htm
          have HML := Aside0.mk (show m.length ≤ 50000 by have := HS4.out; omega)
          clear hp hpe hmm htm hml
          go_wp2_with fail
          refine HPC.out.mono ?_
          rintro e w4 ⟨v, rfl, hR, hb⟩
          have hR : Kd.R k40 40 w4 w3.heap.size (fun _ => True) v m := hR
          obtain ⟨Av, cv, rfl, hcv, hCv⟩ := Kd.R_reads hR
          have HBF := Aside0.mk (below_then HB3.out HB3.out.size hb)
          have HCV := Aside0.mk hCv
          have HTX := Aside0.mk (text_ok Av cv m w4 hCv hcv HML.out HMM.out (HT3.out.after hb))
          rw [HTM.out] at HTX
          clear hb hR HPC hCv
          go_wp2_with fail
          refine HTX.out.mono ?_
          rintro e w5 ⟨rfl, hb⟩
          have HBG := Aside0.mk (below_then HBF.out HBF.out.size hb)
          have HMC := Aside0.mk (show Calls _ _ _ _ _ from by have h := may_c Av cv m w5 (Kd.C_below HCV.out hb) hcv; rw [HMM.out] at h; exact h)
          clear hb HTX
          go_wp2_with fail
          refine HMC.out.mono ?_
          rintro e w6 ⟨rfl, hb⟩
          have HBH := Aside0.mk (below_then HBG.out HBG.out.size hb)
          clear hb HMC
          go_wp2_with fail
          go_ret
          exact ⟨rfl, HBH.out⟩
      | true =>
        have HC := Aside0.mk (text_ok A0 c0 l w1 HR1.out hc0 (by omega) hm HT1.out)
        go_wp2_with fail
        refine HC.out.mono ?_
        rintro e w2 ⟨rfl, hb⟩
        have HB2 := Aside0.mk (below_then HB1.out HB1.out.size hb)
        have HR2 := Aside0.mk (Kd.C_below HR1.out hb)
        have HT2 := Aside0.mk (HT1.out.after hb)
        clear hb HC
        have HC := Aside0.mk (show Calls _ _ _ _ _ from by have h := may_c A0 c0 l w2 HR2.out hc0; rw [hm] at h; exact h)
        go_wp2_with fail
        refine HC.out.mono ?_
        rintro e w3 ⟨rfl, hb⟩
        have HB3 := Aside0.mk (below_then HB2.out HB2.out.size hb)
        have HR3 := Aside0.mk (Kd.C_below HR2.out hb)
        have HT3 := Aside0.mk (HT2.out.after hb)
        clear hb HC
        have HTL := Aside0.mk (text_len hm hz0)
        have hpt := parse_text hm
        have hpe : parseE (textB l) = 0 := by unfold parseE; rw [hpt]; rfl
        have HC := Aside0.mk (parse_c (textB l) w3 HTL.out HT3.out)
        rw [hpt, hpe] at HC
        clear hpt hpe hm
        go_wp2_with fail
        refine HC.out.mono ?_
        rintro e w4 ⟨v, rfl, hR, hb⟩
        have hR : Kd.R k40 40 w4 w3.heap.size (fun _ => True) v l := hR
        obtain ⟨Aw, cw, rfl, hcw, hCw⟩ := Kd.R_reads hR
        have HB4 := Aside0.mk (below_then HB3.out HB3.out.size hb)
        have HR4 := Aside0.mk (Kd.C_below HR3.out hb)
        have HT4 := Aside0.mk (HT3.out.after hb)
        have HSC := Aside0.mk (show Calls _ _ _ _ _ from by have h := same_c Aw cw l A0 c0 l w4 hCw hcw HR4.out hc0; rw [(sameB_iff l l).2 rfl] at h; exact h)
        clear hb hR hCw HC
        go_wp2_with fail
        refine HSC.out.mono ?_
        rintro e w5 ⟨rfl, hb⟩
        have HB5 := Aside0.mk (below_then HB4.out HB4.out.size hb)
        have HT5 := Aside0.mk (HT4.out.after hb)
        clear hb HSC
        have HPC := Aside0.mk (parse_c s w5 HS4.out HT5.out)
        cases hp : parseO s with
        | none =>
          have hpe : parseE s = 240 := by unfold parseE; rw [hp]; rfl
          rw [hp, hpe] at HPC
          clear hp hpe
          go_wp2_with fail
          refine HPC.out.mono ?_
          rintro e w6 ⟨v, rfl, hR, hb⟩
          obtain ⟨Av, cv, rfl, hcv, _⟩ := Kd.R_reads hR
          have HBF := Aside0.mk (below_then HB5.out HB5.out.size hb)
          clear hb hR HPC
          go_wp2_with fail
          go_ret
          exact ⟨rfl, HBF.out⟩
        | some m =>
          have hpe : parseE s = 0 := by unfold parseE; rw [hp]; rfl
          obtain ⟨hmm, htm⟩ := parse_some hp
          have hml := parse_len hp
          rw [hp, hpe] at HPC
          have HMM := Aside0.mk hmm
          have HTM := Aside0.mk htm
          have HML := Aside0.mk (show m.length ≤ 50000 by have := HS4.out; omega)
          clear hp hpe hmm htm hml
          go_wp2_with fail
          refine HPC.out.mono ?_
          rintro e w6 ⟨v, rfl, hR, hb⟩
          have hR : Kd.R k40 40 w6 w5.heap.size (fun _ => True) v m := hR
          obtain ⟨Av, cv, rfl, hcv, hCv⟩ := Kd.R_reads hR
          have HBF := Aside0.mk (below_then HB5.out HB5.out.size hb)
          have HCV := Aside0.mk hCv
          have HTX := Aside0.mk (text_ok Av cv m w6 hCv hcv HML.out HMM.out (HT5.out.after hb))
          rw [HTM.out] at HTX
          clear hb hR HPC hCv
          go_wp2_with fail
          refine HTX.out.mono ?_
          rintro e w7 ⟨rfl, hb⟩
          have HBG := Aside0.mk (below_then HBF.out HBF.out.size hb)
          have HMC := Aside0.mk (show Calls _ _ _ _ _ from by have h := may_c Av cv m w7 (Kd.C_below HCV.out hb) hcv; rw [HMM.out] at h; exact h)
          clear hb HTX
          go_wp2_with fail
          refine HMC.out.mono ?_
          rintro e w8 ⟨rfl, hb⟩
          have HBH := Aside0.mk (below_then HBG.out HBG.out.size hb)
          clear hb HMC
          go_wp2_with fail
          go_ret
          exact ⟨rfl, HBH.out⟩
    · clear hsz
      go_wp2_with fail
      go_ret
      exact ⟨rfl, HB1.out⟩
  · clear hsz
    go_wp2_with fail
    go_ret
    exact ⟨rfl, HB1.out⟩
end Go.Proofs.YtpkcnifchggbnaaDoor.HI

namespace Go.Proofs.YtpkcnifchggbnaaDoor.signBack
open Go.ChangeShapes Go.WideShapes Go.ChangeAt Go.RowKit Go.Joins
open Go.ChangeMaps (open_string shut_string)
set_option linter.unusedVariables false
theorem own : ownKnob Tryd.prog.godebug = none := by kernel_rfl
theorem laidOut : laidOutB Tryd.prog = true := by kernel_rfl
set_option maxRecDepth 100000 in
theorem lifted (os : Os) (started : os.Started) (H : Type) (enc : TypeId × Value → H) :
    ReturnsInHanded {} Tryd.checked os 6 .any (fun w args => (Rows.signBackSpec.pre enc Tryd.prog Tryd.f6 [] false w args ∧ laidMetH Tryd.prog HR.laid5 w) ∧ sizedMet enc Tryd.prog Tryd.f6 (OpenSpec.ofChange Rows.signBackSpec) false w args)
      (Rows.signBackSpec.post enc Tryd.prog Tryd.f6 false true false false) := by
  refine returnsInHanded_of_change_and (C := Tryd.checked) (X := fun w _ => laidMetH Tryd.prog HR.laid5 w) (fun _ _ _ hh h => h.of_heap hh) own started (by kernel_rfl) Tryd.func6
    (ChangeSpec.witness_shaped (enc := enc) (C := Tryd.checked) (os := os) (X := fun w _ => laidMetH Tryd.prog HR.laid5 w) false (World.laidAll Tryd.prog os HR.laid5) #[.slice none 0 0, .string ⟨#[]⟩] 8 (World.laidAll_os _ _ _) (World.shaped_of_ZipB (by kernel_rfl) (by kernel_rfl)) (by kernel_rfl) (by kernel_rfl) (by kernel_rfl) (by rw [MakeChecks.laidMetH_plain _ _ _ (by kernel_rfl)]; exact laidMet_laidAll _ (by kernel_rfl) (by kernel_rfl))) ?_
  intro W base args ds gs before hval0 hW _ _ hL _
  have hval : ∀ (j : Nat) t v, Tryd.f6.params[j]? = some t → args[j]? = some v → Value.okWide Tryd.prog W .any base t v := hval0
  have hW' := hW
  obtain ⟨p, q, hA0, hV, rfl, hfz, hnd⟩ := hW
  have hA : DataW.TrodAll enc Tryd.prog W 0 (fun _ => true) true Tryd.f6.params.toList args.toList ds p := hA0
  rw [Tryd.params6] at hA hval
  obtain ⟨v0, vs0, d0, ds0, p0, q0, hargs, rfl, rfl, h0, r0⟩ := trodAll_cons hA
  obtain ⟨v1, vs1, d1, ds1, p1, q1, rfl, rfl, rfl, h1, r1⟩ := trodAll_cons r0
  obtain ⟨rfl, rfl, rfl⟩ := trodAll_nil r1
  obtain rfl : args = #[v0, v1] := by cases args; simp_all
  obtain ⟨rfl, rfl⟩ := trodVars_none hV
  have k0 := h0
  have lt0 : ∀ x ∈ p0, x.block < W.heap.size := by obtain ⟨m, hm⟩ := k0; exact DataW.trod_lt m _ _ _ hm
  obtain ⟨a0, l0, c0, rfl⟩ := okWide_slice Tryd.underlying22 (hval 0 22 v0 rfl rfl)
  obtain ⟨xs0, rfl, hc0, hr0⟩ := HR.open_choices h0
  have k1 := h1
  have lt1 : ∀ x ∈ p1, x.block < W.heap.size := by obtain ⟨m, hm⟩ := k1; exact DataW.trod_lt m _ _ _ hm
  obtain ⟨t1, rfl, _, _, _⟩ := open_string Tryd.underlying9 (hval 1 9 v1 rfl rfl) h1
  obtain ⟨s1, rfl⟩ : ∃ s : List UInt8, t1 = HI.bs s := ⟨t1.data.toList, rfl⟩
  have hT := HR.tab_of_laid hL
  clear hA0 hval0 hL
  refine (HI.back_w a0 c0 xs0 s1 W hr0 hc0 hT).mono fun e W' ⟨he, bel⟩ => ?_
  subst he
  exact ⟨_, rfl, _, _, _, [], _, [], hW', trodAll_mk1 (shut_bool Tryd.underlying4 _), (trodAll_cons_mk (Below.trod laidOut (by kernel_rfl) (of_decide_eq_true (by kernel_rfl)) k0 bel lt0) (trodAll_cons_mk (Below.trod laidOut (by kernel_rfl) (of_decide_eq_true (by kernel_rfl)) k1 bel lt1) trodAll_mk0)), rfl, bel.frame _, fun h => by cases h⟩
theorem proved : Rows.SignBackSaid :=
  OpenClaim.holds_of_wide 6 Tryd.f6 rfl rfl rfl rfl rfl rfl rfl ⟨rfl, rfl, rfl, rfl, rfl⟩ rfl rfl rfl rfl rfl (by kernel_rfl) Tryd.func6 (by kernel_rfl)
    (of_decide_eq_true (by kernel_rfl)) (by unfold Func.isWrapper; first | (rw [if_pos (by decide +kernel)]; kernel_rfl) | (rw [if_neg (by decide +kernel)]; exact ⟨rfl, rfl⟩))
    (fun os started H enc _ => lifted os started H enc)
theorem whole : Rows.SignBackCardSaid :=
  Claim7.holds_tied_plain_at .later [] [.data, .data, .data, .data, .pinned] true Rows.signBackCard.stood.harness Rows.signBackCard.stood.looks
    proved (fun _ h => by cases h) (by kernel_rfl) (fun _ h => by cases h) signBack_row_tie rfl ⟨rfl, rfl⟩ (by kernel_rfl) rfl
    (fun f fn hf hfn => by
      obtain rfl : f = 6 := Option.some.inj ((show Tryd.prog.funcNamed "dispatcher/dispatcherlaw23.SignBack" = some 6 by kernel_rfl).symm.trans hf) |>.symm
      obtain rfl : fn = Tryd.f6 := (Option.some.inj (Tryd.func6.symm.trans hfn)).symm
      exact ⟨by kernel_rfl, fun j t ht => by
        rw [Tryd.params6] at ht
        have hm : t ∈ [22, 9] := by simpa using Array.mem_of_getElem? ht
        have hall : ([22, 9].all fun u => !Tryd.prog.wantsStandIn u) = true := by kernel_rfl
        exact (show Tryd.prog.wantsStandIn t = false by simpa using List.all_eq_true.1 hall t hm)⟩)
    (by kernel_rfl)
end Go.Proofs.YtpkcnifchggbnaaDoor.signBack
namespace Go.Proofs.YtpkcnifchggbnaaDoor
/-- The card, under a short name, for the claim. -/
theorem signBack_holds : Rows.SignBackCardSaid := signBack.whole
end Go.Proofs.YtpkcnifchggbnaaDoor
