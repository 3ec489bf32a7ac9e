/-
  CONTRACTS BY HAND (orders, 13): First: the order in which those that are wanted come first.
-/
import Derived.Test.YtnblmjkaieibhaaOfB
import Derived.Test.YtnblmjkaieibhaaOpD
import Derived.Maps.OwnIn
import Derived.Maps.AppendAt
namespace Go.Proofs.Ytnblmjkaieibhaa.HO
open Go.Proofs.Ytnblmjkaieibhaa.HU Go.RowKit Go.Shelf Go.Proofs.Ytnblmjkaieibhaa.HK Go.Proofs.Ytnblmjkaieibhaa.HP Go.Proofs.YtnblmjkaieibhaaW.PrintWords Go.Proofs.YtnblmjkaieibhaaW.PrintLast Go.Proofs.YtnblmjkaieibhaaW.PrintMore
set_option linter.unusedVariables false
set_option linter.unusedSimpArgs false
attribute [local go_sem] Oper.semAt_some
/-- the marks that rounds have left, each below the next -/
def MarksR (B : Nat) : Nat → List Deferred → World → Prop
  | _, [], _ => True
  | hi, d :: ds, w => ∃ D, d = { target := .collected D, args := #[] } ∧ B ≤ D ∧ D < hi ∧ w.heap[D]? = some (.deferred (some [])) ∧ MarksR B D ds w
theorem MarksR.imp {B : Nat} {w w' : World} : ∀ (ds : List Deferred) (hi : Nat), MarksR B hi ds w → (∀ D, D < hi → w.heap[D]? = some (.deferred (some [])) → w'.heap[D]? = some (.deferred (some []))) → MarksR B hi ds w'
  | [], _, _, _ => trivial
  | d :: ds, hi, ⟨D, h1, h2, h3, h4, h5⟩, h => ⟨D, h1, h2, h3, h D h3 h4, MarksR.imp ds D h5 (fun D' hD' => h D' (by omega))⟩
theorem MarksR.hi {B hi hi' : Nat} {w : World} (hh : hi ≤ hi') : ∀ (ds : List Deferred), MarksR B hi ds w → MarksR B hi' ds w
  | [], _ => trivial
  | d :: ds, ⟨D, h1, h2, h3, h4, h5⟩ => ⟨D, h1, h2, by omega, h4, h5⟩
/-- but for marks that are shut, as it was -/
structure Fade (B : Nat) (w w' : World) : Prop where
  bel : Below B w w'
  cel : ∀ (k : Nat) (cells : Array Value) (t : TypeId) (f : Nat × Nat), w.heap[k]? = some (.cells cells t f) → w'.heap[k]? = some (.cells cells t f)
theorem Fade.refl (B : Nat) (w : World) : Fade B w w := ⟨Below.refl _ _, fun _ _ _ _ h => h⟩
theorem Fade.trans {B : Nat} {X Y Z : World} (h : Fade B X Y) (k : Fade B Y Z) : Fade B X Z := ⟨h.bel.trans k.bel, fun a b c d e => k.cel a b c d (h.cel a b c d e)⟩
theorem Fade.R {α : Type} {d : Kd α} {B e base : Nat} {ok : Nat → Prop} {w w' : World} {v : Value} {xs : List α} (h : Fade B w w') (hr : d.R e w base ok v xs) : d.R e w' base ok v xs :=
  Kd.R_mono (Kd.R_step (Kd.R_bound hr) (fun k hk _ => by
    obtain ⟨_, _, _, q, _, cells, hc⟩ := hk
    rw [hc]
    exact h.cel k cells q (0, 0) hc)) (fun _ hk => hk.1)
theorem leave_marks {F : Fence} {n : Nat} {P : Program} {fn : Func} {tmps : Array Value} {R : Ending → World → Prop} {B : Nat} : ∀ (ds : List Deferred) (hi : Nat) (w : World), MarksR B hi ds w → B ≤ w.heap.size →
    (∀ w', Fade B w w' → ∃ v, (results fn tmps).run P w' = .ok v w' ∧ R (.returned v) w') → LeavesInM F n P fn tmps R ds .returning w
  | [], hi, w, _, _, h => h w (Fade.refl _ _)
  | d :: ds, hi, w, ⟨D, h1, h2, h3, h4, h5⟩, hB, h => by
    subst h1
    refine ⟨by simp, .inl ⟨D, w.putObj D (.deferred none), rfl, run_takeDeferred h4, ?_⟩⟩
    have hf : Fade B w (w.putObj D (.deferred none)) := by
      refine ⟨?_, fun k cells t f hk => ?_⟩
      · refine ⟨rfl, rfl, rfl, by simp [World.putObj], fun i hi => World.putObj_heap_other (by omega)⟩
      · have hne : k ≠ D := by
          rintro rfl
          rw [h4] at hk
          cases hk
        rw [World.putObj_heap_other hne]
        exact hk
    refine leave_marks ds D _ (MarksR.imp ds D h5 (fun D' hD' hd => ?_)) (by simpa [World.putObj] using hB) (fun w' hw' => h w' (hf.trans hw'))
    rw [World.putObj_heap_other (by omega)]
    exact hd
/-- the first that is ready, round by round -/
def firstG (ks : List Kn) (cs : List Int) : Nat → List Int → List Int → List Int
  | 0, out, _ => out
  | r + 1, out, ins => match cs.find? (rdyP ks ins) with
    | none => firstG ks cs r out ins
    | some i => firstG ks cs r (out ++ [i]) (ins.set i.toNat (rd ins i + 1))
def allL (L : Nat) : List Int := (List.range L).map (fun i : Nat => (i : Int))
def firstB (ks : List Kn) (want : List Int) : List Int := firstG ks (want ++ allL ks.length) ks.length [] (List.replicate ks.length 0)
theorem firstG_none {ks : List Kn} {cs : List Int} {r : Nat} {out ins : List Int} (h : cs.find? (rdyP ks ins) = none) : firstG ks cs (r + 1) out ins = firstG ks cs r out ins := by simp [firstG, h]
theorem firstG_some {ks : List Kn} {cs : List Int} {r : Nat} {out ins : List Int} {i : Int} (h : cs.find? (rdyP ks ins) = some i) : firstG ks cs (r + 1) out ins = firstG ks cs r (out ++ [i]) (ins.set i.toNat (rd ins i + 1)) := by simp [firstG, h]
theorem allL_succ (L : Nat) : allL (L + 1) = allL L ++ [(L : Int)] := by simp [allL, List.range_succ]
theorem allL_len (L : Nat) : (allL L).length = L := by simp [allL]
theorem E28 : ∀ q, q ∈ 3 :: (Kd.int .i64).E → q ≠ 28 := by decide
theorem keep_call2b {W w5 : World} {o : Obj} (hb : Below (W.drew.alloc o).heap.size (W.drew.alloc o) w5) : Below W.heap.size W w5 :=
  below_then (below_alloc (w := W) (below_drew (Below.refl _ _)) o) (by simp) hb
theorem wp_noPanic {P : Program} {c : Code} {K : Act → World → Prop} {Q : Exit → Act → World → Prop} {a : Act} {w : World} (h : c.wp P (Exit.then K (fun _ _ _ => False)) a w) : c.wp P (Exit.then K Q) a w :=
  Code.wp_mono (fun e a w q => by cases e <;> first | exact q | exact q.elim) h
theorem cells_not_row {W : World} {row : Option Nat} {B : Nat} (hr : ∀ r, row = some r → B ≤ r ∧ ∃ o : Obj, W.heap[r]? = some o ∧ o.isCells = false) {k : Nat} {cells : Array Value} {t : TypeId} {f : Nat × Nat} (hk : W.heap[k]? = some (.cells cells t f)) : some k ≠ row := fun he => by
  obtain ⟨_, o, ho, hc⟩ := hr k he.symm
  rw [hk] at ho
  cases ho
  cases hc
theorem R_turn {α : Type} {d : Kd α} {e base : Nat} {ok : Nat → Prop} {W W' : World} {v : Value} {xs : List α} {row : Option Nat} {B : Nat} (h : d.R e W base ok v xs) (hg : W.grownBy W' row) (hr : ∀ r, row = some r → B ≤ r ∧ ∃ o : Obj, W.heap[r]? = some o ∧ o.isCells = false) : d.R e W' base ok v xs :=
  Kd.R_mono (Kd.R_step (Kd.R_bound h) (fun k hk hlt => hg.block k hlt (by
    obtain ⟨_, _, _, q, _, cells, hc⟩ := hk
    exact cells_not_row hr hc))) (fun _ hk => hk.1)
theorem MarksR.own {β : Type} (b B : Nat) (ds : List Deferred) : OwnFrom B (fun (_ : β) W => MarksR b B ds W) := fun _ W W' row h hg hr =>
  MarksR.imp ds B h (fun D hD hd => blk_grown hd hg (fun he => by have := (hr D he.symm).1; omega))
/-- where First stands between two rounds -/
structure FSt (w W : World) (bo bi : Nat) (vi va vo : Value) (L : Nat) (out ins : List Int) : Prop where
  ob : W.heap[bo]? = some (.cells #[vo] 28 (0, 0))
  ib : W.heap[bi]? = some (.cells #[vi] 28 (0, 0))
  ne : bo ≠ bi
  bw : w.heap.size ≤ bo
  out : Kd.R (Kd.int .i64) 3 W w.heap.size (fun k => some k ≠ vi.ownBlock ∧ some k ≠ va.ownBlock) vo out
  ins : Kd.R (Kd.int .i64) 3 W w.heap.size (fun k => some k = vi.ownBlock) vi ins
  all : Kd.R (Kd.int .i64) 3 W w.heap.size (fun k => some k = va.ownBlock) va (allL L)
  bel : Below w.heap.size w W
theorem FSt.below {w W W' : World} {bo bi : Nat} {vi va vo : Value} {L : Nat} {out ins : List Int} (h : FSt w W bo bi vi va vo L out ins) (hb : Below W.heap.size W W') : FSt w W' bo bi vi va vo L out ins :=
  ⟨blk_below h.ob hb, blk_below h.ib hb, h.ne, h.bw, Kd.R_below h.out hb, Kd.R_below h.ins hb, Kd.R_below h.all hb, below_then h.bel h.bel.size hb⟩
/-- an append to what is told -/
theorem FSt.app {w W W1 : World} {bo bi : Nat} {vi va vo v1 : Value} {L : Nat} {out ins : List Int} {x : Int} (h : FSt w W bo bi vi va vo L out ins) (hne : ∀ k, some k = vi.ownBlock → some k ≠ va.ownBlock)
    (hg : W.grownBy W1 vo.ownBlock) (ho : W1.ownsRow w.heap.size 3 1 v1 (out.length + 1) ((out ++ [x]).map (Value.int .i64))) (hbl : Below w.heap.size w W1) (hat : v1.ownBlock = vo.ownBlock ∨ ∃ b, v1.ownBlock = some b ∧ W.heap.size ≤ b) :
    FSt w (W1.setCell ⟨bo, 0, none⟩ v1) bo bi vi va v1 L (out ++ [x]) ins := by
  have hob := blk_grown h.ob hg (Kd.R_ne h.out h.ob (by decide))
  have hib := blk_grown h.ib hg (Kd.R_ne h.out h.ib (by decide))
  have hvi := Kd.Q_lt (Kd.Q_of_R h.ins)
  have hva := Kd.Q_lt (Kd.Q_of_R h.all)
  have hins := Kd.R_grown h.ins hg (fun k hk he => (h.out.1 k he.symm).1 hk)
  have hall := Kd.R_grown h.all hg (fun k hk he => (h.out.1 k he.symm).2 hk)
  have hR : Kd.R (Kd.int .i64) 3 W1 w.heap.size (fun k => some k ≠ vi.ownBlock ∧ some k ≠ va.ownBlock) v1 (out ++ [x]) := by
    refine Kd.R_of_own (by rw [List.length_append, List.length_singleton]; exact ho) (fun k hk => ?_)
    rcases hat with h1 | ⟨b, h1, h2⟩
    · exact h.out.1 k (h1 ▸ hk)
    · have hkb : b = k := by rw [h1] at hk; injection hk
      subst hkb
      exact ⟨fun he => by have := hvi b he.symm; omega, fun he => by have := hva b he.symm; omega⟩
  exact ⟨blk_put (cs' := #[v1]) hob 0 _ rfl, blk_far hib (Ne.symm h.ne) _, h.ne, h.bw, Kd.R_set hR hob E28 0 _, Kd.R_set hins hob E28 0 _, Kd.R_set hall hob E28 0 _, hbl.setCell (p := ⟨bo, 0, none⟩) h.bw _⟩
/-- a mark among those that are in -/
theorem FSt.mark {w W : World} {bo bi gi n cl : Nat} {va vo : Value} {L : Nat} {out ins : List Int} (h : FSt w W bo bi (.slice (some ⟨gi, 0, none⟩) n cl) va vo L out ins) (hne : ∀ k, some k = (Value.slice (some ⟨gi, 0, none⟩) n cl).ownBlock → some k ≠ va.ownBlock) (x z : Int) :
    FSt w (W.setCell ⟨gi, x.toNat, none⟩ (.int .i64 z)) bo bi (.slice (some ⟨gi, 0, none⟩) n cl) va vo L out (ins.set x.toNat z) := by
  obtain ⟨cells, hty⟩ := Kd.R_typed h.ins gi rfl
  have hgi : (Value.slice (some ⟨gi, 0, none⟩) n cl).ownBlock = some gi := rfl
  refine ⟨blk_far h.ob (blk_ne h.ob hty (by decide)) _, blk_far h.ib (blk_ne h.ib hty (by decide)) _, h.ne, h.bw, Kd.R_far h.out (fun k hk he => hk.1 (by rw [he]; rfl)) _, Kd.R_putn h.ins x z, Kd.R_far h.all (fun k hk he => hne gi rfl (by rw [← show k = gi from he]; exact hk)) _, h.bel.setCell (p := ⟨gi, x.toNat, none⟩) (Kd.Q_base (Kd.Q_of_R h.ins) gi rfl) _⟩
theorem FSt.own {β : Type} {w : World} {bo bi : Nat} {vi va vo : Value} {L : Nat} {out ins : List Int} (B : Nat) (hB : w.heap.size ≤ B) : OwnFrom B (fun (_ : β) W => FSt w W bo bi vi va vo L out ins) := fun s W W' row h hg hr =>
  ⟨blk_grown h.ob hg (cells_not_row hr h.ob), blk_grown h.ib hg (cells_not_row hr h.ib), h.ne, h.bw, R_turn h.out hg hr, R_turn h.ins hg hr, R_turn h.all hg hr, ownFrom_below (Nat.le_refl _) hB s W W' row h.bel hg hr⟩
set_option maxRecDepth 100000 in
set_option maxHeartbeats 16000000 in
theorem first_in (g : Nat) (ks : List Kn) (A : Option Addr) (c : Nat) (want : List Int) (w : World) (h : Ro w g ks) (hr : Kd.C (Kd.int .i64) w A want.length want) (hc : want.length ≤ c) (hb : BehOk ks) (hn : ks.length ≤ 2000) (hw : want.length ≤ 2000) :
    CallsIn Fence.wide 3 Try.prog 21 #[.pointer (some ⟨g, 0, none⟩), .slice A want.length c] w fun e w' => (∃ v0_, e = .returned v0_ ∧ Kd.R (Kd.int .i64) 3 w' w.heap.size (fun _ => True) v0_ (firstB ks want)) ∧ Below w.heap.size w w' := by
  have HO := Aside0.mk h
  have HR := Aside0.mk hr
  have HBK := Aside0.mk hb
  clear h hr hb
  obtain ⟨i0, hii, hz0, hz1, hz2⟩ := info_parts Go.Proofs.Ytnblmjkaieibhaa.HD.infoE
  refine callsIn_of_wp_marks Try.func21 rfl trivial ?_ rfl
  refine wpIn_wide.2 ?_
  simp only [Try.ntmps21, List.size_toArray, List.length_cons, List.length_nil, Nat.reduceAdd, Nat.reduceSub, Array.replicate_succ, Array.replicate_zero, List.push_toArray, List.append_toArray, List.nil_append, List.cons_append]
  go_wp2_with fail
  have hb1 := below_alloc (Below.refl w.heap.size w) (.cells #[.slice none 0 0] 28)
  have BO := Aside0.mk (blk_new w (.cells #[.slice none 0 0] 28))
  have HB1 := Aside0.mk hb1
  refine (many_c g ks _ (HO.out.below hb1)).mono ?_
  rintro e w1 ⟨rfl, rfl⟩
  clear hb1
  generalize w.alloc (.cells #[.slice none 0 0] 28) = w1 at BO HB1 ⊢
  go_wp2_with fail
  go_loopw [5, 12] (fun v5 v12 wr => ∃ m : Nat, m ≤ ks.length ∧ v12 = .int .i64 m ∧ Aside0 (Kd.R (Kd.int .i64) 3 wr w1.heap.size (fun _ => True) v5 (allL m)) ∧ Aside0 (Below w1.heap.size w1 wr)) (fun _ v12 _ => ks.length - (intOf v12).toNat)
  case atStart => exact ⟨0, by omega, rfl, ⟨Kd.R_nil _ _ _ _ _⟩, ⟨Below.refl _ _⟩⟩
  case round =>
    obtain ⟨m, hm, rfl, HA, HB⟩ := hrel
    by_cases hlt : m < ks.length
    · have hz := HB.out.size
      have hk8 : ((allL m).length + 1) * 8 ≤ 140737488355328 := by rw [allL_len]; omega
      have hm64 : IntKind.i64.wrap ((m : Int) + 1) = (m : Int) + 1 := i64w (by omega) (by omega)
      obtain ⟨A5, c5, rfl, hc5, _⟩ := Kd.R_reads HA.out
      rw [allL_len] at hc5
      go_wp2_with (at_builtin; refine Kd.R_append (Kd.int .i64) (w0 := w1) w1.heap.size rfl (.tmp 15) (.tmp 17) 28 3 (.int .i64 0) 8 rfl Try.underlying28 infoI rfl (by decide) (by decide) (.slice A5 (allL m).length c5) (allL m) (m : Int) [.int .i64 m] (fun _ => True) (fun _ => False) rfl rfl rfl (fun _ h => h.elim) (fun _ _ => trivial) HA.out HB.out hz hk8 ?_; intro v1 w5 ho hbl hgr hat)
      rw [← allL_succ] at ho
      go_roundw
      case rel => exact ⟨m + 1, by omega, by go_num, ⟨ho⟩, ⟨hbl⟩⟩
      case measure => simp [intOf]; omega
    · obtain rfl : m = ks.length := by omega
      obtain ⟨A5, c5, rfl, hc5, _⟩ := Kd.R_reads HA.out
      rw [allL_len] at hc5 ⊢
      obtain ⟨w2, rfl⟩ : ∃ w2 : World, w2 = wr := ⟨_, rfl⟩
      have hm8 : (ks.length : Int).toNat * 8 ≤ 281474976710656 := by rw [Int.toNat_natCast]; omega
      have hm0 : (0 : Int) ≤ (ks.length : Int) := by omega
      go_wp2_with ((with_reducible refine gate_dst (N := 22) rfl ?_); refine Kd.R_make (Kd.int .i64) (w0 := w2) w2.heap.size 3 rfl (N := 22) rfl 28 _ _ rfl (ks.length : Int) rfl rfl Try.underlying28 (.int .i64 0) 8 infoI rfl (by decide) (by decide) (0 : Int) (ok := fun _ => True) (okp := fun _ => True) rfl (fun _ hk => hk) trivial hm0 hm8 (Below.refl _ _) (Nat.le_refl _) ?_; intro vl w3 ho hbl hgr hnew; obtain ⟨Al, cl, rfl, hcl, _⟩ := Kd.R_reads ho; rw [Int.toNat_natCast] at ho hcl; rw [List.length_replicate] at ho hcl; have HN := Aside0.mk ho; have HB3 := Aside0.mk hbl; clear ho hbl hgr hnew)
      have hb4 := below_alloc (Below.refl w3.heap.size w3) (.cells #[.slice Al ks.length cl] 28)
      have hz2 := HB.out.size
      have hzw := HB1.out.size
      have hz3 := HB3.out.size
      have hbw1 := blk_lt BO.out
      have HNE : Aside0 (∀ k, some k = (Value.slice Al ks.length cl).ownBlock → some k ≠ (Value.slice A5 ks.length c5).ownBlock) := ⟨fun k hk he => by
        have h1 := Kd.Q_base (Kd.Q_of_R HN.out) k hk.symm
        have h2 := Kd.Q_lt (Kd.Q_of_R HA.out) k (by rw [allL_len]; exact he.symm)
        omega⟩
      have HBW3 := Aside0.mk (below_then (below_then HB1.out HB1.out.size HB.out) (below_then HB1.out HB1.out.size HB.out).size HB3.out)
      have HF0 : Aside0 (FSt w (w3.alloc (.cells #[.slice Al ks.length cl] 28)) w.heap.size w3.heap.size (.slice Al ks.length cl) (.slice A5 ks.length c5) (.slice none 0 0) ks.length [] (List.replicate ks.length 0)) := by
        have h1 := Kd.R_below (Kd.R_below HA.out HB3.out) hb4
        rw [allL_len] at h1
        refine ⟨⟨blk_below (blk_below (blk_below BO.out HB.out) HB3.out) hb4, blk_new w3 _, by omega, Nat.le_refl _, Kd.R_nil _ _ _ _ _, Kd.R_tight rfl (Kd.R_lower (Kd.R_below HN.out hb4) (by omega)), Kd.R_tight rfl (Kd.R_lower h1 hzw), below_then HBW3.out HBW3.out.size hb4⟩⟩
      clear hb4 HN HA HBW3 HB HB3 BO HB1
      have hbos : w.heap.size < w3.heap.size := by omega
      generalize w3.heap.size = bi at HF0 hbos ⊢
      generalize hw4 : w3.alloc (.cells #[.slice Al ks.length cl] 28) = w4 at HF0 ⊢
      clear hw4 hz2 hzw hz3 hbw1
      have HFB : Aside0 (firstG ks (want ++ allL ks.length) ks.length [] (List.replicate ks.length 0) = firstB ks want) := ⟨rfl⟩
      have HCL : Aside0 ((want ++ allL ks.length).length ≤ 4000) := ⟨by rw [List.length_append, allL_len]; omega⟩
      obtain ⟨CS, hCS⟩ : ∃ CS, want ++ allL ks.length = CS := ⟨_, rfl⟩
      rw [hCS] at HFB HCL
      have HCS := Aside0.mk hCS
      clear hCS
      refine wp_loop (fun a W => ∃ (r : Nat) (u26 u27 u28 u29 u30 u31 u32 u33 u45 vo : Value) (ds : List Deferred) (out ins : List Int),
        r ≤ ks.length ∧ Aside0 (FSt w W w.heap.size bi (.slice Al ks.length cl) (.slice A5 ks.length c5) vo ks.length out ins) ∧ Aside0 (ins.length = ks.length ∧ out.length ≤ r ∧ (∀ m : Nat, m < ks.length → 0 ≤ rd ins (m : Int) ∧ rd ins (m : Int) ≤ (r : Int))) ∧
        Aside0 (firstG ks CS (ks.length - r) out ins = firstB ks want) ∧ Aside0 (MarksR w.heap.size W.heap.size ds W) ∧
        a = { tmps := #[.pointer (some ⟨g, 0, none⟩), .slice A want.length c, undef, undef, .slice none 0 0, .slice A5 ks.length c5, .pointer (some ⟨w.heap.size, 0, none⟩), u7, .pointer (some ⟨bi, 0, none⟩), undef, .pointer (some ⟨g, 0, none⟩), .int .i64 ks.length, .int .i64 ks.length, .bool false, u14, u15, u16, u17, u18, u19, .slice A5 ks.length c5, .int .i64 ks.length, .slice Al ks.length cl, .slice A5 ks.length c5, .int .i64 ks.length, .int .i64 r, u26, u27, u28, u29, u30, u31, u32, u33, undef, undef, undef, undef, undef, undef, undef, undef, undef, undef, undef, u45, undef], defers := ds })
        (fun a _ => ks.length - (intOf (a.tmps.getD 25 undef)).toNat) ?start ?round
      case start => exact ⟨0, undef, undef, undef, undef, undef, undef, undef, undef, undef, _, [], [], _, by omega, HF0, ⟨by simp, by simp, fun m hm => by rw [rd_lt (by simpa using hm)]; simp⟩, ⟨by simpa using HFB.out⟩, ⟨trivial⟩, rfl⟩
      case round =>
        rintro a W ⟨r, u26, u27, u28, u29, u30, u31, u32, u33, u45, vo, ds, out, ins, hr, HF, HI, HG, HM, rfl⟩
        clear HF0
        by_cases hlt : r < ks.length
        · obtain ⟨gi, _, eg, _⟩ := Kd.R_form HF.out.ins (by rw [HI.out.1]; omega)
          have eA : Al = some ⟨gi, 0, none⟩ := by injection eg
          subst eA
          clear eg
          have hr64 : IntKind.i64.wrap ((r : Int) + 1) = (r : Int) + 1 := i64w (by omega) (by omega)
          go_wp2_with fail
          have HRw := Aside0.mk (Kd.C_below HR.out HF.out.bel)
          have HOw := Aside0.mk (HO.out.below HF.out.bel)
          have hC5 := (Kd.R_reads' HF.out.all).2.2
          have HC5 := Aside0.mk hC5
          have HCI := Aside0.mk (Kd.R_reads' HF.out.ins).2.2
          clear hC5
          have HCC := Aside0.mk (concat_c W.drew.heap.size A A5 c c5 want (allL ks.length) (W.drew.alloc (.cells #[.slice A want.length c, .slice A5 (allL ks.length).length c5] 28)) ((blk_cell (blk_new W.drew _) 0).trans rfl) ((blk_cell (blk_new W.drew _) 1).trans rfl) (Kd.C_alloc (C_drew HRw.out) _) (Kd.C_alloc (C_drew HC5.out) _) (by omega) (by rw [allL_len]; omega))
          rw [allL_len] at HCC
          have hi0 : W.cell? ⟨bi, 0, none⟩ = some (.slice (some ⟨gi, 0, none⟩) ks.length cl) := (blk_cell HF.out.ib 0).trans rfl
          have hi1 : W.drew.cell? ⟨bi, 0, none⟩ = some (.slice (some ⟨gi, 0, none⟩) ks.length cl) := hi0
          have hi2 : (W.alloc (.cells #[.slice A want.length c, .slice A5 ks.length c5] 28)).drew.cell? ⟨bi, 0, none⟩ = some (.slice (some ⟨gi, 0, none⟩) ks.length cl) := cell_alloc1 hi0 (.cells #[.slice A want.length c, .slice A5 ks.length c5] 28)
          go_cut [33] from 26 to 33 (fun v33 wc => ∃ (bs b2 bo2 : Nat) (Aq : Option Addr) (cq : Nat), v33 = .func (.func 38) #[] #[.pointer (some ⟨bs, 0, none⟩), .pointer (some ⟨b2, 0, none⟩), .pointer (some ⟨bo2, 0, none⟩)] ∧ Aside0 (FSt w wc w.heap.size bi (.slice (some ⟨gi, 0, none⟩) ks.length cl) (.slice A5 ks.length c5) vo ks.length out ins) ∧ Aside0 (MarksR w.heap.size wc.heap.size ds wc) ∧ Aside0 (RdIn wc bs b2 bo2 g Aq (some ⟨gi, 0, none⟩) cq cl CS ins ks))
          case first =>
            refine wp_noPanic ?_
            go_region_with (first | (go_at_call 30; refine HCC.out.mono ?_; rintro e w5 ⟨vq, rfl, hq, hb5⟩; rw [HCS.out] at hq; obtain ⟨Aq, cq, rfl, hcq, hCq⟩ := Kd.R_reads hq; have HCQ := Aside0.mk hCq; have HB5 := Aside0.mk (keep_call2b hb5); have y0 := pw_cell_below HB5.out hi0; clear hq hb5 hCq) | (go_at_call 29; refine (callsIn_wide.1 (ready_calls 3 g _ _ _ _ _ _ _)).mono ?_; rintro e w6 ⟨rfl, rfl⟩))
            all_goals (
              have hbt := below_then HB5.out HB5.out.size (below_alloc3 w5 (.cells #[.pointer (some ⟨g, 0, none⟩)] 24) (.cells #[.slice Aq CS.length cq] 28) (.cells #[.slice (some ⟨gi, 0, none⟩) ks.length cl] 28))
              have HFC := Aside0.mk (HF.out.below hbt)
              have HMC := Aside0.mk (MarksR.hi hbt.size ds (MarksR.imp ds _ HM.out (fun D hD hd => (hbt.block D hD).trans hd)))
              have HRI : Aside0 (RdIn (((w5.alloc (.cells #[.pointer (some ⟨g, 0, none⟩)] 24)).alloc (.cells #[.slice Aq CS.length cq] 28)).alloc (.cells #[.slice (some ⟨gi, 0, none⟩) ks.length cl] 28)) (w5.heap.size + 1) (w5.heap.size + 1 + 1) w5.heap.size g Aq (some ⟨gi, 0, none⟩) cq cl CS ins ks) :=
                ⟨⟨(blk_cell (blk_mid w5 _ _ _) 0).trans rfl, by rw [HI.out.1]; have h3 := blk_new ((w5.alloc (.cells #[.pointer (some ⟨g, 0, none⟩)] 24)).alloc (.cells #[.slice Aq CS.length cq] 28)) (.cells #[.slice (some ⟨gi, 0, none⟩) ks.length cl] 28); rw [World.size_alloc, World.size_alloc] at h3; exact (blk_cell h3 0).trans rfl, (blk_cell (blk_alloc (blk_alloc (blk_new w5 _) _) _) 0).trans rfl, Kd.C_below HCQ.out (below_alloc3 w5 _ _ _), (Kd.R_reads' HFC.out.ins).2.2, HO.out.below HFC.out.bel⟩⟩
              apply_assumption
              refine Met.intro ?_
              apply_assumption
              (repeat apply Exists.intro)
              refine ⟨⟨_, _, _, _, _, rfl, HFC, HMC, HRI⟩, rfl⟩)
          case rest =>
            obtain ⟨bs, b2, bo2, Aq, cq, rfl, HFC, HMC, HRI⟩ := hcut
            clear HCC HC5 HCI hi0 hi1 hi2
            go_wp2
            refine (wpIn_wide (n := 3)).1 ?_
            refine wpIn_rangeFunc_ownG rfl (by omega) (gf := 38) (lb := #[.pointer (some ⟨bs, 0, none⟩), .pointer (some ⟨b2, 0, none⟩), .pointer (some ⟨bo2, 0, none⟩)]) rfl trivial (enters_of Try.func38 (by kernel_rfl) rfl)
              (ready_stops 2 (by omega) wc bs b2 bo2 g Aq (some ⟨gi, 0, none⟩) cq cl CS ins ks HRI.out HBK.out (by have := HCL.out; omega) HI.out.1) belowK_t (belowK_b (Nat.le_refl _)) (Below.refl _ _) (fun _ => rfl)
              (fun pre W2 => pre = [] ∧ Below wc.heap.size wc W2)
              (fun cc pre W2 => cc = Code.exit 4 ∧ ∃ (x : Num ks.length) (vo2 : Value), pre = [x] ∧ FSt w W2 w.heap.size bi (.slice (some ⟨gi, 0, none⟩) ks.length cl) (.slice A5 ks.length c5) vo2 ks.length (out ++ [x.1]) (ins.set x.1.toNat (rd ins x.1 + 1)) ∧ MarksR w.heap.size wc.heap.size ds W2)
              (fun s W2 W3 row hs hg hr => ⟨hs.1, ownFrom_below (Nat.le_refl _) (Nat.le_refl _) s W2 W3 row hs.2 hg hr⟩)
              (fun cc s W2 W3 row hs hg hr => by
                obtain ⟨h1, x, vo2, h2, h3, h4⟩ := hs
                exact ⟨h1, x, vo2, h2, FSt.own (β := Unit) wc.heap.size HFC.out.bel.size () W2 W3 row h3 hg hr, MarksR.own (β := Unit) _ _ ds () W2 W3 row h4 hg hr⟩)
              ⟨rfl, Below.refl _ _⟩
              (fun x => { tmps := #[.pointer (some ⟨g, 0, none⟩), .slice A want.length c, undef, undef, .slice none 0 0, .slice A5 ks.length c5, .pointer (some ⟨w.heap.size, 0, none⟩), u7, .pointer (some ⟨bi, 0, none⟩), .int .i64 x.1, .pointer (some ⟨g, 0, none⟩), .int .i64 ks.length, .int .i64 ks.length, .bool false, u14, u15, u16, u17, u18, u19, .slice A5 ks.length c5, .int .i64 ks.length, .slice (some ⟨gi, 0, none⟩) ks.length cl, .slice A5 ks.length c5, .int .i64 ks.length, .int .i64 r, u26, u27, u28, u29, u30, u31, u32, .func (.func 38) #[] #[.pointer (some ⟨bs, 0, none⟩), .pointer (some ⟨b2, 0, none⟩), .pointer (some ⟨bo2, 0, none⟩)], .int .i64 x.1, undef, undef, undef, undef, undef, undef, undef, undef, undef, undef, u45, undef], defers := [] }) ?assign ?body ?done ?stop
            case assign =>
              intro l x W2 K hK
              gi_wp2
              exact hK
            case body =>
              rintro l pre x W2 ⟨rfl, hB2⟩ hlt2
              obtain ⟨x, hx0, hx1⟩ := x
              dsimp only
              have HF2 := Aside0.mk (HFC.out.below hB2)
              have HFA := Aside0.mk (HF2.out.below (below_alloc (Below.refl _ _) (.cells #[.int .i64 x] 3)))
              have hc : W2.cell? ⟨w.heap.size, 0, none⟩ = some vo := (blk_cell HF2.out.ob 0).trans rfl
              have hx64 : IntKind.i64.wrap (rd ins x + 1) = rd ins x + 1 := by
                have := HI.out.2.2 x.toNat (by omega)
                rw [Int.toNat_of_nonneg hx0] at this
                exact i64w (by omega) (by omega)
              have HB2 := Aside0.mk hB2
              clear hB2
              gi_wp2_with (gi_at_builtin; (refine wpListIn_append_own_at _ rfl (.tmp 35) (.tmp 37) 28 rfl w.heap.size 3 i0 (.int .i64 0) 1 8 Try.underlying28 hii hz0 hz1 hz2 rfl (by decide) vo out.length (encs (Value.int .i64) out) rfl (Kd.own_of_R HFA.out.out) ⟨W2.heap.size, 0, none⟩ 1 1 [.int .i64 x] rfl rfl (cell_one_new _ _ _) (by simp [Value.oneCell']) (by have := HI.out.2.1; unfold maxLen; omega) (by have := HI.out.2.1; omega) HFA.out.bel.size ?_; intro v' w2 hown' hgrow _ hat; have hbl := HFA.out.bel.grown hgrow HFA.out.bel.size (fun j ej => Kd.R_base HFA.out.out j ej); obtain ⟨g', cap', rfl⟩ := ownsRow_succ hown'; have ob1 := blk_grown HFA.out.ob hgrow (Kd.R_ne HFA.out.out HFA.out.ob (by decide)); have hc1 : w2.cell? ⟨w.heap.size, 0, none⟩ = some vo := (blk_cell ob1 0).trans rfl; have hf1 := blk_frozen ob1 0; have HA := Aside0.mk (FSt.app (x := x) HFA.out HNE.out hgrow (by simpa [encs] using hown') hbl (hat.imp id (fun h => ⟨_, h, Nat.le_refl _⟩))); have HKO := Aside0.mk (KeepsOthers.of_grownBy hgrow (fun j o ej hj => by obtain ⟨cells, hj2⟩ := Kd.R_typed HFA.out.out j ej; rw [hj2] at hj; cases hj; rfl)); have ya : (w2.setCell ⟨w.heap.size, 0, none⟩ (.slice (some ⟨g', 0, none⟩) (out.length + 1) cap')).cell? ⟨bi, 0, none⟩ = some (.slice (some ⟨gi, 0, none⟩) ks.length cl) := (blk_cell HA.out.ib 0).trans rfl; have yb : (w2.setCell ⟨w.heap.size, 0, none⟩ (.slice (some ⟨g', 0, none⟩) (out.length + 1) cap')).cell? ⟨gi, x.toNat, none⟩ = some (.int .i64 (rd ins x)) := (Kd.R_celln 0 HA.out.ins x hx0 hx1).1; have yc := (Kd.R_celln 0 HA.out.ins x hx0 hx1).2))
              have hko := (((KeepsOthers.alloc W2 (.cells #[.int .i64 x] 3)).trans HKO.out).trans (KeepsOthers.setCell w2 ⟨w.heap.size, 0, none⟩ (.slice (some ⟨g', 0, none⟩) (out.length + 1) cap'))).trans (KeepsOthers.setCell _ ⟨gi, x.toNat, none⟩ (.int .i64 (rd ins x + 1)))
              exact ⟨hko.from _, rfl, ⟨x, hx0, hx1⟩, _, rfl, HA.out.mark HNE.out x _, MarksR.imp ds _ HMC.out (fun D hD hd => hko.same D _ ((HB2.out.block D hD).trans hd) rfl)⟩
            case done =>
              rintro D ys W2 hD hS ⟨rfl, hB2⟩ hK
              have HFD := Aside0.mk (HFC.out.below hB2)
              have hnone : CS.find? (rdyP ks ins) = none := by rw [← List.head?_filter, ← hS]; rfl
              have HND := Aside0.mk hnone
              have HMD := Aside0.mk (show MarksR w.heap.size W2.heap.size ({ target := .collected D, args := #[] } :: ds) W2 from ⟨D, rfl, Nat.le_trans HFC.out.bel.size hD, blk_lt hK, hK, MarksR.hi hD ds (MarksR.imp ds _ HMC.out (fun D hD hd => (hB2.block D hD).trans hd))⟩)
              clear hnone hB2 hK
              go_wp2
              refine ⟨⟨r + 1, _, _, _, _, _, _, _, _, _, vo, _, out, ins, by omega, HFD, ⟨HI.out.1, by have := HI.out.2.1; omega, fun m hm => by have := HI.out.2.2 m hm; omega⟩, ⟨?_⟩, HMD, rfl⟩, ?_⟩
              · rw [← HG.out, show ks.length - r = ks.length - (r + 1) + 1 by omega, firstG_none HND.out]
              · simp [intOf]; omega
            case stop =>
              rintro D cc pre W2 hD hS ⟨rfl, x, vo2, rfl, hf, hm⟩ hK
              obtain ⟨x, hx0, hx1⟩ := x
              have hsome : CS.find? (rdyP ks ins) = some x := by
                rw [← List.head?_filter]
                obtain ⟨t, ht⟩ := hS
                rw [← ht]
                rfl
              have HND := Aside0.mk hsome
              have HFD := Aside0.mk hf
              have HMD := Aside0.mk (show MarksR w.heap.size W2.heap.size ({ target := .collected D, args := #[] } :: ds) W2 from ⟨D, rfl, Nat.le_trans HFC.out.bel.size hD, blk_lt hK, hK, MarksR.hi hD ds hm⟩)
              clear hsome hf hm hK
              refine wpIn_wide.2 ?_
              go_wp2
              refine ⟨⟨r + 1, by omega, _, _, _, _, _, _, _, _, _, vo2, _, out ++ [x], ins.set x.toNat (rd ins x + 1), HFD, ⟨?_, ?_, fun m hm => ?_⟩, ⟨?_⟩, HMD, ⟨by omega, rfl, rfl, rfl, rfl, rfl, rfl, rfl, rfl, rfl⟩, rfl⟩, ?_⟩
              · rw [List.length_set]; exact HI.out.1
              · have := HI.out.2.1; rw [List.length_append, List.length_singleton]; omega
              · rw [rd_set (by rw [HI.out.1]; exact hm)]
                split
                · have := HI.out.2.2 x.toNat (by omega)
                  rw [Int.toNat_of_nonneg hx0] at this
                  omega
                · have := HI.out.2.2 m hm
                  omega
              · rw [← HG.out, show ks.length - r = ks.length - (r + 1) + 1 by omega, firstG_some HND.out]
              · simp [intOf]; omega
        · obtain rfl : r = ks.length := by omega
          have he : out = firstB ks want := by have := HG.out; rwa [Nat.sub_self] at this
          obtain ⟨A6, c6, rfl, _, _⟩ := Kd.R_reads HF.out.out
          have hob : W.cell? ⟨w.heap.size, 0, none⟩ = some (.slice A6 out.length c6) := (blk_cell HF.out.ob 0).trans rfl
          have HE := Aside0.mk he
          clear he
          go_wp2
          refine leave_marks ds W.heap.size W HM.out HF.out.bel.size (fun w' hf => ⟨_, results_tmp rfl _ _ _, ?_⟩)
          exact ⟨⟨_, rfl, by rw [← HE.out]; exact hf.R (Kd.R_mono HF.out.out (fun _ _ => trivial))⟩, HF.out.bel.trans hf.bel⟩
end Go.Proofs.Ytnblmjkaieibhaa.HO
