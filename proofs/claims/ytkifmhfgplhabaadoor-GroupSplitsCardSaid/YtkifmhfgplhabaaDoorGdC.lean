/-
  PLAIN (splits, 3): groups made one by one, told by their headers; what memory must keep for them. No program is walked here.
-/
import Derived.Test.YtkifmhfgplhabaaDoorGdA
namespace Go.Proofs.YtkifmhfgplhabaaDoor.HQ
open Go.Proofs.YtkifmhfgplhabaaDoor.HU Go.RowKit Go.Proofs.YtkifmhfgplhabaaDoor.HK Go.Proofs.YtkifmhfgplhabaaDoor.HP Go.Proofs.YtkifmhfgplhabaaDoorW.PrintWords Go.Proofs.YtkifmhfgplhabaaDoorW.PrintLast Go.Proofs.YtkifmhfgplhabaaDoorW.PrintMore
set_option linter.unusedVariables false
set_option linter.unusedSimpArgs false
abbrev Grp := S24
abbrev SlT := Option Addr × Nat × Nat
def encSl (s : SlT) : Value := .slice s.1 s.2.1 s.2.2
abbrev Hd := ByteArray × SlT
def kH : Kd Hd := Kd.pair Kd.string (Kd.scalar encSl (fun _ => rfl))
theorem kH_mkM (W : World) (base : Nat) (ok : Nat → Prop) (h : Hd) : kH.M W base ok h [.string h.1, encSl h.2] := ⟨[.string h.1], [encSl h.2], rfl, rfl, rfl⟩
theorem kH_openM {W : World} {base : Nat} {ok : Nat → Prop} {h : Hd} {cs : List Value} (hM : kH.M W base ok h cs) : cs = [.string h.1, encSl h.2] := by
  obtain ⟨_, _, rfl, rfl, rfl⟩ := hM
  rfl
theorem kH_open {W : World} {h : Hd} {cs : List Value} (hM : kH.K W h cs) : cs = [.string h.1, encSl h.2] := by
  obtain ⟨_, _, rfl, rfl, rfl⟩ := hM
  rfl
/-- a group's ranks, told by a slice: they read so; the block is of numbers -/
structure RS (W : World) (s : SlT) (l : List Int) : Prop where
  n : s.2.1 = l.length
  c : s.2.1 ≤ s.2.2
  C : Kd.C (Kd.int .i64) W s.1 s.2.1 l
  ty : ∀ ad, s.1 = some ad → ∃ cells f, W.heap[ad.block]? = some (.cells cells 3 f)
  own : ∀ ad, s.1 = some ad → ∃ b cells, ad = ⟨b, 0, none⟩ ∧ W.heap[b]? = some (.cells cells 3 (0, 0))
theorem addr_block (a : Addr) (k : Nat) : (a.add k).block = a.block := by unfold Addr.add; split <;> rfl
theorem RS.same {W W' : World} {s : SlT} {l : List Int} (h : RS W s l) (hb : ∀ ad, s.1 = some ad → W'.heap[ad.block]? = W.heap[ad.block]?) : RS W' s l := by
  refine ⟨h.n, h.c, ⟨h.C.1, h.C.2.1, fun hp => ?_⟩, fun ad ha => ?_, fun ad ha => by obtain ⟨b, cells, e, hc⟩ := h.own ad ha; exact ⟨b, cells, e, (show W'.heap[b]? = W.heap[b]? by have := hb ad ha; rw [e] at this; exact this).trans hc⟩⟩
  · obtain ⟨ad, he, hc⟩ := h.C.2.2 hp
    refine ⟨ad, he, fun j p hj => ?_⟩
    obtain ⟨cs, h1, h2, h3⟩ := hc j p hj
    refine ⟨cs, h1, h2, fun i u hu => ?_⟩
    rw [← h3 i u hu]
    have e : ∀ a : Addr, a.block = ad.block → W'.cell? a = W.cell? a := fun a ha => by
      unfold World.cell?
      rw [ha, hb ad he]
    exact e _ (addr_block _ _)
  · obtain ⟨cells, f, hc⟩ := h.ty ad ha
    exact ⟨cells, f, (hb ad ha).trans hc⟩
theorem RS.below {W W' : World} {s : SlT} {l : List Int} (h : RS W s l) (hb : Below W.heap.size W W') : RS W' s l :=
  h.same (fun ad ha => by obtain ⟨cells, f, hc⟩ := h.ty ad ha; exact hb.block _ (blk_lt hc))
theorem RS.kept {W W' : World} {S : Nat → Prop} {s : SlT} {l : List Int} (h : RS W s l) (hk : Kept W W' S) (hS : ∀ ad, s.1 = some ad → ¬ S ad.block) : RS W' s l :=
  h.same (fun ad ha => by obtain ⟨cells, f, hc⟩ := h.ty ad ha; exact hk.2 _ (blk_lt hc) (hS ad ha))
theorem RS.of_R {W : World} {base : Nat} {ok : Nat → Prop} {A : Option Addr} {n c : Nat} {l : List Int} (h : Kd.R (Kd.int .i64) 3 W base ok (.slice A n c) l) : RS W (A, n, c) l := by
  obtain ⟨A', c', he, hc, hC⟩ := Kd.R_reads h
  injection he with h1 h2 h3
  subst h1 h2 h3
  have hown : ∀ ad, A = some ad → ∃ b cells, ad = ⟨b, 0, none⟩ ∧ W.heap[b]? = some (.cells cells 3 (0, 0)) := fun ad ha => by
    subst ha
    obtain ⟨inner, ho⟩ := Kd.R_own h
    rcases ho.2 with ⟨hv, _⟩ | ⟨g, cap, cur, hv, _, hb, _⟩
    · injection hv with h1
      cases h1
    · injection hv with h1
      injection h1 with h1
      subst h1
      exact ⟨g, cur, rfl, hb⟩
  exact ⟨rfl, hc, hC, fun ad ha => by obtain ⟨b, cells, e, hb⟩ := hown ad ha; subst e; exact ⟨cells, _, hb⟩, hown⟩
theorem RS.lt {W : World} {s : SlT} {l : List Int} (h : RS W s l) : ∀ ad, s.1 = some ad → ad.block < W.heap.size := fun ad ha => by obtain ⟨cells, f, hc⟩ := h.ty ad ha; exact blk_lt hc
/-- groups under way: the last one's ranks are a row of one's own, behind B; the others' lie ahead of it -/
structure GI (W : World) (base B : Nat) (v : Value) (hs : List Hd) (gs : List Grp) : Prop where
  row : kH.Q 24 W base (fun _ => True) v hs
  len : hs.length = gs.length
  key : ∀ (j : Nat) (h : Hd) (g : Grp), hs[j]? = some h → gs[j]? = some g → h.1 = g.f0
  fin : ∀ (j : Nat) (h : Hd) (g : Grp), j + 1 < hs.length → hs[j]? = some h → gs[j]? = some g → RS W h.2 g.f1 ∧ ∀ ad, h.2.1 = some ad → ad.block < B
  last : ∀ (j : Nat) (h : Hd) (g : Grp), j + 1 = hs.length → hs[j]? = some h → gs[j]? = some g → Kd.R (Kd.int .i64) 3 W B (fun _ => True) (encSl h.2) g.f1
  hB : B ≤ W.heap.size
theorem GI.nil (W : World) (base : Nat) : GI W base W.heap.size (.slice none 0 0) [] [] :=
  ⟨Kd.Q_nil _ _ _ _ _, rfl, fun j h g hj => by simp at hj, fun j h g hj => by simp at hj, fun j h g hj => by simp at hj, Nat.le_refl _⟩
theorem GI.below {W W' : World} {base B : Nat} {v : Value} {hs : List Hd} {gs : List Grp} (h : GI W base B v hs gs) (hb : Below W.heap.size W W') : GI W' base B v hs gs :=
  ⟨Kd.Q_below h.row hb, h.len, h.key, fun j x g h1 h2 h3 => ⟨(h.fin j x g h1 h2 h3).1.below hb, (h.fin j x g h1 h2 h3).2⟩, fun j x g h1 h2 h3 => Kd.R_below (h.last j x g h1 h2 h3) hb, Nat.le_trans h.hB hb.size⟩
theorem GI.all {W : World} {base B : Nat} {v : Value} {hs : List Hd} {gs : List Grp} (h : GI W base B v hs gs) {j : Nat} {x : Hd} {g : Grp} (h2 : hs[j]? = some x) (h3 : gs[j]? = some g) : RS W x.2 g.f1 := by
  have hj : j < hs.length := by
    rcases Nat.lt_or_ge j hs.length with h | h
    · exact h
    · rw [List.getElem?_eq_none h] at h2; cases h2
  by_cases hl : j + 1 < hs.length
  · exact (h.fin j x g hl h2 h3).1
  · obtain ⟨k, A, n⟩ := x
    exact RS.of_R (h.last j _ g (by omega) h2 h3)
theorem not_grp {W : World} {base : Nat} {ok : Nat → Prop} {v : Value} {hs : List Hd} (h : kH.Q 24 W base ok v hs) {b : Nat} {cells : Array Value} {f : Nat × Nat} (hb : W.heap[b]? = some (.cells cells 3 f)) : v.ownBlock ≠ some b := fun he => by
  obtain ⟨c2, h2⟩ := Kd.Q_typed h b he
  rw [hb] at h2
  injection h2 with h2
  injection h2 with _ h2 _
  exact absurd h2 (by decide)
/-- a new group -/
theorem GI.push {W W' : World} {base B : Nat} {v v' : Value} {hs : List Hd} {gs : List Grp} {key : ByteArray} (h : GI W base B v hs gs) (hq : kH.Q 24 W' base (fun _ => True) v' (hs ++ [(key, (none, 0, 0))])) (hg : W.grownBy W' v.ownBlock) : GI W' base W'.heap.size v' (hs ++ [(key, (none, 0, 0))]) (gs ++ [⟨key, []⟩]) := by
  have hl := h.len
  have hk : Kept W W' (fun k => v.ownBlock = some k) := Kept.of_grown hg (Kept.refl W _) (fun k hk => .inl hk)
  have hrs : ∀ (j : Nat) (x : Hd) (g : Grp), hs[j]? = some x → gs[j]? = some g → RS W' x.2 g.f1 := fun j x g h1 h2 => (h.all h1 h2).kept hk (fun ad ha hw => by
    obtain ⟨cells, f, hc⟩ := (h.all h1 h2).ty ad ha
    exact not_grp h.row hc hw)
  refine ⟨hq, by simp [hl], fun j x g h1 h2 => ?_, fun j x g h1 h2 h3 => ?_, fun j x g h1 h2 h3 => ?_, Nat.le_refl _⟩
  · by_cases hj : j < hs.length
    · rw [List.getElem?_append_left hj] at h1
      rw [List.getElem?_append_left (by omega)] at h2
      exact h.key j x g h1 h2
    · rw [List.getElem?_append_right (by omega)] at h1 h2
      rw [hl] at h1
      cases hjj : j - gs.length with
      | zero =>
        rw [hjj] at h1 h2
        simp at h1 h2
        rw [← h1, ← h2]
      | succ t => rw [hjj] at h1; simp at h1
  · rw [List.length_append, List.length_singleton] at h1
    rw [List.getElem?_append_left (by omega)] at h2
    rw [List.getElem?_append_left (by omega)] at h3
    exact ⟨hrs j x g h2 h3, (hrs j x g h2 h3).lt⟩
  · rw [List.length_append, List.length_singleton] at h1
    rw [List.getElem?_append_right (by omega)] at h2
    rw [List.getElem?_append_right (by omega)] at h3
    have e1 : j - hs.length = 0 := by omega
    have e2 : j - gs.length = 0 := by omega
    rw [e1] at h2
    rw [e2] at h3
    simp at h2 h3
    rw [← h2, ← h3]
    exact Kd.R_nil _ _ _ _ _
theorem EHI : ∀ q, q ∈ 24 :: kH.E → q ≠ 3 := by decide
theorem EIH : ∀ q, q ∈ 3 :: (Kd.int .i64).E → q ≠ 24 := by decide
/-- the row of headers, where the last group's ranks have grown -/
theorem GI.row_grown {W W1 : World} {base B : Nat} {v : Value} {hs : List Hd} {gs : List Grp} (h : GI W base B v hs gs) {j : Nat} {x : Hd} {g : Grp} (h1 : j + 1 = hs.length) (h2 : hs[j]? = some x) (h3 : gs[j]? = some g) (hg : W.grownBy W1 (encSl x.2).ownBlock) : kH.Q 24 W1 base (fun _ => True) v hs := by
  have hl := h.last j x g h1 h2 h3
  cases ho : (encSl x.2).ownBlock with
  | none =>
    rw [ho] at hg
    exact Kd.Q_grown h.row hg (fun k _ hk => by cases hk)
  | some b =>
    obtain ⟨cells, hb⟩ := Kd.R_typed hl b ho
    rw [ho] at hg
    exact Kd.Q_mono (Kd.Q_grown (Kd.Q_types h.row hb EHI) hg (fun k hk he => hk.2 (Option.some.inj he))) (fun _ hk => hk.1)
theorem GI.put {W W1 : World} {base B gB o cap m n1 c1 : Nat} {A1 : Option Addr} {hs : List Hd} {gs : List Grp} {x : Hd} {g : Grp} {l1 : List Int} (h : GI W base B (.slice (some ⟨gB, o, none⟩) (m + 1) cap) hs gs) (h1 : m + 1 = hs.length) (h2 : hs[m]? = some x) (h3 : gs[m]? = some g)
    (hR : Kd.R (Kd.int .i64) 3 W1 B (fun _ => True) (.slice A1 n1 c1) l1) (hb : Below B W W1) (hg : W.grownBy W1 (encSl x.2).ownBlock) :
    GI (W1.setCell ⟨gB, o + m * 2 + 1, none⟩ (.slice A1 n1 c1)) base B (.slice (some ⟨gB, o, none⟩) (m + 1) cap) (hs.set m (x.1, (A1, n1, c1))) (gs.set m ⟨g.f0, l1⟩) := by
  have hl := h.len
  have row1 := h.row_grown h1 h2 h3 hg
  obtain ⟨cells, hc⟩ := Kd.Q_typed row1 gB rfl
  have hkey := h.key m x g h2 h3
  obtain ⟨cs, hcl, hM, hcc, hfr⟩ := Kd.Q_elem row1 (x.1, (none, 0, 0)) (m : Int) (by omega) (by omega)
  rw [Int.toNat_natCast] at hM hcc
  have hx : hs.getD m (x.1, (none, 0, 0)) = x := by simp [List.getD, h2]
  rw [hx] at hM
  have hce := kH_openM hM
  have hs2 := Kd.Q_seg row1 (m : Int) (by omega) (by omega) (c := cs) (seg := [.slice A1 n1 c1]) (j := 1) (x' := (x.1, (A1, n1, c1))) (okp := fun _ => False) hcl (by rw [Int.toNat_natCast]; exact hcc) (by show _ ≤ 2; simp) (by
      rw [hce]
      exact kH_mkM W1 base _ (x.1, (A1, n1, c1))) (fun _ h => h.elim)
  rw [Int.toNat_natCast] at hs2
  have hblk : ∀ ad : Addr, (∃ cells f, W1.heap[ad.block]? = some (.cells cells 3 f)) → (W1.setCell ⟨gB, o + m * 2 + 1, none⟩ (.slice A1 n1 c1)).heap[ad.block]? = W1.heap[ad.block]? := fun ad ⟨c2, f, h4⟩ => by
    refine Below.heap_setCell W1 _ _ _ (fun he => ?_)
    rw [he] at h4
    rw [hc] at h4
    injection h4 with h4
    injection h4 with _ h4 _
    exact absurd h4 (by decide)
  refine ⟨hs2.1, by simp [hl], fun j y z h4 h5 => ?_, fun j y z h4 h5 h6 => ?_, fun j y z h4 h5 h6 => ?_, Nat.le_trans h.hB (Nat.le_trans hb.size (by simp))⟩
  · by_cases hj : j = m
    · subst hj
      rw [List.getElem?_set_self (by omega)] at h4 h5
      rw [← Option.some.inj h4, ← Option.some.inj h5]
      exact hkey
    · rw [List.getElem?_set_ne (by omega)] at h4 h5
      exact h.key j y z h4 h5
  · rw [List.length_set] at h4
    rw [List.getElem?_set_ne (by omega)] at h5 h6
    obtain ⟨r1, r2⟩ := h.fin j y z h4 h5 h6
    have r3 : RS W1 y.2 z.f1 := r1.same (fun ad ha => hb.block _ (r2 ad ha))
    exact ⟨r3.same (fun ad ha => hblk ad (r3.ty ad ha)), r2⟩
  · rw [List.length_set] at h4
    obtain rfl : j = m := by omega
    rw [List.getElem?_set_self (by omega)] at h5 h6
    rw [← Option.some.inj h5, ← Option.some.inj h6]
    exact Kd.R_set hR hc EIH _ _
theorem Qh_cell {W : World} {base gB o n cap : Nat} {ok : Nat → Prop} {hs : List Hd} (row : kH.Q 24 W base ok (.slice (some ⟨gB, o, none⟩) n cap) hs) {m : Nat} {x : Hd} (hm : m < n) (h2 : hs[m]? = some x) :
    W.cell? ⟨gB, o + m * 2 + 1, none⟩ = some (.slice x.2.1 x.2.2.1 x.2.2.2) ∧ W.frozen? ⟨gB, o + m * 2 + 1, none⟩ = false := by
  obtain ⟨cs, hcl, hM, hcc, hfr⟩ := Kd.Q_elem row (x.1, (none, 0, 0)) (m : Int) (by omega) (by omega)
  rw [Int.toNat_natCast] at hM hcc hfr
  have hx : hs.getD m (x.1, (none, 0, 0)) = x := by simp [List.getD, h2]
  rw [hx] at hM
  have hce := kH_openM hM
  exact ⟨hcc 1 _ (by rw [hce]; rfl), hfr 1⟩
theorem infoG : (Tryd.prog.info? 24).map (fun i => (i.zero, i.size, i.bytes)) = some (some (.agg #[.string ⟨#[]⟩, .slice none 0 0]), 2, 40) := by kernel_rfl
def addR (r : Int) (gs : List Grp) : List Grp := gs.set (gs.length - 1) ⟨(gs.getD (gs.length - 1) z24).f0, (gs.getD (gs.length - 1) z24).f1 ++ [r]⟩
theorem addR_put {gs : List Grp} {m : Nat} {g : Grp} {r : Int} (h : m + 1 = gs.length) (hg : gs[m]? = some g) : addR r gs = gs.set m ⟨g.f0, g.f1 ++ [r]⟩ := by
  unfold addR
  rw [show gs.length - 1 = m by omega]
  have : gs.getD m z24 = g := by simp [List.getD, hg]
  rw [this]
theorem box_grown {W W' : World} {base : Nat} {ok : Nat → Prop} {v : Value} {hs : List Hd} (row : kH.Q 24 W base ok v hs) {b : Nat} {cells : Array Value} (hb : W.heap[b]? = some (.cells cells 67 (0, 0))) (hg : W.grownBy W' v.ownBlock) : W'.heap[b]? = some (.cells cells 67 (0, 0)) := by
  refine (hg.block b (blk_lt hb) (fun he => ?_)).trans hb
  obtain ⟨c2, h2⟩ := Kd.Q_typed row b he.symm
  rw [hb] at h2
  injection h2 with h2
  injection h2 with _ h2 _
  exact absurd h2 (by decide)
theorem box_int {W W' : World} {B : Nat} {ok : Nat → Prop} {v : Value} {l : List Int} (row : Kd.R (Kd.int .i64) 3 W B ok v l) {b : Nat} {cells : Array Value} {t : Nat} (ht : t ≠ 3) (hb : W.heap[b]? = some (.cells cells t (0, 0))) (hg : W.grownBy W' v.ownBlock) : W'.heap[b]? = some (.cells cells t (0, 0)) := by
  refine (hg.block b (blk_lt hb) (fun he => ?_)).trans hb
  obtain ⟨c2, h2⟩ := Kd.R_typed row b he.symm
  rw [hb] at h2
  injection h2 with h2
  injection h2 with _ h2 _
  exact absurd h2 ht
/-- what a split's groups are, of those who asked, sorted -/
def newG (L : List S67) (i : Nat) : Prop := i = 0 ∨ (L.getD (i - 1) z67).f0.f0 ≠ (L.getD i z67).f0.f0
instance (L : List S67) (i : Nat) : Decidable (newG L i) := by unfold newG; exact inferInstance
def keyG (s : ByteArray) (k : Int) (c : Int) : ByteArray := childB s k ++ ⟨#[58]⟩ ++ itoB c
def grps (s : ByteArray) (k : Int) (L : List S67) : Nat → List Grp
  | 0 => []
  | i + 1 => addR (L.getD i z67).f1 (if newG L i then grps s k L i ++ [⟨keyG s k (L.getD i z67).f0.f0, []⟩] else grps s k L i)
theorem addR_len {r : Int} {gs : List Grp} {n : Nat} (h : ∀ g ∈ gs, g.f1.length ≤ n) : ∀ g ∈ addR r gs, g.f1.length ≤ n + 1 := by
  intro g hg
  unfold addR at hg
  obtain ⟨j, hj, rfl⟩ := List.getElem_of_mem hg
  rw [List.length_set] at hj
  by_cases he : gs.length - 1 = j
  · subst he
    rw [List.getElem_set_self, List.length_append, List.length_singleton]
    have : gs.getD (gs.length - 1) z24 = gs[gs.length - 1] := by simp [List.getD, hj]
    rw [this]
    have := h _ (List.getElem_mem hj)
    omega
  · rw [List.getElem_set_ne he]
    have := h _ (List.getElem_mem hj)
    omega
theorem grps_len (s : ByteArray) (k : Int) (L : List S67) : ∀ i, ∀ g ∈ grps s k L i, g.f1.length ≤ i
  | 0, g, h => by cases h
  | i + 1, g, h => by
    refine addR_len (fun g hg => ?_) g h
    split at hg
    · rcases List.mem_append.1 hg with hg | hg
      · exact grps_len s k L i g hg
      · rw [List.mem_singleton.1 hg]; exact Nat.zero_le _
    · exact grps_len s k L i g hg
theorem GI.reads {W : World} {base B : Nat} {v : Value} {hs : List Hd} {gs : List Grp} (h : GI W base B v hs gs) : ∃ A c, v = .slice A gs.length c ∧ gs.length ≤ c ∧ Kd.C k24 W A gs.length gs := by
  obtain ⟨A, c, hv, hc, hC⟩ := Kd.Q_reads h.row
  rw [h.len] at hv hc
  refine ⟨A, c, hv, hc, rfl, by have := hC.2.1; rw [h.len] at this; exact this, fun hp => ?_⟩
  obtain ⟨ad, he, hr⟩ := hC.2.2 (by rw [h.len]; exact hp)
  refine ⟨ad, he, fun j g hj => ?_⟩
  have hjl : j < hs.length := by
    rw [h.len]
    rcases Nat.lt_or_ge j gs.length with h | h
    · exact h
    · rw [List.getElem?_eq_none h] at hj; cases hj
  obtain ⟨cs, h1, h2, h3⟩ := hr j hs[j] (List.getElem?_eq_getElem hjl)
  have hx := List.getElem?_eq_getElem hjl
  have hrs := h.all hx hj
  have hky := h.key j _ g hx hj
  obtain rfl := kH_open h2
  refine ⟨[.string g.f0, .slice hs[j].2.1 g.f1.length hs[j].2.2.2], rfl, k24_mk W g (A1 := hs[j].2.1) (c1 := hs[j].2.2.2) (by have := hrs.c; rw [hrs.n] at this; exact this) (by have := hrs.C; rw [hrs.n] at this; exact this), fun i u hu => ?_⟩
  refine h3 i u ?_
  rw [← hu, hky]
  unfold encSl
  rw [hrs.n]
end Go.Proofs.YtkifmhfgplhabaaDoor.HQ
