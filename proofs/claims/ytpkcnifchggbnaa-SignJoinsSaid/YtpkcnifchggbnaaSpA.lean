/-
  ROWS OF CHOICES AS BLOCKS: what a row's block holds; copy within blocks. No program is walked here.
-/
import Derived.Test.YtpkcnifchggbnaaSgL
import Derived.Test.YtpkcnifchggbnaaHV
import Derived.Laws.CopyRow
import Derived.Laws.CopyOwn
import Derived.Laws.IdiomCopy
namespace Go.Proofs.Ytpkcnifchggbnaa.HI
open Go.RowKit Go.Proofs.Ytpkcnifchggbnaa.HK Go.Proofs.Ytpkcnifchggbnaa.HU Go.Proofs.YtpkcnifchggbnaaW.PrintWords Go.Proofs.YtpkcnifchggbnaaW.PrintLast Go.Proofs.YtpkcnifchggbnaaW.PrintMore
set_option linter.unusedVariables false
set_option linter.unusedSimpArgs false
abbrev Cho := S24
def encC (x : Cho) : List Value := [.int .i64 x.f0, .int .i64 x.f1, .int .i64 x.f2, .int .i64 x.f3, .int .i64 x.f4]
def flat : List Cho → List Value
  | [] => []
  | x :: t => encC x ++ flat t
theorem flat_len : ∀ xs : List Cho, (flat xs).length = xs.length * 5
  | [] => rfl
  | x :: t => by
    show (encC x ++ flat t).length = _
    rw [List.length_append, flat_len t, List.length_cons, Nat.succ_mul]
    show 5 + _ = _
    omega
theorem flat_app : ∀ xs ys : List Cho, flat (xs ++ ys) = flat xs ++ flat ys
  | [], ys => rfl
  | x :: t, ys => by
    show encC x ++ flat (t ++ ys) = encC x ++ flat t ++ flat ys
    rw [flat_app t ys, List.append_assoc]
theorem flat_take (xs : List Cho) (n : Nat) (hn : n ≤ xs.length) : (flat xs).take (n * 5) = flat (xs.take n) := by
  have h : flat xs = flat (xs.take n) ++ flat (xs.drop n) := by rw [← flat_app, List.take_append_drop]
  rw [h]
  refine List.take_left' ?_
  rw [flat_len, List.length_take, Nat.min_eq_left hn]
theorem flat_drop (xs : List Cho) (n : Nat) (hn : n ≤ xs.length) : (flat xs).drop (n * 5) = flat (xs.drop n) := by
  have h : flat xs = flat (xs.take n) ++ flat (xs.drop n) := by rw [← flat_app, List.take_append_drop]
  rw [h]
  refine List.drop_left' ?_
  rw [flat_len, List.length_take, Nat.min_eq_left hn]
theorem flat_one : ∀ xs : List Cho, ∀ v ∈ flat xs, v.oneCell' = true
  | [], v, h => by cases h
  | x :: t, v, h => by
    rcases List.mem_append.1 (show v ∈ encC x ++ flat t from h) with h | h
    · simp only [encC, List.mem_cons, List.not_mem_nil, or_false] at h
      rcases h with rfl | rfl | rfl | rfl | rfl <;> rfl
    · exact flat_one t v h
theorem flat_get : ∀ (xs : List Cho) (j : Nat) (p : Cho), xs[j]? = some p → ((flat xs).drop (j * 5)).take 5 = encC p := by
  intro xs j p h
  obtain ⟨hj, e⟩ := List.getElem?_eq_some_iff.1 h
  rw [flat_drop xs j (by omega), List.drop_eq_getElem_cons hj, e]
  show (encC p ++ _).take 5 = _
  exact List.take_left' rfl
theorem flat_of_reps {W : World} {base : Nat} {ok : Nat → Prop} : ∀ (xs : List Cho) (cs : List Value), Reps (Kd.M k24 W base ok) 5 xs cs → cs = flat xs
  | [], cs, h => List.eq_nil_of_length_eq_zero (by have := h.1; simpa using this)
  | x :: t, cs, h => by
    have h0 := h.2 0 x rfl
    have h1 := k24_openM h0
    simp only [Nat.zero_mul, List.drop_zero] at h1
    have ht : Reps (Kd.M k24 W base ok) 5 t (cs.drop 5) := by
      refine ⟨by have := h.1; rw [List.length_drop, this, List.length_cons, Nat.succ_mul]; omega, fun j p hj => ?_⟩
      have := h.2 (j + 1) p (by simpa using hj)
      rw [List.drop_drop]
      rwa [Nat.succ_mul, Nat.add_comm] at this
    have := flat_of_reps t _ ht
    show cs = encC x ++ flat t
    rw [← this]
    exact ((List.take_append_drop 5 cs).symm).trans (congrArg (· ++ cs.drop 5) h1)
theorem reps_flat (W : World) (base : Nat) (ok : Nat → Prop) (xs : List Cho) : Reps (Kd.M k24 W base ok) 5 xs (flat xs) := by
  refine ⟨flat_len xs, fun j p h => ?_⟩
  rw [flat_get xs j p h]
  exact k24_mkM W base ok p
/-- a block that holds these choices, and something behind them -/
def Blk (W : World) (b : Nat) (xs : List Cho) (sp : List Value) : Prop := W.heap[b]? = some (.cells (flat xs ++ sp).toArray 24 (0, 0))
theorem R_block {W : World} {base : Nat} {ok : Nat → Prop} {v : Value} {xs : List Cho} (h : Kd.R k24 24 W base ok v xs) :
    (v = .slice none 0 0 ∧ xs = []) ∨ ∃ b c sp, v = .slice (some ⟨b, 0, none⟩) xs.length c ∧ Blk W b xs sp ∧ base ≤ b ∧ ok b ∧ xs.length ≤ c ∧ c ≤ maxLen ∧ xs.length * 5 + sp.length = c * 5 := by
  obtain ⟨hok, inner, ho, hr⟩ := h
  have hfl := flat_of_reps xs inner hr
  rcases ho.2 with ⟨hv, hn⟩ | ⟨g, cap, cur, hv, hb, hblk, hn, hm, hs, ht⟩
  · exact .inl ⟨hv, List.eq_nil_of_length_eq_zero hn⟩
  · refine .inr ⟨g, cap, cur.toList.drop (xs.length * 5), hv, ?_, hb, hok g (by rw [hv]; rfl), hn, hm, ?_⟩
    · unfold Blk
      rw [hblk, ← hfl, ← show cur.toList.take (xs.length * 5) = inner from ht, List.take_append_drop]
    · have hs' : cur.size = cap * 5 := hs
      have h2 : (cur.toList.drop (xs.length * 5)).length = cur.size - xs.length * 5 := by simp
      have := Nat.mul_le_mul_right 5 hn
      omega
theorem R_of_block {W : World} {base b c : Nat} {ok : Nat → Prop} {xs : List Cho} {sp : List Value} (h : Blk W b xs sp) (hb : base ≤ b) (hok : ok b) (hc : c ≤ maxLen) (hs : xs.length * 5 + sp.length = c * 5) : Kd.R k24 24 W base ok (.slice (some ⟨b, 0, none⟩) xs.length c) xs := by
  refine ⟨fun k hk => ownB hk ▸ hok, flat xs, ⟨flat_len xs, .inr ⟨b, c, (flat xs ++ sp).toArray, rfl, hb, h, by omega, hc, ?_, ?_⟩⟩, reps_flat _ _ _ _⟩
  · show (flat xs ++ sp).toArray.size = c * 5
    simp [flat_len]
    omega
  · show ((flat xs ++ sp).toArray.toList.take (xs.length * 5)) = flat xs
    simp only [List.toList_toArray]
    exact List.take_left' (flat_len xs)
section
variable {P : Program} {ops : Array Oper} {rest : List Oper} {o : Oper} {a : Act} {Q : Exit → Act → World → Prop} {Kc : Act → World → Prop}
/-- copy(dst, src): dst within a block of plain memory -/
theorem run_copy_at (w : World) (dT sT ty elem : TypeId) (sz g od nd cd : Nat) (ad : Addr) (ns cx m : Nat) (cur : Array Value) (t : TypeId) (cs : List Value)
    (hu : P.underlying dT = some (.slice elem)) (hs : (P.info? elem).map (·.size) = some sz)
    (hg : w.heap[g]? = some (.cells cur t (0, 0))) (hm : min ns nd = m) (hn : cs.length = m * sz) (hsrc : ∀ j v, cs[j]? = some v → w.cell? (ad.add j) = some v) (hfit : od + cs.length ≤ cur.size) (h1 : ∀ v ∈ cs, v.oneCell' = true) :
    (Builtin.copy_ #[dT, sT] ty #[.slice (some ⟨g, od, none⟩) nd cd, .slice (some ad) ns cx]).run P w = .ok (goInt m) (w.setRow g (cur.toList.take od ++ cs ++ cur.toList.drop (od + cs.length)).toArray) := by
  have hl := run_loadCells_list (P := P) w ad cs hsrc
  have hst := run_storeCells_at P g od t cs 0 cur w hg (by omega) h1
  rw [hn] at hl
  simp only [Nat.add_zero] at hst
  have hm' : Nat.min ns nd = m := hm
  cases hq : P.info? elem with
  | none => simp [hq] at hs
  | some i =>
    have hi : i.size = sz := by simpa [hq] using hs
    simp [Builtin.copy_, run_underlying hu, Builtin.lenOf, Builtin.firstCells, sizeOf, typeInfo, hq, hi, hm', hl, hst]
theorem wpList_copy_runC (w : World) (hgd : o.guard = none) (d s : Operand) (t t' : TypeId)
    (ho : o.op = .call { callee := .builtin .copy, args := #[d, s], argTypes := #[t, t'] }) (v u : Value) (hd : a.eval d = v) (hs : a.eval s = u) {v' : Value} {w' : World}
    (hr : (Builtin.copy_ #[t, t'] o.type #[v, u]).run P w = .ok v' w') (h : wpList P ops Q rest (a.put o.dst v') w') : wpList P ops Q (o :: rest) a w := by
  refine wpList_plain hgd fun K hK => ?_
  unfold Oper.wp execOp
  simp only [ho, resolve, invoke, builtin, Sem.run_bind, Sem.run_pure, Result.andThen_ok, List.map_toArray, List.map_cons, List.map_nil, hd, hs, hr]
  exact hK _ _ h
theorem step_copy_runC {w : World} {E : Prop} (hg : o.guard = none) (d x : Operand) (dT sT : TypeId) (hop : o.op = Op.call { callee := Callee.builtin Builtin.copy, args := #[d, x], argTypes := #[dT, sT] })
    (v u : Value) (hd : a.eval d = v) (hx : a.eval x = u) {v' : Value} {w' : World} (hr : (Builtin.copy_ #[dT, sT] o.type #[v, u]).run P w = .ok v' w') (hK : Kc (a.put o.dst v') w') :
    if Region.wanted o (yielded ops a.tmps) = true then Oper.wp P o a w Kc Q else E := by
  have hw : Region.wanted o (yielded ops a.tmps) = true := by simp [Region.wanted, hg]
  rw [if_pos hw]
  unfold Oper.wp
  simp [execOp, hop, resolve, invoke, builtin, hd, hx, hr, Result.andThen]
  exact hK
end
theorem shift_list (A B sp e : List Value) (p : Nat) (hA : A.length = p) (hB : 5 ≤ B.length) (he : e.length = 5) (hs : 5 ≤ sp.length) :
    ((A ++ B ++ sp).take (p + 5) ++ B ++ (A ++ B ++ sp).drop (p + 5 + B.length)).take p ++ e ++ ((A ++ B ++ sp).take (p + 5) ++ B ++ (A ++ B ++ sp).drop (p + 5 + B.length)).drop (p + e.length) = A ++ e ++ B ++ sp.drop 5 := by
  have t1 : (A ++ B ++ sp).take (p + 5) = A ++ B.take 5 := by
    rw [List.append_assoc, List.take_append, List.take_of_length_le (by omega), hA, show p + 5 - p = 5 by omega, List.take_append_of_le_length hB]
  have t2 : (A ++ B ++ sp).drop (p + 5 + B.length) = sp.drop 5 := by
    rw [List.drop_append, List.drop_eq_nil_of_le (by rw [List.length_append]; omega), List.nil_append, List.length_append, hA, show p + 5 + B.length - (p + B.length) = 5 by omega]
  rw [t1, t2, he]
  have t3 : (A ++ B.take 5 ++ B ++ sp.drop 5).take p = A := by
    rw [List.append_assoc, List.append_assoc]
    exact List.take_left' hA
  have t4 : (A ++ B.take 5 ++ B ++ sp.drop 5).drop (p + 5) = B ++ sp.drop 5 := by
    rw [List.append_assoc (A ++ B.take 5)]
    exact List.drop_left' (by rw [List.length_append, List.length_take, hA]; omega)
  rw [t3, t4]
  simp only [List.append_assoc]
/-- the row behind an insertion in place -/
theorem shift_cells (xs : List Cho) (x : Cho) (sp : List Value) (i : Nat) (hi : i < xs.length) (hs : 5 ≤ sp.length) :
    ((flat xs ++ sp).take ((i + 1) * 5) ++ flat (xs.drop i) ++ (flat xs ++ sp).drop ((i + 1) * 5 + (flat (xs.drop i)).length)).take (i * 5) ++ encC x ++ ((flat xs ++ sp).take ((i + 1) * 5) ++ flat (xs.drop i) ++ (flat xs ++ sp).drop ((i + 1) * 5 + (flat (xs.drop i)).length)).drop (i * 5 + (encC x).length) = flat (xs.take i ++ x :: xs.drop i) ++ sp.drop 5 := by
  have h : flat xs = flat (xs.take i) ++ flat (xs.drop i) := by rw [← flat_app, List.take_append_drop]
  have hA : (flat (xs.take i)).length = i * 5 := by rw [flat_len, List.length_take, Nat.min_eq_left (by omega)]
  have hB : 5 ≤ (flat (xs.drop i)).length := by rw [flat_len, List.length_drop]; omega
  rw [show (i + 1) * 5 = i * 5 + 5 by omega, h]
  rw [shift_list _ _ _ _ _ hA hB rfl hs, flat_app]
  show _ = flat (xs.take i) ++ (encC x ++ flat (xs.drop i)) ++ _
  simp only [List.append_assoc]
end Go.Proofs.Ytpkcnifchggbnaa.HI
