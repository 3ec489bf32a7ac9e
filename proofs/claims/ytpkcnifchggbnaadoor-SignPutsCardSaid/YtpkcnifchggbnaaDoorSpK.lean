/-
  CONTRACTS BY HAND (sign, 29): SignPuts, walked.
-/
import Derived.Test.YtpkcnifchggbnaaDoorSpJ
namespace Go.Proofs.YtpkcnifchggbnaaDoor.HI
open Go.RowKit Go.Proofs.YtpkcnifchggbnaaDoor.HD Go.Proofs.YtpkcnifchggbnaaDoor.HK Go.Proofs.YtpkcnifchggbnaaDoor.HU Go.Proofs.YtpkcnifchggbnaaDoorW.PrintWords Go.Proofs.YtpkcnifchggbnaaDoorW.PrintLast Go.Proofs.YtpkcnifchggbnaaDoorW.PrintMore
set_option linter.unusedVariables false
set_option linter.unusedSimpArgs false
attribute [local go_sem high] Qsbase.eqA40
abbrev RC (W : World) (b : Nat) (v : Value) (xs : List Cho) : Prop := Kd.R k40 40 W b (fun _ => True) v xs
section
variable {P : Program} {ops : Array Oper} {rest : List Oper} {o : Oper} {a : Act} {Q : Exit → Act → World → Prop} {Kc : Act → World → Prop} {α : Type}
/-- append(v, ys...) at a step of a region. -/
theorem rows_step (d : Kd α) {Rr : α → List Value → Prop} {w0 W : World} (base : Nat) (hw : Region.wanted o (yielded ops a.tmps) = true) (hgd : o.guard = none) (s x : Operand) (t e : TypeId) (z : Value) (bytes : Nat)
    (ho : o.op = .call { callee := .builtin .append, args := #[s, x], argTypes := #[t, t] })
    (ht : P.underlying t = some (.slice e)) (hinfo : (P.info? e).map (fun i => (i.zero, i.size, i.bytes)) = some (some z, d.sz, bytes)) (hz : z.cells.size = d.sz) (hs0 : 0 < d.sz) (hb0 : 0 < bytes)
    (v : Value) (xs ys : List α) (A : Option Addr) (m c : Nat) (ok okp : Nat → Prop) (hs : a.eval s = v) (hx : a.eval x = .slice A m c)
    (HO : d.R e W base ok v xs) (HR : ReadsRow Rr d.sz W A m ys) (hKM : ∀ x cs, Rr x cs → d.M W base okp x cs) (hokp : ∀ k, okp k → ok k ∧ some k ≠ v.ownBlock) (hfresh : ∀ k, W.heap.size ≤ k → ok k)
    (HB : Below base w0 W) (hbase : base ≤ W.heap.size) (hl : (xs.length + m) * bytes ≤ 140737488355328)
    (h : ∀ v1 w1, d.R e w1 base ok v1 (xs ++ ys) → Below base w0 w1 → W.grownBy w1 v.ownBlock → (v1.ownBlock = v.ownBlock ∨ ∃ b, v1.ownBlock = some b ∧ W.heap.size ≤ b) → Kc (a.put o.dst v1) w1) :
    if Region.wanted o (yielded ops a.tmps) = true then Oper.wp P o a W Kc Q else Kc (a.put o.dst undef) W :=
  step_of_list hw (Kd.R_append_rows d base hgd s x t e z bytes ho ht hinfo hz hs0 hb0 v xs ys A m c ok okp hs hx HO HR hKM hokp hfresh HB hbase hl (fun v1 w1 h1 h2 h3 h4 => h v1 w1 h1 h2 h3 h4))
end
/-- a slice's end, whatever the capacity -/
theorem cutC (Al : Option Addr) (n c p : Nat) (hp : p < n) : ∃ Ac, (∀ W : World, (Instr.slice 22 (.slice Al n c) (some (.int .i64 ((p : Int) + 1))) none none).run Tryd.prog W = .ok (.slice Ac (n - (p + 1)) (c - (p + 1))) W) ∧
    ∀ (W : World) (xs : List Cho), xs.length = n → n ≤ c → Kd.C k40 W Al n xs → Kd.C k40 W Ac (n - (p + 1)) (xs.drop (p + 1)) := by
  refine ⟨_, fun W => (cut_from (P := Tryd.prog) 22 40 .i64 Tryd.underlying22 (i := ((Tryd.prog.info? 40).get (by kernel_rfl))) (by kernel_rfl) 5 (by kernel_rfl) Al n c ((p : Int) + 1) (by omega) (by omega) W).trans rfl, fun W xs hx hc h => ?_⟩
  subst hx
  have := Kd.C_drop (m := p + 1) (c := c) h (by omega) hc
  rw [List.length_drop] at this
  exact this
theorem own_at {v : Value} {n m : Nat} (h : v.ownBlock = (Value.slice (some ⟨n, 0, none⟩) 0 0).ownBlock ∨ ∃ b, v.ownBlock = some b ∧ m ≤ b) (hn : n ≤ m) : ∀ k, v.ownBlock = some k → n ≤ k := fun k hk => by
  rcases h with h | ⟨b, h, hb⟩
  · rw [h] at hk
    exact Nat.le_of_eq (ownB hk)
  · rw [h] at hk
    injection hk with hk
    omega
def pt (x : Cho) : Int × Int := (x.f0, x.f1)
theorem may_pts {l : List Cho} (h : mayL l = true) : (l.map pt).Nodup := by
  rw [List.nodup_iff_pairwise_ne, List.pairwise_map]
  refine (mayL_iff.1 h).2.imp fun {a b} hab e => ?_
  simp only [pt, Prod.mk.injEq] at e
  unfold Less at hab
  omega
theorem puts_step {l left row : List Cho} {x : Cho} {p : Nat} (hm : mayL l = true) (hP : (left ++ row).Perm l) (hr : mayL row = true) (hx : x ∈ left) (hE : left.take p ++ x :: left.drop (p + 1) = left) :
    putE row x = 0 ∧ mayL (putL row x) = true ∧ (putL row x).length ≤ l.length ∧ putE (putL row x) x = 2 ∧ atF (putL row x) x.f0 x.f1 = (x, true) ∧ (([] ++ left.take p ++ left.drop (p + 1)) ++ putL row x).Perm l := by
  have hone := (mayL_iff.1 hm).1 x (hP.mem_iff.1 (List.mem_append_left _ hx))
  have hnd : ((left ++ row).map pt).Nodup := (hP.map pt).nodup_iff.2 (may_pts hm)
  rw [List.map_append, List.nodup_append] at hnd
  obtain ⟨h1, h2, h3⟩ := put_new hr hone (fun y hy he => hnd.2.2 (pt x) (List.mem_map_of_mem hx) (pt y) (List.mem_map_of_mem hy) (by simp [pt, he.1, he.2]))
  have hmem : x ∈ putL row x := h3.mem_iff.2 List.mem_cons_self
  have hp : (([] ++ left.take p ++ left.drop (p + 1)) ++ putL row x).Perm l := by
    refine List.Perm.trans ?_ hP
    conv => rhs; rw [← hE]
    rw [List.nil_append]
    refine (List.Perm.append_left _ h3).trans ?_
    rw [List.append_assoc, List.append_assoc]
    exact List.Perm.append_left _ (List.perm_middle)
  refine ⟨h1, h2, ?_, (put_again h2 hmem).1, at_put h2 hmem, hp⟩
  have := hp.length_eq
  rw [List.length_append] at this
  omega
set_option maxHeartbeats 4000000 in
set_option maxRecDepth 100000 in
theorem puts_w (A0 : Option Addr) (c0 : Nat) (l : List Cho) (A1 : Option Addr) (c1 : Nat) (ts : List Int) (w : World) (h0 : Kd.C k40 w A0 l.length l) (hc0 : l.length ≤ c0) (h1 : Kd.C (Kd.int .u8) w A1 ts.length ts) (hc1 : ts.length ≤ c1) (hts : ∀ x ∈ ts, 0 ≤ x ∧ x ≤ 255) (ht : Tab w) :
    Calls Tryd.prog 7 #[.slice A0 l.length c0, .slice A1 ts.length c1] w fun e w' => e = .returned (.bool true) ∧ Below w.heap.size w w' := by
  have HR := Aside0.mk h0
  have HU := Aside0.mk h1
  have HTS := Aside0.mk hts
  have HAW := Aside0.mk (awake_c w ht)
  clear h0 h1 ht hts
  go_enter Tryd.func7, Tryd.ntmps7
  go_wp2_with fail
  refine HAW.out.mono ?_
  rintro e w1 ⟨rfl, hb⟩
  have HB1 := Aside0.mk hb
  have HR1 := Aside0.mk (Kd.C_below HR.out hb)
  clear hb HAW
  by_cases hz0 : l.length ≤ 60
  · have HC := Aside0.mk (may_c A0 c0 l w1 HR1.out hc0)
    go_wp2_with fail
    refine HC.out.mono ?_
    rintro e w2 ⟨rfl, hb⟩
    have HB2 := Aside0.mk (below_then HB1.out HB1.out.size hb)
    have HR2 := Aside0.mk (Kd.C_below HR1.out hb)
    clear hb HC HB1 HR1
    cases hm : mayL l with
    | false =>
      go_wp2_with fail
      go_ret
      exact ⟨rfl, HB2.out⟩
    | true =>
      have HML := Aside0.mk hm
      clear hm
      go_wp2_with (at_builtin; refine Kd.R_append_rows k40 (w0 := w) w.heap.size rfl (.tmp 26) (.tmp 27) 22 40 (.agg #[.int .i64 0, .int .i64 0, .int .i64 0, .int .i64 0, .int .i64 0]) 40 rfl Tryd.underlying22 infoCh rfl (by decide) (by omega) _ [] l _ _ _ (fun _ => True) (fun _ => False) rfl rfl ?aO ?aR (fun _ _ h => h) (fun _ h => h.elim) (fun _ _ => trivial) ?aB ?aS ?aL ?_; (case aO => exact Kd.R_lower (R_empty _ _ _) HB2.out.size); (case aR => exact Kd.C_alloc HR2.out _); (case aB => exact below_alloc HB2.out _); (case aS => have := HB2.out.size; simp; omega); (case aL => simp; omega); intro v3 w3 ho hb hg hat)
      have HL3 := Aside0.mk (show RC w3 w.heap.size v3 l from by simpa using ho)
      have HB3 := Aside0.mk hb
      clear ho hb hg hat HR2 HB2
      have HRN := Aside0.mk (show RC w3 w.heap.size (.slice none 0 0) [] from Kd.R_nil _ _ _ _ _)
      go_loopw [5, 6, 7] (fun v5 v6 v7 wr => ∃ (k : Nat) (left row : List Cho), v7 = .int .i64 (k : Int) ∧ k ≤ l.length ∧ Aside0 (left.length + k = l.length) ∧ Aside0 ((left ++ row).Perm l) ∧ Aside0 (mayL row = true) ∧ Aside0 (RC wr w.heap.size v5 left) ∧ Aside0 (RC wr w.heap.size v6 row) ∧ Aside0 (Below w.heap.size w wr)) (fun _ _ v7 _ => l.length - (intOf v7).toNat)
      case atStart => exact ⟨0, l, [], rfl, by omega, ⟨by simp⟩, ⟨by simp⟩, ⟨rfl⟩, HL3, HRN, HB3⟩
      case round =>
        obtain ⟨k, left, row, rfl, HK, HLEN, HP, HM, HL, HRW, HB⟩ := hrel
        obtain ⟨w4, rfl⟩ : ∃ w4 : World, w4 = wr := ⟨_, rfl⟩
        clear HL3 HB3 HRN
        by_cases hlt : k < l.length
        · have hl60 : left.length ≤ 60 := by have := HLEN.out; omega
          have hpos : 0 < left.length := by have := HLEN.out; omega
          obtain ⟨Al, cl, hv, hcl, hCl⟩ := Kd.R_reads HL.out
          subst hv
          have HCL := Aside0.mk hCl
          clear hCl
          by_cases hti : k < ts.length
          · obtain ⟨ad, hA1, hcell⟩ := Kd.at_int (Kd.C_below HU.out HB.out) (k : Int) (by omega) (by omega)
            subst hA1
            obtain ⟨u, hu, hu2⟩ : ∃ u : Nat, rd ts (k : Int) = (u : Int) ∧ u ≤ 255 := by
              have hx := HTS.out (rd ts (k : Int)) (by simp [rd, hti])
              exact ⟨(rd ts (k : Int)).toNat, by omega, by omega⟩
            rw [hu, Int.toNat_natCast] at hcell
            clear hu
            go_upto_region 13 with fail
            have hmod : (u : Int) % (left.length : Int) = ((u % left.length : Nat) : Int) := by omega
            have hp : u % left.length < left.length := Nat.mod_lt _ hpos
            rw [hmod]
            generalize u % left.length = p at hp ⊢
            clear hmod hcell hu2
            obtain ⟨ad, hAl, x0, x1, x2, x3, x4⟩ := at_T40 HCL.out (p : Int) (by omega) (by omega)
            subst hAl
            rw [Int.toNat_natCast] at x0 x1 x2 x3 x4
            have hxm : rd_T40 left (p : Int) = left[p] := rd_ch hp
            rw [hxm] at x0 x1 x2 x3 x4
            clear hxm
            have HXM := Aside0.mk (show left[p] ∈ left from List.getElem_mem hp)
            have HXE := Aside0.mk (show left.take p ++ left[p] :: left.drop (p + 1) = left by rw [← List.drop_eq_getElem_cons hp, List.take_append_drop])
            generalize left[p] = x at x0 x1 x2 x3 x4 HXM HXE
            go_upto_region 14 with fail
            clear x0 x1 x2 x3 x4
            have hba := below_alloc (Below.refl w4.heap.size w4) (cc x)
            have HX5 := Aside0.mk (blk_new w4 (cc x))
            have HB5 := Aside0.mk (below_then HB.out HB.out.size hba)
            have HW5 := Aside0.mk (Kd.R_below HRW.out hba)
            have HC5 := Aside0.mk (Kd.C_below HCL.out hba)
            have HBX := Aside0.mk HB.out.size
            change Code.wp _ _ _ _ (w4.alloc (cc x))
            clear hba HB HRW HL HCL
            generalize w4.alloc (cc x) = w5 at HX5 HB5 HW5 HC5 ⊢
            generalize w4.heap.size = bx at HX5 HBX ⊢
            obtain ⟨Ac, hcut, hCD⟩ := cutC (some ad) left.length cl p hp
            have HC6 := Aside0.mk (Kd.C_below HC5.out (below_alloc (below_drew (Below.refl w5.heap.size w5)) (.cells #[] 40)))
            have HT6 := Aside0.mk (show Kd.C k40 (w5.drew.alloc (.cells #[] 40)) (some ad) p (left.take p) from by have := Kd.C_take (m := p) HC6.out (by omega); rwa [List.length_take, Nat.min_eq_left (by omega)] at this)
            have HD5 := Aside0.mk (hCD _ left rfl hcl HC5.out)
            have HE6 := Aside0.mk (show RC (w5.drew.alloc (.cells #[] 40)) w.heap.size (.slice (some ⟨w5.drew.heap.size, 0, none⟩) 0 0) [] from Kd.R_lower (R_empty _ _ _) HB5.out.size)
            have HB6 := Aside0.mk (show Below w.heap.size w (w5.drew.alloc (.cells #[] 40)) from below_alloc (below_drew HB5.out) _)
            have hp1 : IntKind.i64.wrap ((p : Int) + 1) = (p : Int) + 1 := i64w (by omega) (by omega)
            have hq0 : (0 : Int) ≤ (p : Int) + 1 := by omega
            have hk1 : (([] : List Cho).length + p) * 40 ≤ 140737488355328 := by simp; omega
            have HK2 := Aside0.mk (show ((([] : List Cho) ++ left.take p).length + (left.length - (p + 1))) * 40 ≤ 140737488355328 by simp; omega)
            have hpc : p ≤ cl := by omega
            have HBE := Aside0.mk (below_alloc (below_drew (Below.refl w5.heap.size w5)) (.cells #[] 40))
            clear hCD
            go_region_law (first
              | (refine rows_step k40 (w0 := w) (W := w5.drew.alloc (.cells #[] 40)) w.heap.size (by rfl) (by rfl) (.tmp 51) (.tmp 54) 22 40 (.agg #[.int .i64 0, .int .i64 0, .int .i64 0, .int .i64 0, .int .i64 0]) 40 (by rfl) Tryd.underlying22 infoCh (by rfl) (by decide) (by decide) (.slice (some ⟨w5.drew.heap.size, 0, none⟩) 0 0) [] (left.take p) (some ad) p cl (fun _ => True) (fun _ => False) (by rfl) (by rfl) HE6.out HT6.out (fun x cs h => by obtain rfl := k40_open h; exact k40_mkM _ _ _ x) (fun _ h => h.elim) (fun _ _ => trivial) HB6.out HB6.out.size hk1 ?_; intro v6 w6 ho hbl hgr hat; have HO7 := Aside0.mk ho; have HB7 := Aside0.mk hbl; have HBG := Aside0.mk (HBE.out.grown hgr HBE.out.size (fun k hk => Nat.le_of_eq (ownB hk))); have HD7 := Aside0.mk (Kd.C_below HD5.out HBG.out); have HV6 := Aside0.mk (own_at hat (show w5.drew.heap.size ≤ _ by simp)); clear ho hbl hgr hat)
              | (refine rows_step k40 (w0 := w) w.heap.size (by rfl) (by rfl) (.tmp 55) (.tmp 59) 22 40 (.agg #[.int .i64 0, .int .i64 0, .int .i64 0, .int .i64 0, .int .i64 0]) 40 (by rfl) Tryd.underlying22 infoCh (by rfl) (by decide) (by decide) v6 ([] ++ left.take p) (left.drop (p + 1)) Ac (left.length - (p + 1)) (cl - (p + 1)) (fun _ => True) (fun _ => False) (by rfl) (by rfl) HO7.out HD7.out (fun x cs h => by obtain rfl := k40_open h; exact k40_mkM _ _ _ x) (fun _ h => h.elim) (fun _ _ => trivial) HB7.out HB7.out.size HK2.out ?_; intro v7 w7 ho hbl hgr hat; have HO8 := Aside0.mk ho; have HB8 := Aside0.mk hbl; have HBH := Aside0.mk (HBG.out.grown hgr HBG.out.size HV6.out); clear ho hbl hgr hat))
            all_goals (
              obtain ⟨q1, q2, q3, q4, q5, q6⟩ := puts_step HML.out HP.out HM.out HXM.out HXE.out
              have HQ := Aside0.mk (And.intro q1 (And.intro q2 (And.intro q3 (And.intro q4 (And.intro q5 q6)))))
              have HX7 := Aside0.mk ((HBH.out.block bx (blk_lt HX5.out)).trans HX5.out)
              have HW7 := Aside0.mk (Kd.R_below HW5.out HBH.out)
              have hrl : row.length ≤ 1000 := by have := HP.out.length_eq; rw [List.length_append] at this; omega
              obtain ⟨Ar, cr, hv6, hcr, hCr⟩ := Kd.R_reads HW7.out
              subst hv6
              have HPC := Aside0.mk (put_c Ar cr row x w7 hCr hcr hrl)
              clear hCr q1 q2 q3 q4 q5 q6 HO7 HB7 HBG HV6 HE6 HD7 HT6 HC6 HB6 HBE HW5 HX5 HB5 HC5 HD5 hcut hk1 HK2
              obtain ⟨a0, a1, a2, a3, a4⟩ := cells_c HX7.out
              have hgl := blk_lt HX7.out
              go_wp2_with fail
              refine HPC.out.mono ?_
              rintro e w8 ⟨v8, rfl, hR, hb⟩
              rw [HQ.out.1]
              have HQ2 := Aside0.mk HQ.out.2
              have HR8 := Aside0.mk (show RC w8 w.heap.size v8 (putL row x) from Kd.R_lower hR HB8.out.size)
              have HB9 := Aside0.mk (below_then HB8.out HB8.out.size hb)
              have HX8 := Aside0.mk ((hb.block bx (blk_lt HX7.out)).trans HX7.out)
              have HO9 := Aside0.mk (Kd.R_below HO8.out hb)
              clear hR hb HB8 HX7 HO8 HPC HW7 HQ a0 a1 a2 a3 a4 hgl HBH
              generalize putL row x = more at HR8 HQ2
              obtain ⟨Am, cm, hv8, hcm, hCm⟩ := Kd.R_reads HR8.out
              subst hv8
              have HPC2 := Aside0.mk (put_c Am cm more x w8 hCm hcm (by have := HQ2.out.2.1; omega))
              clear hCm
              obtain ⟨a0, a1, a2, a3, a4⟩ := cells_c HX8.out
              have hgl := blk_lt HX8.out
              go_wp2_with fail
              refine HPC2.out.mono ?_
              rintro e w9 ⟨v9, rfl, _, hb⟩
              rw [HQ2.out.2.2.1]
              have HR9 := Aside0.mk (Kd.R_below HR8.out hb)
              have HBA := Aside0.mk (below_then HB9.out HB9.out.size hb)
              have HX9 := Aside0.mk ((hb.block bx (blk_lt HX8.out)).trans HX8.out)
              have HOA := Aside0.mk (Kd.R_below HO9.out hb)
              clear hb HB9 HX8 HO9 HPC2 HR8 a0 a1 a2 a3 a4 hgl
              have HAT := Aside0.mk (at_calls Am cm more x.f0 x.f1 w9 (Kd.R_reads' HR9.out).2.2 hcm)
              rw [HQ2.out.2.2.2.1] at HAT
              obtain ⟨a0, a1, a2, a3, a4⟩ := cells_c HX9.out
              have hgl := blk_lt HX9.out
              go_wp2_with fail
              refine HAT.out.mono ?_
              rintro e w10 ⟨rfl, hb⟩
              have HR10 := Aside0.mk (Kd.R_below HR9.out hb)
              have HB10 := Aside0.mk (below_then HBA.out HBA.out.size hb)
              have HX10 := Aside0.mk ((hb.block bx (blk_lt HX9.out)).trans HX9.out)
              have HO10 := Aside0.mk (Kd.R_below HOA.out hb)
              clear hb HBA HX9 HOA HAT HR9 a0 a1 a2 a3 a4 hgl
              obtain ⟨a0, a1, a2, a3, a4⟩ := cells_c HX10.out
              have hgl := blk_lt HX10.out
              go_wp2_with fail
              have hk1 : ([] ++ left.take p ++ left.drop (p + 1)).length + (k + 1) = l.length := by
                have := HLEN.out
                simp only [List.nil_append, List.length_append, List.length_take, List.length_drop]
                omega
              exact ⟨⟨k + 1, _, more, by go_num, by omega, ⟨hk1⟩, ⟨HQ2.out.2.2.2.2⟩, ⟨HQ2.out.1⟩, ⟨Kd.R_alloc HO10.out _⟩, ⟨Kd.R_alloc HR10.out _⟩, ⟨below_alloc HB10.out _⟩⟩, by simp [intOf]; omega⟩)
          · go_upto_region 13 with fail
            generalize hz8 : Value.int IntKind.i64 0 = v8
            obtain ⟨p, hp, rfl⟩ : ∃ p : Nat, p < left.length ∧ v8 = .int .i64 (p : Int) := ⟨0, hpos, hz8.symm⟩
            clear hz8
            obtain ⟨ad, hAl, x0, x1, x2, x3, x4⟩ := at_T40 HCL.out (p : Int) (by omega) (by omega)
            subst hAl
            rw [Int.toNat_natCast] at x0 x1 x2 x3 x4
            have hxm : rd_T40 left (p : Int) = left[p] := rd_ch hp
            rw [hxm] at x0 x1 x2 x3 x4
            clear hxm
            have HXM := Aside0.mk (show left[p] ∈ left from List.getElem_mem hp)
            have HXE := Aside0.mk (show left.take p ++ left[p] :: left.drop (p + 1) = left by rw [← List.drop_eq_getElem_cons hp, List.take_append_drop])
            generalize left[p] = x at x0 x1 x2 x3 x4 HXM HXE
            go_upto_region 14 with fail
            clear x0 x1 x2 x3 x4
            have hba := below_alloc (Below.refl w4.heap.size w4) (cc x)
            have HX5 := Aside0.mk (blk_new w4 (cc x))
            have HB5 := Aside0.mk (below_then HB.out HB.out.size hba)
            have HW5 := Aside0.mk (Kd.R_below HRW.out hba)
            have HC5 := Aside0.mk (Kd.C_below HCL.out hba)
            have HBX := Aside0.mk HB.out.size
            change Code.wp _ _ _ _ (w4.alloc (cc x))
            clear hba HB HRW HL HCL
            generalize w4.alloc (cc x) = w5 at HX5 HB5 HW5 HC5 ⊢
            generalize w4.heap.size = bx at HX5 HBX ⊢
            obtain ⟨Ac, hcut, hCD⟩ := cutC (some ad) left.length cl p hp
            have HC6 := Aside0.mk (Kd.C_below HC5.out (below_alloc (below_drew (Below.refl w5.heap.size w5)) (.cells #[] 40)))
            have HT6 := Aside0.mk (show Kd.C k40 (w5.drew.alloc (.cells #[] 40)) (some ad) p (left.take p) from by have := Kd.C_take (m := p) HC6.out (by omega); rwa [List.length_take, Nat.min_eq_left (by omega)] at this)
            have HD5 := Aside0.mk (hCD _ left rfl hcl HC5.out)
            have HE6 := Aside0.mk (show RC (w5.drew.alloc (.cells #[] 40)) w.heap.size (.slice (some ⟨w5.drew.heap.size, 0, none⟩) 0 0) [] from Kd.R_lower (R_empty _ _ _) HB5.out.size)
            have HB6 := Aside0.mk (show Below w.heap.size w (w5.drew.alloc (.cells #[] 40)) from below_alloc (below_drew HB5.out) _)
            have hp1 : IntKind.i64.wrap ((p : Int) + 1) = (p : Int) + 1 := i64w (by omega) (by omega)
            have hq0 : (0 : Int) ≤ (p : Int) + 1 := by omega
            have hk1 : (([] : List Cho).length + p) * 40 ≤ 140737488355328 := by simp; omega
            have HK2 := Aside0.mk (show ((([] : List Cho) ++ left.take p).length + (left.length - (p + 1))) * 40 ≤ 140737488355328 by simp; omega)
            have hpc : p ≤ cl := by omega
            have HBE := Aside0.mk (below_alloc (below_drew (Below.refl w5.heap.size w5)) (.cells #[] 40))
            clear hCD
            go_region_law (first
              | (refine rows_step k40 (w0 := w) (W := w5.drew.alloc (.cells #[] 40)) w.heap.size (by rfl) (by rfl) (.tmp 51) (.tmp 54) 22 40 (.agg #[.int .i64 0, .int .i64 0, .int .i64 0, .int .i64 0, .int .i64 0]) 40 (by rfl) Tryd.underlying22 infoCh (by rfl) (by decide) (by decide) (.slice (some ⟨w5.drew.heap.size, 0, none⟩) 0 0) [] (left.take p) (some ad) p cl (fun _ => True) (fun _ => False) (by rfl) (by rfl) HE6.out HT6.out (fun x cs h => by obtain rfl := k40_open h; exact k40_mkM _ _ _ x) (fun _ h => h.elim) (fun _ _ => trivial) HB6.out HB6.out.size hk1 ?_; intro v6 w6 ho hbl hgr hat; have HO7 := Aside0.mk ho; have HB7 := Aside0.mk hbl; have HBG := Aside0.mk (HBE.out.grown hgr HBE.out.size (fun k hk => Nat.le_of_eq (ownB hk))); have HD7 := Aside0.mk (Kd.C_below HD5.out HBG.out); have HV6 := Aside0.mk (own_at hat (show w5.drew.heap.size ≤ _ by simp)); clear ho hbl hgr hat)
              | (refine rows_step k40 (w0 := w) w.heap.size (by rfl) (by rfl) (.tmp 55) (.tmp 59) 22 40 (.agg #[.int .i64 0, .int .i64 0, .int .i64 0, .int .i64 0, .int .i64 0]) 40 (by rfl) Tryd.underlying22 infoCh (by rfl) (by decide) (by decide) v6 ([] ++ left.take p) (left.drop (p + 1)) Ac (left.length - (p + 1)) (cl - (p + 1)) (fun _ => True) (fun _ => False) (by rfl) (by rfl) HO7.out HD7.out (fun x cs h => by obtain rfl := k40_open h; exact k40_mkM _ _ _ x) (fun _ h => h.elim) (fun _ _ => trivial) HB7.out HB7.out.size HK2.out ?_; intro v7 w7 ho hbl hgr hat; have HO8 := Aside0.mk ho; have HB8 := Aside0.mk hbl; have HBH := Aside0.mk (HBG.out.grown hgr HBG.out.size HV6.out); clear ho hbl hgr hat))
            all_goals (
              obtain ⟨q1, q2, q3, q4, q5, q6⟩ := puts_step HML.out HP.out HM.out HXM.out HXE.out
              have HQ := Aside0.mk (And.intro q1 (And.intro q2 (And.intro q3 (And.intro q4 (And.intro q5 q6)))))
              have HX7 := Aside0.mk ((HBH.out.block bx (blk_lt HX5.out)).trans HX5.out)
              have HW7 := Aside0.mk (Kd.R_below HW5.out HBH.out)
              have hrl : row.length ≤ 1000 := by have := HP.out.length_eq; rw [List.length_append] at this; omega
              obtain ⟨Ar, cr, hv6, hcr, hCr⟩ := Kd.R_reads HW7.out
              subst hv6
              have HPC := Aside0.mk (put_c Ar cr row x w7 hCr hcr hrl)
              clear hCr q1 q2 q3 q4 q5 q6 HO7 HB7 HBG HV6 HE6 HD7 HT6 HC6 HB6 HBE HW5 HX5 HB5 HC5 HD5 hcut hk1 HK2
              obtain ⟨a0, a1, a2, a3, a4⟩ := cells_c HX7.out
              have hgl := blk_lt HX7.out
              go_wp2_with fail
              refine HPC.out.mono ?_
              rintro e w8 ⟨v8, rfl, hR, hb⟩
              rw [HQ.out.1]
              have HQ2 := Aside0.mk HQ.out.2
              have HR8 := Aside0.mk (show RC w8 w.heap.size v8 (putL row x) from Kd.R_lower hR HB8.out.size)
              have HB9 := Aside0.mk (below_then HB8.out HB8.out.size hb)
              have HX8 := Aside0.mk ((hb.block bx (blk_lt HX7.out)).trans HX7.out)
              have HO9 := Aside0.mk (Kd.R_below HO8.out hb)
              clear hR hb HB8 HX7 HO8 HPC HW7 HQ a0 a1 a2 a3 a4 hgl HBH
              generalize putL row x = more at HR8 HQ2
              obtain ⟨Am, cm, hv8, hcm, hCm⟩ := Kd.R_reads HR8.out
              subst hv8
              have HPC2 := Aside0.mk (put_c Am cm more x w8 hCm hcm (by have := HQ2.out.2.1; omega))
              clear hCm
              obtain ⟨a0, a1, a2, a3, a4⟩ := cells_c HX8.out
              have hgl := blk_lt HX8.out
              go_wp2_with fail
              refine HPC2.out.mono ?_
              rintro e w9 ⟨v9, rfl, _, hb⟩
              rw [HQ2.out.2.2.1]
              have HR9 := Aside0.mk (Kd.R_below HR8.out hb)
              have HBA := Aside0.mk (below_then HB9.out HB9.out.size hb)
              have HX9 := Aside0.mk ((hb.block bx (blk_lt HX8.out)).trans HX8.out)
              have HOA := Aside0.mk (Kd.R_below HO9.out hb)
              clear hb HB9 HX8 HO9 HPC2 HR8 a0 a1 a2 a3 a4 hgl
              have HAT := Aside0.mk (at_calls Am cm more x.f0 x.f1 w9 (Kd.R_reads' HR9.out).2.2 hcm)
              rw [HQ2.out.2.2.2.1] at HAT
              obtain ⟨a0, a1, a2, a3, a4⟩ := cells_c HX9.out
              have hgl := blk_lt HX9.out
              go_wp2_with fail
              refine HAT.out.mono ?_
              rintro e w10 ⟨rfl, hb⟩
              have HR10 := Aside0.mk (Kd.R_below HR9.out hb)
              have HB10 := Aside0.mk (below_then HBA.out HBA.out.size hb)
              have HX10 := Aside0.mk ((hb.block bx (blk_lt HX9.out)).trans HX9.out)
              have HO10 := Aside0.mk (Kd.R_below HOA.out hb)
              clear hb HBA HX9 HOA HAT HR9 a0 a1 a2 a3 a4 hgl
              obtain ⟨a0, a1, a2, a3, a4⟩ := cells_c HX10.out
              have hgl := blk_lt HX10.out
              go_wp2_with fail
              have hk1 : ([] ++ left.take p ++ left.drop (p + 1)).length + (k + 1) = l.length := by
                have := HLEN.out
                simp only [List.nil_append, List.length_append, List.length_take, List.length_drop]
                omega
              exact ⟨⟨k + 1, _, more, by go_num, by omega, ⟨hk1⟩, ⟨HQ2.out.2.2.2.2⟩, ⟨HQ2.out.1⟩, ⟨Kd.R_alloc HO10.out _⟩, ⟨Kd.R_alloc HR10.out _⟩, ⟨below_alloc HB10.out _⟩⟩, by simp [intOf]; omega⟩)
        · have hlen := HLEN.out
          have hl0 : left = [] := List.eq_nil_of_length_eq_zero (by omega)
          have hperm : row.Perm l := by have := HP.out; rwa [hl0, List.nil_append] at this
          have hrow : row = l := rise_same row l hperm (mayL_iff.1 HM.out).2 (mayL_iff.1 HML.out).2
          obtain ⟨Ar, cr, hv6, hcr, hCr⟩ := Kd.R_reads HRW.out
          subst hv6
          have HC := Aside0.mk (show Calls _ _ _ _ _ from by have h := same_c Ar cr row A0 c0 l w4 hCr hcr (Kd.C_below HR.out HB.out) hc0; rw [(sameB_iff row l).2 hrow] at h; exact h)
          clear hCr hrow hperm hl0 hlen HLEN
          go_wp2_with fail
          refine HC.out.mono ?_
          rintro e w5 ⟨rfl, hb⟩
          have HBE := Aside0.mk (below_then HB.out HB.out.size hb)
          clear hb HC
          go_wp2_with fail
          go_ret
          exact ⟨rfl, HBE.out⟩
  · go_wp2_with fail
    go_ret
    exact ⟨rfl, HB1.out⟩
end Go.Proofs.YtpkcnifchggbnaaDoor.HI
