/- What is closed, in order, as the document finds it: the walk of the reference's Order. -/
import Derived.Test.YtccjclmjoegibaaDoorRb
import Derived.Test.YtccjclmjoegibaaDoorUq
import Derived.Deep.QuietTactic
import Derived.BigQuiet
namespace Go.Proofs.YtccjclmjoegibaaDoor.Ce
open Go.RowKit Go.Maps Go.Proofs.YtccjclmjoegibaaDoor Go.Proofs.YtccjclmjoegibaaDoorW.PrintWords Go.Proofs.YtccjclmjoegibaaDoorW.PrintLast Go.Proofs.YtccjclmjoegibaaDoorW.PrintMore PCloserOrders Hp
attribute [local go_sem] max2_int min2_int max_two min_two max_three min_three max_four min_four
set_option linter.unusedVariables false
set_option linter.unusedSimpArgs false
theorem meas_lt {g0 gk A : Nat} {q : List Int} {x : Int} (h1 : g0 = gk) (h2 : gk = A + 1 - q.length) (h3 : (q ++ [x]).length ≤ A) (h4 : q.length ≤ A) : A + 1 - (q ++ [x]).length < g0 := by
 rw [List.length_append] at h3 ⊢
 simp only [List.length_cons, List.length_nil] at h3 ⊢
 omega
set_option maxHeartbeats 8000000 in
set_option maxRecDepth 100000 in
theorem rOrder_is (w : World) (U : Option Addr) (cu : Nat) (up : List Int) (A : Option Addr) (c : Nat) (l : List S33) (top : Int) (hu : Kd.C (Kd.int .i64) w U up.length up) (hcu : up.length ≤ cu) (hl : Kd.C k33 w A l.length l) (hc : l.length ≤ c) (hus : ∀ x ∈ l, x.f4.length ≤ 1048576) (ht : unS l [] l.length ≤ 1048576) :
  Calls Tryd.prog 19 #[.slice U up.length cu, .slice A l.length c, .int .i64 top] w fun e w' => OrdPost w up l top (orderE up l top) e w' := by
 have HCK := Lib.hid (rcheck_is w U cu up A c l hu hcu hl hc hus)
 have HU := Lib.hid (And.intro hu hcu)
 have HL := Lib.hid (And.intro hl hc)
 have HT := Lib.hid ht
 obtain ⟨rr, hrr⟩ : ∃ rr, rr = orderE up l top := ⟨_, rfl⟩
 have HRR := Lib.hid hrr
 rw [← hrr]
 obtain ⟨ce, hce⟩ : ∃ ce, ce = checkE up l := ⟨_, rfl⟩
 have HCE := Lib.hid hce
 rw [← hce] at HCK
 clear hu hcu hl hc hus ht hrr hce
 by_cases h0 : ce = 0
 rotate_left
 ·have h0b : (ce != 0) = true := by simpa using h0
  have HD := Lib.hid (show rr = ce by rw [HRR.out, orderE, ← HCE.out, if_pos h0])
  have HNZ := Lib.hid h0
  clear h0
  go_enter Tryd.func19, Tryd.ntmps19
  go_wp2_with fail
  refine HCK.out.mono ?_
  rintro _ w2 ⟨rfl, hb2⟩
  have HB2 := Lib.hid hb2
  clear hb2
  go_wp2_with fail
  try go_quiet (fail)
  go_wp2_with fail
  go_ret2
  exact ⟨_, [], by rw [HD.out]; rfl, Kd.R_nil _ _ _ _ _, HB2.out, fun _ => ⟨rfl, rfl⟩, fun q => absurd (HD.out.symm.trans q) HNZ.out⟩
 subst h0
 have HV := Lib.hid (check_ok up l HCE.out.symm)
 have HSC := Lib.hid (show scopesE up = 0 by
  have h := HCE.out.symm
  unfold checkE at h
  by_cases h1 : scopesE up ≠ 0
  ·rw [if_pos h1] at h; exact absurd h h1
  ·exact Classical.not_not.1 h1)
 by_cases h1 : top < 0 ∨ top ≥ up.length
 ·have HD := Lib.hid (show rr = 1 by rw [HRR.out, orderE, ← HCE.out, if_neg (by simp), if_pos h1])
  have HBE := Lib.hid (show benE up top = 1 by rw [benE, HSC.out, if_neg (by simp), if_pos h1])
  clear h1
  go_enter Tryd.func19, Tryd.ntmps19
  go_wp2_with fail
  refine HCK.out.mono ?_
  rintro _ w2 ⟨rfl, hb2⟩
  have HB2 := Lib.hid hb2
  have HBN := Lib.hid (rBeneath_is w2 U cu up top (Kd.C_below HU.out.1 hb2) HU.out.2)
  clear hb2
  go_wp2_with fail
  refine HBN.out.mono ?_
  rintro _ w3 ⟨v3, r3, rfl, hr3, hb3, h1, h2⟩
  rw [HBE.out]
  obtain rfl := h1 (by rw [HBE.out]; decide)
  have HB3 := Lib.hid (below_step HB2.out hb3)
  clear h1 h2 hb3 hr3
  go_wp2_with fail
  try go_quiet (fail)
  go_wp2_with fail
  go_ret2
  exact ⟨_, [], by rw [HD.out]; rfl, Kd.R_nil _ _ _ _ _, HB3.out, fun _ => ⟨rfl, rfl⟩, fun q => by rw [HD.out] at q; exact absurd q (by decide)⟩
 have HD := Lib.hid (show rr = 0 by rw [HRR.out, orderE, ← HCE.out, if_neg (by simp), if_neg h1])
 have HBE := Lib.hid (show benE up top = 0 by rw [benE, HSC.out, if_neg (by simp), if_neg h1])
 clear h1 HRR HCE
 go_enter Tryd.func19, Tryd.ntmps19
 go_wp2_with fail
 refine HCK.out.mono ?_
 rintro _ w2 ⟨rfl, hb2⟩
 have HB2 := Lib.hid hb2
 have HBN := Lib.hid (rBeneath_is w2 U cu up top (Kd.C_below HU.out.1 hb2) HU.out.2)
 clear hb2 HCK
 go_wp2_with fail
 refine HBN.out.mono ?_
 rintro _ w3 ⟨v3, bs, rfl, hr3, hb3, h1, h2⟩
 rw [HBE.out]
 have HBEN := Lib.hid (h2 HBE.out)
 have HB3 := Lib.hid (below_step HB2.out hb3)
 have HR3 := Lib.hid hr3
 have HRC := Lib.hid (reach_is w3 A c l (Kd.C_below HL.out.1 HB3.out) HL.out.2 HV.out.2.2.1 HV.out.2.2.2 HT.out)
 obtain ⟨B4, d4, rfl⟩ := Kd.R_slice hr3
 clear h1 h2 hb3 hr3 HBN HBE HSC HB2
 go_wp2_with fail
 refine HRC.out.mono ?_
 rintro _ w4 ⟨UM, cm, M, rfl, hM, hF, hb4⟩
 have HB4 := Lib.hid (below_step HB3.out hb4)
 have HF := Lib.hid hF
 have HM := Lib.hid hM
 have HV4 := Lib.hid (Kd.R_below HR3.out hb4)
 have HLW := Lib.hid (Kd.C_below HL.out.1 HB4.out)
 have HAC := Lib.hid (hF.acyc HV.out.2.2.2)
 have HN := Lib.hid HV.out.2.2.1
 clear hM hF hb4 HRC HB3 HR3
 go_wp2_with (first | ((with_reducible refine gate_dst (N := 34) rfl ?_); refine Kd.R_lit (Kd.int .i64) w4.heap.size 3 ?hg (N := 34) ?hd (xs := ([] : List Int)) (inner := []) (ok := fun _ => True) (okp := fun _ => True) ?hr ?hp (fun _ hk => hk) trivial (Below.refl _ _) (Nat.le_refl _) (by simp) ?_; (case hd => rfl); (case hg => rfl); (case hr => first | (go_simp; done) | (go_simp; rfl)); (case hp => exact (Reps.none _ _)); intro v34 w5 ho5 hb5 hg_ hnew_; have HO5 := Lib.hid ho5; have HB5 := Lib.hid hb5; clear hg_ hnew_ ho5 hb5) | fail)
 go_loopg [11, 12] bs.length (fun gk v11 v12 wr => ∃ (j : Nat) (outs : List (List Int)) (ou : List Int), v12 = .int .i64 j ∧ gk = bs.length - j ∧ Hid (j ≤ bs.length ∧ outs.length = j ∧ ∀ (t : Nat) b q, bs[t]? = some b → outs[t]? = some q → Hp.Good (aheadB l) (relP M) (allF l b l.length) q) ∧ Hid (Kd.R (Kd.int .i64) 3 wr w4.heap.size (fun _ => True) v11 ou) ∧ Hid (ou = outs.flatten) ∧ Hid (Below w4.heap.size w4 wr))
 case atStart => exact ⟨0, [], [], rfl, by simp, Lib.hid ⟨Nat.zero_le _, rfl, fun t b q _ h => absurd h (by simp)⟩, HO5, Lib.hid rfl, HB5⟩
 case round =>
  clear HO5 HB5
  obtain ⟨j, outs, ou, rfl, rfl, HJ, HR, HOU, HB⟩ := hrel
  by_cases hlt : j < bs.length
  rotate_left
  ·have hlt' : ¬ (j : Int) < (bs.length : Int) := by omega
   have HCL := Lib.hid (show ClosedAs up l top ou from ⟨bs, outs, M, HBEN.out, HF.out, by have := HJ.out; omega, HOU.out, HJ.out.2.2⟩)
   have HRF := Lib.hid (Kd.R_lower HR.out HB4.out.size)
   have HBF := Lib.hid (below_step HB4.out HB.out)
   clear hlt
   go_wp2_with fail
   try go_quiet (fail)
   go_wp2_with fail
   go_ret2
   exact ⟨_, ou, by rw [HD.out]; rfl, HRF.out, HBF.out, fun q => absurd HD.out q, fun _ => HCL.out⟩
  have hlt' : (j : Int) < (bs.length : Int) := by omega
  have HBL := Lib.hid (show bs.length ≤ 32 from Nat.le_trans HBEN.out.len HV.out.2.1)
  have hwj : wrap64 ((j : Int) + 1) = ((j + 1 : Nat) : Int) := by
   have := HBL.out
   rw [← i64_w, IntWalk.i64_in _ (by omega)]; omega
  obtain ⟨b, hb⟩ : ∃ b, b = rd bs (j : Int) := ⟨_, rfl⟩
  have HBJ := Lib.hid (show bs[j]? = some b by
   rw [hb, rd_nat, Int.toNat_natCast, at_get bs j hlt]
   exact List.getElem?_eq_getElem hlt)
  have HBR := Lib.hid hb
  have HDJ := Lib.hid (show ∀ x ∈ ou, x ∉ allF l b l.length from fun x hx hx2 => by
   rw [HOU.out, List.mem_flatten] at hx
   obtain ⟨q, hq, hxq⟩ := hx
   obtain ⟨t, ht, e⟩ := List.mem_iff_getElem.1 hq
   have htj : t < j := by have := HJ.out.2.1; omega
   have hg := HJ.out.2.2 t bs[t] q (List.getElem?_eq_getElem (by omega)) (by rw [List.getElem?_eq_getElem ht, e])
   have h3 := (allF_mem l bs[t] x _).1 ((hg.mem x).1 hxq)
   have h4 := (allF_mem l b x _).1 hx2
   have h5 := List.pairwise_iff_getElem.1 HBEN.out.fall t j (by omega) hlt htj
   have h6 : b = bs[j] := by have := HBJ.out; rw [List.getElem?_eq_getElem hlt] at this; injection this with this; exact this.symm
   omega)
  have HFL := Lib.hid (show ou.length ≤ 8192 from by
   have := HOU.out ▸ flat_len outs (fun q hq => by
    obtain ⟨t, ht, e⟩ := List.mem_iff_getElem.1 hq
    have htb : t < bs.length := by have := HJ.out.2.1; omega
    have hg := HJ.out.2.2 t bs[t] q (List.getElem?_eq_getElem htb) (by rw [List.getElem?_eq_getElem ht, e])
    have h5 := Good.len hg
    have h6 := allF_len l bs[t] l.length
    have := HN.out
    omega)
   have := HJ.out.2.1
   have := HBL.out
   omega)
  have HLTT := Lib.hid hlt
  have HJN := Lib.hid (show (0 : Int) ≤ (j : Int) ∧ (j : Int) < (bs.length : Int) from ⟨by omega, hlt'⟩)
  have HAL := Lib.hid (show (allF l b l.length).length ≤ 256 by have h6 := allF_len l b l.length; have := HN.out; omega)
  clear hb hlt
  go_wp2_with fail
  obtain ⟨wo, hwo⟩ : ∃ wo, wo = wr := ⟨_, rfl⟩
  have HWO := Lib.hid hwo
  clear hwo
  go_loopg [11] ((allF l b l.length).length + 1) (fun gk v11 wr => ∃ (q : List Int), gk = (allF l b l.length).length + 1 - q.length ∧ Hid (PI (aheadB l) (relP M) (allF l b l.length) q) ∧ Hid (Kd.R (Kd.int .i64) 3 wr w4.heap.size (fun _ => True) v11 (ou ++ q)) ∧ Hid (Below w4.heap.size w4 wr))
  case atStart => exact ⟨[], rfl, Lib.hid (PI.nil _ _ _), Lib.hid (by rw [List.append_nil]; exact HR.out), HB⟩
  case round =>
   clear HR HB HWO
   obtain ⟨q, hgk, HPI, HR, HB⟩ := hrel
   have HGK := Lib.hid hgk
   clear hgk
   obtain ⟨B7, d7, rfl⟩ := Kd.R_slice HR.out
   obtain ⟨o, ho⟩ : ∃ o, o = ou ++ q := ⟨_, rfl⟩
   rw [← ho] at HR
   rw [← ho]
   have HOQ := Lib.hid ho
   clear ho
   have HQL := Lib.hid HPI.out.len
   have HOL := Lib.hid (show o.length ≤ 9000 by rw [HOQ.out, List.length_append]; have := HFL.out; have := HQL.out; have := HAL.out; omega)
   have HHAS := Lib.hid (show ∀ (n : Nat) (x : Int), Calls Tryd.prog 36 #[.slice B7 o.length d7, .int .i64 x] (wr.drewN n) fun e w' => e = .returned (.bool (decide (x ∈ o))) ∧ ∃ m, w' = (wr.drewN n).drewN m from fun n x => (has_is (wr.drewN n) B7 d7 o x (Kd.C_below (Kd.R_reads' HR.out).2.2 (pw_below_drewN (Below.refl _ _) n)) (Kd.R_reads' HR.out).2.1 (by have := HOL.out; omega)).mono (fun _ _ h => ⟨h.1, h.2.out⟩))
   have HLR := Lib.hid (fun n => Kd.C_below HLW.out (below_step HB.out (pw_below_drewN (Below.refl wr.heap.size wr) n)))
   have HVR := Lib.hid (fun n => Kd.C_below (Kd.R_reads' HV4.out).2.2 (below_step HB.out (pw_below_drewN (Below.refl wr.heap.size wr) n)))
   have HMR := Lib.hid (fun n => Kd.C_below HM.out (below_step HB.out (pw_below_drewN (Below.refl wr.heap.size wr) n)))
   go_wp2_with fail
   obtain ⟨g0, hg0⟩ : ∃ x, x = gk := ⟨_, rfl⟩
   have HG0 := Lib.hid hg0
   clear hg0
   go_loopg [13, 14] l.length (fun gk v13 v14 wr2 => ∃ i : Nat, v14 = .int .i64 i ∧ v13 = .int .i64 (bestF l M b o i) ∧ gk = l.length - i ∧ Hid (i ≤ l.length) ∧ Hid (∃ n, wr2 = wr.drewN n))
   case atStart => exact ⟨0, rfl, rfl, by simp, Lib.hid (Nat.zero_le _), Lib.hid ⟨0, rfl⟩⟩
   case round =>
    obtain ⟨i, rfl, rfl, rfl, HI, HW⟩ := hrel
    by_cases hlt : i < l.length
    rotate_left
    ·have hlt' : ¬ (i : Int) < (l.length : Int) := by omega
     obtain rfl : i = l.length := by have := HI.out; omega
     obtain ⟨n, hwn⟩ := HW.out
     subst hwn
     have HNO := Lib.hid (best_none l M HAC.out b ou q HDJ.out HPI.out)
     have HSO := Lib.hid (best_some l M HAC.out b ou q HDJ.out HPI.out)
     rw [← HOQ.out] at HNO HSO
     have HRN := Lib.hid (Kd.R_below HR.out (pw_below_drewN (Below.refl wr.heap.size wr) n))
     have HBN := Lib.hid (below_step HB.out (pw_below_drewN (Below.refl wr.heap.size wr) n))
     generalize bestF l M b o l.length = bst at *
     clear hlt HHAS HLR HVR HMR HR HB HW
     by_cases hb0 : bst < 0
     ·have HGD := Lib.hid (HNO.out hb0)
      go_wp2_with fail
      go_roundg (bs.length - (j + 1))
      case measure => exact Nat.sub_lt_sub_left HLTT.out (Nat.lt_succ_self _)
      case rel => exact ⟨j + 1, outs ++ [q], o, by first | rfl | rw [hwj], rfl, Lib.hid ⟨HLTT.out, by rw [List.length_append, HJ.out.2.1]; rfl, fun t b' q' h1 h2 => by
       rcases Nat.lt_or_ge t outs.length with z | z
       ·rw [List.getElem?_append_left z] at h2
        exact HJ.out.2.2 t b' q' h1 h2
       ·have ht : t = j := by
         have hl2 : t < (outs ++ [q]).length := by
          rcases Nat.lt_or_ge t (outs ++ [q]).length with y | y
          ·exact y
          ·rw [List.getElem?_eq_none y] at h2; exact absurd h2 (by simp)
         rw [List.length_append, HJ.out.2.1] at hl2
         have := HJ.out.2.1
         simp at hl2
         omega
        subst ht
        rw [HBJ.out] at h1
        injection h1 with h1
        subst h1
        rw [List.getElem?_append_right z, HJ.out.2.1, Nat.sub_self] at h2
        injection h2 with h2
        subst h2
        exact HGD.out⟩, HRN, Lib.hid (by rw [List.flatten_append, List.flatten_singleton, HOQ.out, HOU.out]), HBN⟩
     ·have HPS := Lib.hid (HSO.out hb0)
      have HPL := Lib.hid HPS.out.len
      go_wp2_with (first | ((with_reducible refine gate_builtin (b := .append) (xs := #[.tmp 144, .tmp 146]) rfl ?_); at_builtin; refine Kd.R_append (Kd.int .i64) (w0 := w4) w4.heap.size rfl (.tmp 144) (.tmp 146) 22 3 (.int .i64 0) 8 rfl Tryd.underlying22 info3 rfl (by decide) (by omega) (.slice B7 o.length d7) o bst [.int .i64 bst] (fun _ => True) (fun _ => False) rfl rfl rfl (fun _ hk => hk.elim) (fun _ _ => trivial) HRN.out HBN.out HBN.out.size (by have := HOL.out; omega) ?_; intro v61 w10 ho hb hg hat; have HO10 := Lib.hid ho; have HB10 := Lib.hid hb; clear ho hb hg hat) | fail)
      go_roundg ((allF l b l.length).length + 1 - (q ++ [bst]).length)
      case measure => exact meas_lt rfl HGK.out HPL.out HQL.out
      case rel => exact ⟨q ++ [bst], rfl, HPS, Lib.hid (by rw [← List.append_assoc, ← HOQ.out]; exact HO10.out), HB10⟩
    have hlt' : (i : Int) < (l.length : Int) := by omega
    have hwi : wrap64 ((i : Int) + 1) = ((i + 1 : Nat) : Int) := wsucc i (by have := HN.out; omega)
    have HLI := Lib.hid hlt
    obtain ⟨n0, hwn⟩ := HW.out
    have hLR2 := HLR.out n0
    have hVR2 := HVR.out n0
    have hMR2 := HMR.out n0
    have hHS2 := fun (m : Nat) (x : Int) => HHAS.out (n0 + m) x
    simp only [← World.drewN_drewN] at hHS2
    rw [← hwn] at hLR2 hVR2 hMR2 hHS2
    have HWN := Lib.hid hwn
    have HL2 := Lib.hid hLR2
    have HV2 := Lib.hid hVR2
    have HM2 := Lib.hid hMR2
    have HH2 := Lib.hid hHS2
    clear hLR2 hVR2 hMR2 hHS2 hwn HW
    obtain ⟨ad, A4, c4, rfl, p0, -, p2, -, -, -, -, -, -⟩ := part_at HL2.out i HLI.out
    obtain ⟨ab, rfl, qb⟩ := Kd.at_int HV2.out (j : Int) HJN.out.1 HJN.out.2
    rw [Int.toNat_natCast, ← HBR.out] at qb
    have j0 : (0 : Int) ≤ (j : Int) := HJN.out.1
    have j1 : (j : Int) < (bs.length : Int) := HJN.out.2
    have i0 : (0 : Int) ≤ (i : Int) := Int.natCast_nonneg i
    have HBE := Lib.hid (show candB l M b o (i : Int) = false → bestF l M b o (i + 1) = bestF l M b o i from fun h => by rw [bestF, h]; rfl)
    have HCB := Lib.hid (show candB l M b o (i : Int) = (decide ((rd_T33 l (i : Int)).f0 = b) && (rd_T33 l (i : Int)).f2 && (decide ((i : Int) ∉ o) && freeF l M b o (i : Int) l.length)) from rfl)
    have HSP := Lib.hid (bestF_spec l M b o i)
    have HBX := Lib.hid (show bestF l M b o (i + 1) = if candB l M b o (i : Int) = true ∧ (bestF l M b o i < 0 ∨ (rd_T33 l (i : Int)).f3 ≥ (rd_T33 l (bestF l M b o i)).f3) then (i : Int) else bestF l M b o i from rfl)
    obtain ⟨bst, hbst⟩ : ∃ bst, bst = bestF l M b o i := ⟨_, rfl⟩
    have HBS := Lib.hid hbst
    rw [← hbst] at HBE HSP HBX
    rw [← hbst]
    clear hbst
    by_cases e0 : (rd_T33 l (i : Int)).f0 = b
    rotate_left
    ·have HNX := Lib.hid (HBE.out (by rw [HCB.out, decide_eq_false e0]; rfl))
     have g0 : ((rd_T33 l (i : Int)).f0 != b) = true := by simpa using e0
     have g1 : ((rd_T33 l (i : Int)).f0 == b) = false := by simpa using e0
     have g2 : decide ((rd_T33 l (i : Int)).f0 = b) = false := by simpa using e0
     generalize (rd_T33 l (i : Int)).f0 = f0 at *
     generalize (rd_T33 l (i : Int)).f2 = f2 at *
     clear hlt
     go_wp2_with fail
     go_quiet (fail)
     go_wp2_with fail
     go_roundg (l.length - (i + 1))
     case measure => exact Nat.sub_lt_sub_left HLI.out (Nat.lt_succ_self _)
     case rel => exact ⟨i + 1, by first | rfl | rw [hwi], by rw [HNX.out], rfl, Lib.hid HLI.out, Lib.hid ⟨_, by rw [HWN.out, World.drewN_drewN]⟩⟩
    have HC2 := Lib.hid (show candB l M b o (i : Int) = ((rd_T33 l (i : Int)).f2 && (decide ((i : Int) ∉ o) && freeF l M b o (i : Int) l.length)) by rw [HCB.out, decide_eq_true e0, Bool.true_and])
    rw [e0] at p0
    clear e0 HCB
    have g1 : (b != b) = false := by simp
    cases hr2 : (rd_T33 l (i : Int)).f2 with
    | false =>
     have HNX := Lib.hid (HBE.out (by rw [HC2.out, hr2]; rfl))
     rw [hr2] at p2
     clear hr2
     clear hlt
     go_wp2_with fail
     go_quiet (fail)
     go_wp2_with fail
     go_roundg (l.length - (i + 1))
     case measure => exact Nat.sub_lt_sub_left HLI.out (Nat.lt_succ_self _)
     case rel => exact ⟨i + 1, by first | rfl | rw [hwi], by rw [HNX.out], rfl, Lib.hid HLI.out, Lib.hid ⟨_, by rw [HWN.out, World.drewN_drewN]⟩⟩
    | true =>
    rw [hr2] at p2
    have HC3 := Lib.hid (show candB l M b o (i : Int) = (decide ((i : Int) ∉ o) && freeF l M b o (i : Int) l.length) by rw [HC2.out, hr2, Bool.true_and])
    clear hr2 HC2
    cases hm : decide ((i : Int) ∈ o) with
    | true =>
     have HQ := Lib.hid (fun n => hm ▸ HH2.out n (i : Int))
     have HNX := Lib.hid (HBE.out (by rw [HC3.out, decide_eq_false (by simpa using hm)]; rfl))
     clear hm
     clear hlt
     go_wp2_with fail
     go_quiet (((go_at_call 36; exact Calls.quiet_of (HQ.out _))))
     go_wp2_with fail
     go_roundg (l.length - (i + 1))
     case measure => exact Nat.sub_lt_sub_left HLI.out (Nat.lt_succ_self _)
     case rel => exact ⟨i + 1, by first | rfl | rw [hwi], by rw [HNX.out], rfl, Lib.hid HLI.out, Lib.hid ⟨_, by rw [HWN.out, World.drewN_drewN]⟩⟩
    | false =>
    have HQ := Lib.hid (fun n => hm ▸ HH2.out n (i : Int))
    have HC4 := Lib.hid (show candB l M b o (i : Int) = freeF l M b o (i : Int) l.length by rw [HC3.out, decide_eq_true (by simpa using hm), Bool.true_and])
    have HL3 := HL2
    have HIM := Lib.hid hm
    clear hm HC3 hlt
    go_wp2_with fail
    go_quiet (((go_at_call 36; exact Calls.quiet_of (HQ.out _))))
    go_wp2_with fail
    have HL3 := Lib.hid (fun (n : Nat) => Kd.C_below HL2.out (pw_below_drewN (Below.refl wr.heap.size wr) n))
    have HV3 := Lib.hid (fun (n : Nat) => Kd.C_below HV2.out (pw_below_drewN (Below.refl wr.heap.size wr) n))
    have HM3 := Lib.hid (fun (n : Nat) => Kd.C_below HM2.out (pw_below_drewN (Below.refl wr.heap.size wr) n))
    have hHS3 := fun (n m : Nat) (x : Int) => HH2.out (n + m) x
    simp only [← World.drewN_drewN] at hHS3
    have HH3 := Lib.hid hHS3
    clear hHS3 HHAS HQ HLR HVR HMR HL2 HV2 HM2 HH2 p0 p2 qb HBE
    go_loopg [15, 16] l.length (fun gk v15 v16 wr3 => ∃ k : Nat, v16 = .int .i64 k ∧ v15 = .bool (freeF l M b o (i : Int) k) ∧ gk = l.length - k ∧ Hid (k ≤ l.length) ∧ Hid (∃ n, wr3 = wr.drewN n))
    case atStart => exact ⟨0, rfl, rfl, by simp, Lib.hid (Nat.zero_le _), Lib.hid ⟨_, rfl⟩⟩
    case round =>
     obtain ⟨k, rfl, rfl, rfl, HK, HW⟩ := hrel
     obtain ⟨n3, hw3⟩ := HW.out
     have hL4 := HL3.out n3
     have hV4 := HV3.out n3
     have hM4 := HM3.out n3
     have hH4 := HH3.out n3
     rw [← hw3] at hL4 hV4 hM4 hH4
     have HWN3 := Lib.hid hw3
     have HL4 := Lib.hid hL4
     have HV4b := Lib.hid hV4
     have HM4 := Lib.hid hM4
     have HH4 := Lib.hid hH4
     clear hL4 hV4 hM4 hH4 hw3 HW
     by_cases hlt : k < l.length
     rotate_left
     ·have hlt' : ¬ (k : Int) < (l.length : Int) := by omega
      obtain rfl : k = l.length := by have := HK.out; omega
      clear hlt
      cases hfr : freeF l M b o (i : Int) l.length with
      | false =>
       have HNX := Lib.hid (show bestF l M b o (i + 1) = bst by rw [HBX.out, HC4.out, hfr, if_neg (fun q => absurd q.1 (by decide))])
       clear hfr
       go_wp2_with fail
       go_quiet (fail)
       go_wp2_with fail
       go_roundg (l.length - (i + 1))
       case measure => exact Nat.sub_lt_sub_left HLI.out (Nat.lt_succ_self _)
       case rel => exact ⟨i + 1, by first | rfl | rw [hwi], by rw [HNX.out], rfl, Lib.hid HLI.out, Lib.hid ⟨_, by rw [HWN3.out, HWN.out, World.drewN_drewN, World.drewN_drewN]⟩⟩
      | true =>
      have HBY := Lib.hid (show bestF l M b o (i + 1) = if bst < 0 ∨ (rd_T33 l (i : Int)).f3 ≥ (rd_T33 l bst).f3 then (i : Int) else bst by rw [HBX.out, HC4.out, hfr]; simp)
      clear hfr
      by_cases hb0 : bst < 0
      ·have HNX := Lib.hid (show bestF l M b o (i + 1) = (i : Int) by rw [HBY.out, if_pos (.inl hb0)])
       have hb1 : decide (bst < 0) = true := decide_eq_true hb0
       go_wp2_with fail
       go_quiet (fail)
       go_wp2_with fail
       go_roundg (l.length - (i + 1))
       case measure => exact Nat.sub_lt_sub_left HLI.out (Nat.lt_succ_self _)
       case rel => exact ⟨i + 1, by first | rfl | rw [hwi], by rw [HNX.out], rfl, Lib.hid HLI.out, Lib.hid ⟨_, by rw [HWN3.out, HWN.out, World.drewN_drewN, World.drewN_drewN]⟩⟩
      have hb1 : decide (bst < 0) = false := decide_eq_false hb0
      have HBR2 := Lib.hid (show 0 ≤ bst ∧ bst < (l.length : Int) from by
       rcases HSP.out with ⟨q, _⟩ | ⟨q1, q2, _⟩
       ·omega
       ·exact ⟨q1, by have := HLI.out; omega⟩)
      obtain ⟨ad', A4', c4', ea, -, -, -, p3, -, -, -, -, -⟩ := part_at HL4.out i HLI.out
      obtain rfl : ad = ad' := by injection ea
      obtain ⟨ad', A5, c5, eb, -, -, -, q3, -, -, -, -, -⟩ := at_T33 HL4.out bst HBR2.out.1 HBR2.out.2
      obtain rfl : ad = ad' := by injection eb
      clear ea eb
      have s0 : (0 : Int) ≤ bst := HBR2.out.1
      have s1 : bst < (l.length : Int) := HBR2.out.2
      have hiL : (i : Int) < (l.length : Int) := by have := HLI.out; omega
      by_cases hge : (rd_T33 l (i : Int)).f3 ≥ (rd_T33 l bst).f3
      ·have HNX := Lib.hid (show bestF l M b o (i + 1) = (i : Int) by rw [HBY.out, if_pos (.inr hge)])
       have hg1 : decide ((rd_T33 l bst).f3 ≤ (rd_T33 l (i : Int)).f3) = true := decide_eq_true hge
       generalize (rd_T33 l (i : Int)).f3 = fi at *
       generalize (rd_T33 l bst).f3 = fb at *
       go_wp2_with fail
       go_quiet (fail)
       go_wp2_with fail
       go_roundg (l.length - (i + 1))
       case measure => exact Nat.sub_lt_sub_left HLI.out (Nat.lt_succ_self _)
       case rel => exact ⟨i + 1, by first | rfl | rw [hwi], by rw [HNX.out], rfl, Lib.hid HLI.out, Lib.hid ⟨_, by rw [HWN3.out, HWN.out, World.drewN_drewN, World.drewN_drewN]⟩⟩
      ·have HNX := Lib.hid (show bestF l M b o (i + 1) = bst by rw [HBY.out, if_neg (fun q => q.elim hb0 hge)])
       have hg1 : decide ((rd_T33 l bst).f3 ≤ (rd_T33 l (i : Int)).f3) = false := decide_eq_false hge
       generalize (rd_T33 l (i : Int)).f3 = fi at *
       generalize (rd_T33 l bst).f3 = fb at *
       go_wp2_with fail
       go_quiet (fail)
       go_wp2_with fail
       go_roundg (l.length - (i + 1))
       case measure => exact Nat.sub_lt_sub_left HLI.out (Nat.lt_succ_self _)
       case rel => exact ⟨i + 1, by first | rfl | rw [hwi], by rw [HNX.out], rfl, Lib.hid HLI.out, Lib.hid ⟨_, by rw [HWN3.out, HWN.out, World.drewN_drewN, World.drewN_drewN]⟩⟩
     have hlt' : (k : Int) < (l.length : Int) := by omega
     have hwk : wrap64 ((k : Int) + 1) = ((k + 1 : Nat) : Int) := wsucc k (by have := HN.out; omega)
     have HKL := Lib.hid hlt
     have HNF := Lib.hid (show freeF l M b o (i : Int) (k + 1) = (freeF l M b o (i : Int) k && !useF l M b o (i : Int) (k : Int)) from rfl)
     obtain ⟨fk, hfk⟩ : ∃ fk, fk = freeF l M b o (i : Int) k := ⟨_, rfl⟩
     rw [← hfk] at HNF
     rw [← hfk]
     clear hfk
     have hiL : (i : Int) < (l.length : Int) := by have := HLI.out; omega
     have k0 : (0 : Int) ≤ (k : Int) := Int.natCast_nonneg k
     have hMi : (i : Int) < (M.length : Int) := by rw [HF.out.len]; exact hiL
     have hMk : (k : Int) < (M.length : Int) := by rw [HF.out.len]; exact hlt'
     have hRi : (k : Int) < ((rd_L6 M (i : Int)).length : Int) := by rw [HF.out.rows (i : Int) i0 hiL]; exact hlt'
     have hRk : (i : Int) < ((rd_L6 M (k : Int)).length : Int) := by rw [HF.out.rows (k : Int) k0 hlt']; exact hiL
     obtain ⟨ad', A4', c4', ea, p0, -, p2, -, -, -, -, -, -⟩ := part_at HL4.out k HKL.out
     obtain rfl : ad = ad' := by injection ea
     obtain ⟨ab', eb, qb⟩ := Kd.at_int HV4b.out (j : Int) HJN.out.1 HJN.out.2
     obtain rfl : ab = ab' := by injection eb
     rw [Int.toNat_natCast, ← HBR.out] at qb
     obtain ⟨am, a2, c2, rfl, m1, m2⟩ := use_at HM4.out (k : Int) (i : Int) k0 hMk i0 hRk
     obtain ⟨am', a3, c3, ec, m3, m4⟩ := use_at HM4.out (i : Int) (k : Int) i0 hMi k0 hRi
     obtain rfl : am = am' := by injection ec
     rw [Int.toNat_natCast] at m1 m2 m3 m4
     clear ea eb ec hlt
     by_cases e1 : k = i
     ·obtain rfl : i = k := e1.symm
      clear e1
      have HNX := Lib.hid (show freeF l M b o (i : Int) (i + 1) = fk by rw [HNF.out]; unfold useF inS relP; simp [])
      generalize (rd_T33 l (i : Int)).f0 = f0 at *
      generalize (rd_T33 l (i : Int)).f2 = f2 at *
      generalize rdOf false (rd_L6 M (i : Int)) (i : Int) = r1 at *
      go_wp2_with fail
      go_quiet (fail)
      go_wp2_with fail
      go_roundg (l.length - (i + 1))
      case measure => exact Nat.sub_lt_sub_left HKL.out (Nat.lt_succ_self _)
      case rel => exact ⟨i + 1, by first | rfl | rw [hwk], by rw [HNX.out], rfl, Lib.hid HKL.out, Lib.hid ⟨_, by rw [HWN3.out, World.drewN_drewN]⟩⟩
     have e1I : ¬ (k : Int) = (i : Int) := by omega
     have g1 : ((k : Int) != (i : Int)) = true := by simpa using e1I
     have g2 : ((k : Int) == (i : Int)) = false := by simpa using e1I
     have g3 : decide (k = i) = false := by simpa using e1
     have E1 := Lib.hid e1I
     by_cases e2 : (rd_T33 l (k : Int)).f0 = b
     rotate_left
     ·have h1 : ((rd_T33 l (k : Int)).f0 != b) = true := by simpa using e2
      have h2 : ((rd_T33 l (k : Int)).f0 == b) = false := by simpa using e2
      have h3 : decide ((rd_T33 l (k : Int)).f0 = b) = false := by simpa using e2
      have HNX := Lib.hid (show freeF l M b o (i : Int) (k + 1) = fk by rw [HNF.out]; unfold useF inS relP; simp [e2])
      generalize (rd_T33 l (k : Int)).f0 = f0 at *
      generalize (rd_T33 l (k : Int)).f2 = f2 at *
      generalize rdOf false (rd_L6 M (k : Int)) (i : Int) = r1 at *
      generalize rdOf false (rd_L6 M (i : Int)) (k : Int) = r2 at *
      go_wp2_with fail
      go_quiet (fail)
      go_wp2_with fail
      go_roundg (l.length - (k + 1))
      case measure => exact Nat.sub_lt_sub_left HKL.out (Nat.lt_succ_self _)
      case rel => exact ⟨k + 1, by first | rfl | rw [hwk], by rw [HNX.out], rfl, Lib.hid HKL.out, Lib.hid ⟨_, by rw [HWN3.out, World.drewN_drewN]⟩⟩
     have HNF2 := Lib.hid e2
     rw [e2] at p0
     clear e2
     have g4 : (b != b) = false := by simp
     cases e3 : (rd_T33 l (k : Int)).f2 with
     | false =>
      rw [e3] at p2
      have HNX := Lib.hid (show freeF l M b o (i : Int) (k + 1) = fk by rw [HNF.out]; unfold useF inS relP; simp [e3])
      clear e3
      generalize rdOf false (rd_L6 M (k : Int)) (i : Int) = r1 at *
      generalize rdOf false (rd_L6 M (i : Int)) (k : Int) = r2 at *
      go_wp2_with fail
      go_quiet (fail)
      go_wp2_with fail
      go_roundg (l.length - (k + 1))
      case measure => exact Nat.sub_lt_sub_left HKL.out (Nat.lt_succ_self _)
      case rel => exact ⟨k + 1, by first | rfl | rw [hwk], by rw [HNX.out], rfl, Lib.hid HKL.out, Lib.hid ⟨_, by rw [HWN3.out, World.drewN_drewN]⟩⟩
     | true =>
     rw [e3] at p2
     have E3 := Lib.hid e3
     clear e3
     cases e4 : decide ((k : Int) ∈ o) with
     | true =>
      have HQ := Lib.hid (fun n => e4 ▸ HH4.out n (k : Int))
      have e4b : (k : Int) ∈ o := by simpa using e4
      have HNX := Lib.hid (show freeF l M b o (i : Int) (k + 1) = fk by rw [HNF.out]; unfold useF inS relP; simp [e4b])
      clear e4 e4b
      generalize rdOf false (rd_L6 M (k : Int)) (i : Int) = r1 at *
      generalize rdOf false (rd_L6 M (i : Int)) (k : Int) = r2 at *
      go_wp2_with fail
      go_quiet (((go_at_call 36; exact Calls.quiet_of (HQ.out _))))
      go_wp2_with fail
      go_roundg (l.length - (k + 1))
      case measure => exact Nat.sub_lt_sub_left HKL.out (Nat.lt_succ_self _)
      case rel => exact ⟨k + 1, by first | rfl | rw [hwk], by rw [HNX.out], rfl, Lib.hid HKL.out, Lib.hid ⟨_, by rw [HWN3.out, World.drewN_drewN]⟩⟩
     | false =>
     have HQ := Lib.hid (fun n => e4 ▸ HH4.out n (k : Int))
     have E4 := Lib.hid (show (k : Int) ∉ o by simpa using e4)
     clear e4
     cases e5 : rdOf false (rd_L6 M (k : Int)) (i : Int) with
     | false =>
      rw [e5] at m2
      have HNX := Lib.hid (show freeF l M b o (i : Int) (k + 1) = fk by rw [HNF.out]; unfold useF inS relP; simp [e5])
      clear e5
      generalize rdOf false (rd_L6 M (i : Int)) (k : Int) = r2 at *
      go_wp2_with fail
      go_quiet (((go_at_call 36; exact Calls.quiet_of (HQ.out _))))
      go_wp2_with fail
      go_roundg (l.length - (k + 1))
      case measure => exact Nat.sub_lt_sub_left HKL.out (Nat.lt_succ_self _)
      case rel => exact ⟨k + 1, by first | rfl | rw [hwk], by rw [HNX.out], rfl, Lib.hid HKL.out, Lib.hid ⟨_, by rw [HWN3.out, World.drewN_drewN]⟩⟩
     | true =>
     rw [e5] at m2
     have E5 := Lib.hid e5
     clear e5
     cases e6 : rdOf false (rd_L6 M (i : Int)) (k : Int) with
     | true =>
      rw [e6] at m4
      have HNX := Lib.hid (show freeF l M b o (i : Int) (k + 1) = fk by rw [HNF.out]; unfold useF inS relP; simp [e6])
      clear e6
      go_wp2_with fail
      go_quiet (((go_at_call 36; exact Calls.quiet_of (HQ.out _))))
      go_wp2_with fail
      go_roundg (l.length - (k + 1))
      case measure => exact Nat.sub_lt_sub_left HKL.out (Nat.lt_succ_self _)
      case rel => exact ⟨k + 1, by first | rfl | rw [hwk], by rw [HNX.out], rfl, Lib.hid HKL.out, Lib.hid ⟨_, by rw [HWN3.out, World.drewN_drewN]⟩⟩
     | false =>
      rw [e6] at m4
      have HNX := Lib.hid (show freeF l M b o (i : Int) (k + 1) = false by rw [HNF.out]; unfold useF inS relP; simp [e6, E5.out, E4.out, E3.out, HNF2.out, E1.out])
      clear e6
      go_wp2_with fail
      go_quiet (((go_at_call 36; exact Calls.quiet_of (HQ.out _))))
      go_wp2_with fail
      go_roundg (l.length - (k + 1))
      case measure => exact Nat.sub_lt_sub_left HKL.out (Nat.lt_succ_self _)
      case rel => exact ⟨k + 1, by first | rfl | rw [hwk], by rw [HNX.out], rfl, Lib.hid HKL.out, Lib.hid ⟨_, by rw [HWN3.out, World.drewN_drewN]⟩⟩
end Go.Proofs.YtccjclmjoegibaaDoor.Ce
