/- What comes of closers: the walk of closer.Fails. -/
import Derived.Test.YtccjclmjoegibaaDoorFj
namespace Go.Proofs.YtccjclmjoegibaaDoor.Ce
open Go.RowKit Go.Maps Go.Proofs.YtccjclmjoegibaaDoor Go.Proofs.YtccjclmjoegibaaDoorW.PrintWords Go.Proofs.YtccjclmjoegibaaDoorW.PrintLast Go.Proofs.YtccjclmjoegibaaDoorW.PrintMore PCloserOrders Hp
attribute [local go_sem] max2_int min2_int max_two min_two max_three min_three max_four min_four
set_option linter.unusedVariables false
set_option linter.unusedSimpArgs false
theorem fn38_is (w : World) (ad : Addr) (m : Nat) (n : Int) (A0 : Option Addr) (c0 : Nat) (h : w.cell? ad = some (.slice A0 m c0)) : Calls Tryd.prog 38 #[.int .i64 n, .pointer (some ad)] w fun e w' => e = .returned (.bool (outB (m : Int) n)) ∧ w' = w := by
 unfold outB
 by_cases h0 : n < 0
 ·rw [decide_eq_true h0]
  go_enter Tryd.func38, Tryd.ntmps38
  go_wp2_with fail
  go_ret
  exact ⟨rfl, rfl⟩
 ·rw [decide_eq_false h0]
  go_enter Tryd.func38, Tryd.ntmps38
  go_wp2_with fail
  go_ret
  exact ⟨by simp, rfl⟩
theorem index38_is (w : World) (A : Option Addr) (c : Nat) (l : List Int) (ad : Addr) (m : Nat) (A0 : Option Addr) (c0 : Nat) (hr : Kd.C (Kd.int .i64) w A l.length l) (hc : l.length ≤ c) (hm : l.length ≤ 1000000000) (h : w.cell? ad = some (.slice A0 m c0)) :
  Calls Tryd.prog 56 #[.slice A l.length c, .func (.func 38) #[] #[.pointer (some ad)]] w fun e w' => ∃ r, e = .returned (.int .i64 r) ∧ decide (r ≥ 0) = l.any (outB (m : Int)) ∧ w' = w := by
 have HR := Lib.hid hr
 have HM := Lib.hid hm
 clear hr hc hm
 go_enter Tryd.func56, Tryd.ntmps56
 go_wp2_with fail
 go_loopg [8] l.length (fun gk v8 wr => ∃ i : Nat, v8 = .int .i64 i ∧ gk = l.length - i ∧ Hid (i ≤ l.length ∧ l.any (outB (m : Int)) = (l.drop i).any (outB (m : Int))) ∧ wr = w)
 case atStart => exact ⟨0, rfl, by simp, Lib.hid ⟨Nat.zero_le _, rfl⟩, rfl⟩
 case round =>
  obtain ⟨i, rfl, rfl, HI, rfl⟩ := hrel
  by_cases hlt : i < l.length
  ·have hlt' : (i : Int) < (l.length : Int) := by omega
   have hwi : wrap64 ((i : Int) + 1) = ((i + 1 : Nat) : Int) := by
    have := HM.out
    rw [← i64_w, IntWalk.i64_in _ (by omega)]; omega
   obtain ⟨a7, rfl, q0⟩ := Kd.at_int HR.out (i : Int) (by omega) hlt'
   rw [Int.toNat_natCast] at q0
   have HD := Lib.hid (show l.any (outB (m : Int)) = (outB m (rd l (i : Int)) || (l.drop (i + 1)).any (outB (m : Int))) by
    rw [HI.out.2, drop_at l i hlt, List.any_cons]; rfl)
   generalize rd l (i : Int) = x at *
   have HF := Lib.hid (fn38_is _ ad m x A0 c0 h)
   cases hx : outB m x with
   | true =>
    rw [hx] at HF HD
    go_wp2_with fail
    refine HF.out.mono ?_
    rintro _ w2 ⟨rfl, rfl⟩
    go_wp2_with fail
    go_ret
    exact ⟨_, rfl, by rw [HD.out]; simp, rfl⟩
   | false =>
    rw [hx] at HF HD
    go_wp2_with fail
    refine HF.out.mono ?_
    rintro _ w2 ⟨rfl, rfl⟩
    go_wp2_with fail
    go_roundg (l.length - (i + 1))
    case measure => omega
    case rel => exact ⟨i + 1, by first | rfl | rw [hwi], rfl, Lib.hid ⟨hlt, by rw [HD.out]; simp⟩, rfl⟩
  ·have hlt' : ¬ (i : Int) < (l.length : Int) := by omega
   have HD := Lib.hid (show l.any (outB (m : Int)) = false by rw [HI.out.2, List.drop_eq_nil_of_le (by omega)]; rfl)
   go_wp2_with fail
   go_ret
   exact ⟨-1, rfl, by rw [HD.out]; rfl, rfl⟩
theorem has38_out (w : World) (A : Option Addr) (c : Nat) (l : List Int) (ad : Addr) (m : Nat) (A0 : Option Addr) (c0 : Nat) (hr : Kd.C (Kd.int .i64) w A l.length l) (hc : l.length ≤ c) (hm : l.length ≤ 1000000000) (h : w.cell? ad = some (.slice A0 m c0)) :
  Calls Tryd.prog 37 #[.slice A l.length c, .func (.func 38) #[] #[.pointer (some ad)]] w fun e w' => e = .returned (.bool (l.any (outB (m : Int)))) ∧ w' = w := by
 have HI := Lib.hid (index38_is w A c l ad m A0 c0 hr hc hm h)
 clear hr hc hm h
 go_enter Tryd.func37, Tryd.ntmps37
 go_wp2_with fail
 refine HI.out.mono ?_
 rintro _ w2 ⟨r, rfl, hr, rfl⟩
 have HRR := Lib.hid hr
 clear hr HI
 go_wp2_with fail
 go_ret
 exact ⟨by rw [← HRR.out]; rfl, rfl⟩

theorem failsE_3 {l : List S33} {o : List Int} (h : l.length > 256 ∨ o.length > 256) : failsE l o = 3 ∧ failsL l o = [] := by
 have he : failsE l o = 3 := by unfold failsE; rw [if_pos h]
 exact ⟨he, failsL_no he (by decide)⟩
theorem failsE_1 {l : List S33} {o : List Int} (h : ¬ (l.length > 256 ∨ o.length > 256)) (h3 : o.any (outB l.length) = true) : failsE l o = 1 ∧ failsL l o = [] := by
 have he : failsE l o = 1 := by unfold failsE; rw [if_neg h, if_pos h3]
 exact ⟨he, failsL_no he (by decide)⟩
theorem failsE_190 {l : List S33} {o : List Int} (h : ¬ (l.length > 256 ∨ o.length > 256)) (h3 : o.any (outB l.length) = false) (h4 : o.any (fun n => badP (rd_T33 l n)) = true) : failsE l o = 190 ∧ failsL l o = [] := by
 have he : failsE l o = 190 := by unfold failsE; rw [if_neg h, if_neg (by rw [h3]; decide), if_pos h4]
 exact ⟨he, failsL_no he (by decide)⟩
theorem failsE_0 {l : List S33} {o : List Int} (h : ¬ (l.length > 256 ∨ o.length > 256)) (h3 : o.any (outB l.length) = false) (h4 : o.any (fun n => badP (rd_T33 l n)) = false) : failsE l o = 0 ∧ failsL l o = joinL (pairsL l o) := by
 have he : failsE l o = 0 := by unfold failsE; rw [if_neg h, if_neg (by rw [h3]; decide), if_neg (by rw [h4]; decide)]
 exact ⟨he, by unfold failsL; rw [he, if_pos rfl]⟩
theorem out_rng {l : List S33} {o : List Int} (h : o.any (outB l.length) = false) : ∀ x ∈ o, 0 ≤ x ∧ x < l.length := fun x hx => by
 have := List.any_eq_false.1 h x hx
 unfold outB at this
 simp at this
 omega
set_option maxHeartbeats 8000000 in
set_option maxRecDepth 100000 in
theorem cFails_is (w : World) (A : Option Addr) (c : Nat) (l : List S33) (B : Option Addr) (d : Nat) (o : List Int) (hla : LaidF w) (hl : Kd.C k33 w A l.length l) (hc : l.length ≤ c) (ho : Kd.C (Kd.int .i64) w B o.length o) (hd : o.length ≤ d) :
  Calls Tryd.prog 21 #[.slice A l.length c, .slice B o.length d] w fun e w' => FailPost w l o e w' := by
 obtain ⟨w2, e2⟩ : ∃ w2, w2 = w.alloc (.cells #[.slice A l.length c] 23) := ⟨_, rfl⟩
 have hb2 : Below w.heap.size w w2 := by rw [e2]; exact below_alloc (Below.refl _ _) _
 have k2 : w2.heap[w.heap.size]? = some (.cells #[.slice A l.length c] 23 (0, 0)) := by rw [e2]; exact blk_new _ _
 obtain ⟨bx, hbx⟩ : ∃ bx, bx = w.heap.size := ⟨_, rfl⟩
 rw [← hbx] at k2
 have HBX := Lib.hid hbx
 have HB2 := Lib.hid hb2
 have HK2 := Lib.hid k2
 have HLA := Lib.hid hla
 have HL := Lib.hid (And.intro hl hc)
 have HO := Lib.hid (And.intro ho hd)
 clear hla hl hc ho hd hb2 k2
 by_cases h1 : l.length > 256
 ·have h1' : (l.length : Int) > 256 := by omega
  have h1d : decide ((256 : Int) < (l.length : Int)) = true := decide_eq_true h1'
  have HE := Lib.hid (failsE_3 (o := o) (.inl h1))
  clear h1
  go_enter Tryd.func21, Tryd.ntmps21
  go_upto_region 1 with fail
  rw [← e2, ← hbx]
  clear e2 hbx
  have q := (blk_cell HK2.out 0).trans rfl
  go_wp2_with fail
  go_ret2
  exact ⟨_, by rw [HE.out.1]; rfl, by rw [HE.out.2]; exact Kd.R_nil _ _ _ _ _, HB2.out⟩
 have h1' : ¬ (l.length : Int) > 256 := by omega
 have h1d : decide ((256 : Int) < (l.length : Int)) = false := decide_eq_false h1'
 by_cases h2 : o.length > 256
 ·have h2' : (o.length : Int) > 256 := by omega
  have h2d : decide ((256 : Int) < (o.length : Int)) = true := decide_eq_true h2'
  have HE := Lib.hid (failsE_3 (l := l) (.inr h2))
  clear h1 h2
  go_enter Tryd.func21, Tryd.ntmps21
  go_upto_region 1 with fail
  rw [← e2, ← hbx]
  clear e2 hbx
  have q := (blk_cell HK2.out 0).trans rfl
  go_wp2_with fail
  go_ret2
  exact ⟨_, by rw [HE.out.1]; rfl, by rw [HE.out.2]; exact Kd.R_nil _ _ _ _ _, HB2.out⟩
 have h2' : ¬ (o.length : Int) > 256 := by omega
 have h2d : decide ((256 : Int) < (o.length : Int)) = false := decide_eq_false h2'
 have H12 := Lib.hid (show ¬ (l.length > 256 ∨ o.length > 256) from fun q => q.elim h1 h2)
 have HN := Lib.hid (show l.length ≤ 256 ∧ o.length ≤ 256 by omega)
 have HHO := Lib.hid (has38_out w2 B d o ⟨bx, 0, none⟩ l.length A c (Kd.C_below HO.out.1 HB2.out) HO.out.2 (by have := HN.out; omega) ((blk_cell HK2.out 0).trans rfl))
 clear h1 h2
 cases h3 : o.any (outB l.length) with
 | true =>
  rw [h3] at HHO
  have HE := Lib.hid (failsE_1 H12.out h3)
  clear h3
  go_enter Tryd.func21, Tryd.ntmps21
  go_upto_region 1 with fail
  rw [← e2, ← hbx]
  clear e2 hbx
  have q := (blk_cell HK2.out 0).trans rfl
  go_wp2_with fail
  refine HHO.out.mono ?_
  rintro _ w3 ⟨rfl, rfl⟩
  go_wp2_with fail
  go_ret2
  exact ⟨_, by rw [HE.out.1]; rfl, by rw [HE.out.2]; exact Kd.R_nil _ _ _ _ _, HB2.out⟩
 | false =>
 rw [h3] at HHO
 have HRG := Lib.hid (out_rng h3)
 have H3 := Lib.hid h3
 clear h3
 go_enter Tryd.func21, Tryd.ntmps21
 go_upto_region 1 with fail
 rw [← e2, ← hbx]
 clear e2 hbx
 have q := (blk_cell HK2.out 0).trans rfl
 go_wp2_with fail
 refine HHO.out.mono ?_
 rintro _ w3 ⟨rfl, rfl⟩
 clear q HHO h1' h1d h2' h2d
 go_wp2_with fail
 go_loopg [6, 26] o.length (fun gk v6 v26 wr => ∃ i : Nat, v26 = .int .i64 i ∧ gk = o.length - i ∧ Hid (i ≤ o.length ∧ (o.take i).any (fun n => badP (rd_T33 l n)) = false) ∧ Hid (Kd.R (Kd.slice 49 k49) 44 wr w.heap.size (fun k => k ≠ bx) v6 (pairsL l (o.take i))) ∧ Hid (wr.heap[bx]? = some (.cells #[.slice A l.length c] 23 (0, 0))) ∧ Hid (Below w.heap.size w wr))
 case atStart => exact ⟨0, rfl, by simp, Lib.hid ⟨Nat.zero_le _, rfl⟩, Lib.hid (Kd.R_nil _ _ _ _ _), HK2, HB2⟩
 case round =>
  clear HB2 HK2
  obtain ⟨i, rfl, rfl, HI, HR, HK, HB⟩ := hrel
  obtain ⟨B6, d6, rfl⟩ := Kd.R_slice HR.out
  by_cases hlt : i < o.length
  rotate_left
  ·have hlt' : ¬ (i : Int) < (o.length : Int) := by omega
   have hti : o.take i = o := List.take_of_length_le (by omega)
   have HBD := Lib.hid (show o.any (fun n => badP (rd_T33 l n)) = false by have := HI.out.2; rw [hti] at this; exact this)
   rw [hti] at HR ⊢
   have HE := Lib.hid (failsE_0 H12.out H3.out HBD.out)
   have HJ := Lib.hid (fjoin_is wr B6 d6 (pairsL l o) (HLA.out.below HB.out) (Kd.R_reads' HR.out).2.2 (pairsL_ok l o HBD.out) (Nat.le_trans (pairsL_len l o) HN.out.2))
   clear hlt hti
   go_wp2_with fail
   refine HJ.out.mono ?_
   rintro _ w5 ⟨v5, rfl, hr5, hb5⟩
   have HR5 := Lib.hid (And.intro hr5 (below_step HB.out hb5))
   clear hr5 hb5 HJ
   go_wp2_with fail
   go_ret2
   exact ⟨_, by rw [HE.out.1]; rfl, by rw [HE.out.2]; exact Kd.R_lower HR5.out.1 HB.out.size, HR5.out.2⟩
  have hlt' : (i : Int) < (o.length : Int) := by omega
  have hwi : wrap64 ((i : Int) + 1) = ((i + 1 : Nat) : Int) := wsucc i (by have := HN.out; omega)
  have HLI := Lib.hid hlt
  obtain ⟨ab, rfl, qb⟩ := Kd.at_int (Kd.C_below HO.out.1 HB.out) (i : Int) (by omega) hlt'
  rw [Int.toNat_natCast] at qb
  have HTK := Lib.hid (take_rd o i hlt)
  obtain ⟨n, hn⟩ : ∃ n, n = rd o (i : Int) := ⟨_, rfl⟩
  have HMEM := Lib.hid (show n ∈ o by rw [hn, rd_nat, Int.toNat_natCast, at_get o i hlt]; exact List.getElem_mem _)
  rw [← hn] at qb HTK
  have n0 : (0 : Int) ≤ n := (HRG.out n HMEM.out).1
  have n1 : n < (l.length : Int) := (HRG.out n HMEM.out).2
  obtain ⟨ad, A4, c4, rfl, p0, p1, p2, p3, p4, p5, p6, p7, p8⟩ := at_T33 (Kd.C_below HL.out.1 HB.out) n n0 n1
  have qx := (blk_cell HK.out 0).trans rfl
  have HBA := Lib.hid (show (o.take (i + 1)).any (fun n => badP (rd_T33 l n)) = badP (rd_T33 l n) by rw [HTK.out.1, bad_app, HI.out.2, Bool.false_or])
  have HPA := Lib.hid (show pairsL l (o.take (i + 1)) = pairsL l (o.take i) ++ (if failsP (rd_T33 l n) = true then [pairP (rd_T33 l n)] else []) by rw [HTK.out.1, pairsL_app]; rfl)
  have HAN := Lib.hid (show badP (rd_T33 l n) = true → o.any (fun n => badP (rd_T33 l n)) = true from fun h => List.any_eq_true.2 ⟨n, HMEM.out, h⟩)
  have HPL := Lib.hid (show (pairsL l (o.take i)).length ≤ 256 from Nat.le_trans (pairsL_len l _) (by rw [List.length_take]; have := HN.out; omega))
  obtain ⟨x, hx⟩ : ∃ x, x = rd_T33 l n := ⟨_, rfl⟩
  rw [← hx] at p0 p1 p2 p3 p4 p5 p6 p7 p8 HBA HPA HAN
  have hbxl : bx < wr.heap.size := blk_lt HK.out
  have HBL := Lib.hid hbxl
  clear hx hn hlt p7 p8 HTK HMEM hbxl
  go_upto_region 10 with fail
  obtain ⟨w3, e3⟩ : ∃ w3, w3 = wr.alloc (.cells #[.int .i64 x.f0, .string x.f1, .bool x.f2, .int .i64 x.f3, .slice A4 x.f4.length c4, .int .i64 x.f5.f0, .string x.f5.f1] 33) := ⟨_, rfl⟩
  have hbw : Below wr.heap.size wr w3 := by rw [e3]; exact below_alloc (Below.refl _ _) _
  have k3 : w3.heap[wr.heap.size]? = some (.cells #[.int .i64 x.f0, .string x.f1, .bool x.f2, .int .i64 x.f3, .slice A4 x.f4.length c4, .int .i64 x.f5.f0, .string x.f5.f1] 33 (0, 0)) := by rw [e3]; exact blk_new _ _
  rw [← e3]
  obtain ⟨by_, hby⟩ : ∃ y, y = wr.heap.size := ⟨_, rfl⟩
  rw [← hby] at k3 ⊢
  have HK3 := Lib.hid k3
  have HS3 := Lib.hid hbw
  have HB3 := Lib.hid (below_step HB.out hbw)
  have HNM := Lib.hid (name_is w3 x.f1 (HLA.out.below HB3.out).keys)
  clear e3 hbw k3 hby p0 p1 p2 p3 p4 p5 p6 qb qx
  have r1 := (blk_cell HK3.out 1).trans rfl
  have r5 := (blk_cell HK3.out 5).trans rfl
  have r6 := (blk_cell HK3.out 6).trans rfl
  cases hnm : nameB x.f1 with
  | false =>
   rw [hnm] at HNM
   have HE := Lib.hid (failsE_190 H12.out H3.out (HAN.out (by unfold badP; rw [hnm]; rfl)))
   clear hnm
   go_wp2_with fail
   refine HNM.out.mono ?_
   rintro _ w4 ⟨rfl, ⟨m, rfl⟩⟩
   go_wp2_with fail
   go_ret2
   exact ⟨_, by rw [HE.out.1]; rfl, by rw [HE.out.2]; exact Kd.R_nil _ _ _ _ _, HB3.out.trans (pw_below_drewN (Below.refl _ _) m)⟩
  | true =>
  rw [hnm] at HNM
  have HNT := Lib.hid hnm
  clear hnm
  go_wp2_with fail
  refine HNM.out.mono ?_
  rintro _ w4 ⟨rfl, ⟨m, e4⟩⟩
  have hb4 : Below w3.heap.size w3 w4 := by rw [e4]; exact pw_below_drewN (Below.refl _ _) m
  have HS4 := Lib.hid (below_step HS3.out hb4)
  have HB4 := Lib.hid (below_step HB3.out hb4)
  have HK4 := Lib.hid (blk_below HK3.out hb4)
  have HCL := Lib.hid (closer_is w4 x.f5.f0 x.f5.f1)
  clear e4 hb4 r1 r5 r6 HNM HK3 HS3 HB3
  have r1 := (blk_cell HK4.out 1).trans rfl
  have r5 := (blk_cell HK4.out 5).trans rfl
  have r6 := (blk_cell HK4.out 6).trans rfl
  cases hcb : closerB x.f5.f0 x.f5.f1 with
  | false =>
   rw [hcb] at HCL
   have HE := Lib.hid (failsE_190 H12.out H3.out (HAN.out (by unfold badP; rw [hcb]; simp)))
   clear hcb
   go_wp2_with fail
   refine HCL.out.mono ?_
   rintro _ w5 ⟨rfl, hb5⟩
   have HB5 := Lib.hid (below_step HB4.out hb5)
   clear hb5 r1 r5 r6
   go_wp2_with fail
   go_ret2
   exact ⟨_, by rw [HE.out.1]; rfl, by rw [HE.out.2]; exact Kd.R_nil _ _ _ _ _, HB5.out⟩
  | true =>
  rw [hcb] at HCL
  have HBF := Lib.hid (show badP x = false by unfold badP; rw [hcb, HNT.out]; rfl)
  have HCT := Lib.hid hcb
  clear hcb
  go_wp2_with fail
  refine HCL.out.mono ?_
  rintro _ w5 ⟨rfl, hb5⟩
  have HS5 := Lib.hid (below_step HS4.out hb5)
  have HB5 := Lib.hid (below_step HB4.out hb5)
  have HK5 := Lib.hid (blk_below HK4.out hb5)
  clear hb5 r1 r5 r6 HCL HK4 HS4 HB4
  have r1 := (blk_cell HK5.out 1).trans rfl
  have r5 := (blk_cell HK5.out 5).trans rfl
  have r6 := (blk_cell HK5.out 6).trans rfl
  have HR5 := Lib.hid (Kd.R_below HR.out HS5.out)
  have HX5 := Lib.hid (blk_below HK.out HS5.out)
  by_cases h3 : x.f5.f0 = 3
  ·have HF := Lib.hid (show failsP x = true by unfold failsP; simp [h3])
   have HKP := Lib.hid (show kindP x = 2 by unfold kindP; simp [h3])
   have HOK := Lib.hid (pairP_ok HBF.out HF.out)
   have HTS := Lib.hid (show x.f5.f1.size ≤ 4096 by
    have := HOK.out.right (leafOf (kindP x) x.f5.f1) (by simp [pairP])
    exact this.text)
   have HLF := Lib.hid (fleaf_is w5 2 x.f5.f1 (HLA.out.below HB5.out) (by omega) HTS.out)
   rw [h3] at r5
   clear h3
   go_wp2_with fail
   refine HLF.out.mono ?_
   rintro _ w6 ⟨v6, rfl, hr6, hb6⟩
   obtain ⟨A6, c6, rfl⟩ := Kd.R_slice hr6
   have HS6 := Lib.hid (below_step HS5.out hb6)
   have HB6 := Lib.hid (below_step HB5.out hb6)
   have HK6 := Lib.hid (blk_below HK5.out hb6)
   have HWR := Lib.hid (fwrap_is w6 x.f1 A6 c6 [leafOf 2 x.f5.f1] (HLA.out.below HB6.out) (Kd.R_reads' hr6).2.2 HNT.out (okLeaf (by omega) HTS.out) (by simp))
   clear hr6 hb6 r1 r5 r6 HLF
   have r1 := (blk_cell HK6.out 1).trans rfl
   go_wp2_with fail
   refine HWR.out.mono ?_
   rintro _ w7 ⟨v7, rfl, hr7, hb7⟩
   have h1 : [leafOf 2 x.f5.f1] ++ [cellOf x.f1] = pairP x := by unfold pairP; rw [HKP.out]; rfl
   rw [h1] at hr7
   clear h1
   obtain ⟨A7, c7, rfl⟩ := Kd.R_slice hr7
   have HS7 := Lib.hid (below_step HS6.out hb7)
   have HB7 := Lib.hid (below_step HB6.out hb7)
   have HR7 := Lib.hid (Kd.R_below HR.out HS7.out)
   have HX7 := Lib.hid (blk_below HK.out HS7.out)
   have HP7 := Lib.hid (show Kd.R k49 49 w7 w.heap.size (fun k => k ≠ bx ∧ some k ≠ (Value.slice B6 (pairsL l (o.take i)).length d6).ownBlock) (.slice A7 (pairP x).length c7) (pairP x) from by
    have h2 := Kd.R_mono (Kd.R_bound hr7) (ok' := fun k => k ≠ bx ∧ some k ≠ (Value.slice B6 (pairsL l (o.take i)).length d6).ownBlock) (fun k q => ⟨fun e => by have := q.2.1; have := HBL.out; have := HS6.out.size; omega, fun e => by have := Kd.R_lt HR.out k e.symm; have := q.2.1; have := HS6.out.size; omega⟩)
    exact Kd.R_lower h2 HB6.out.size)
   clear hr7 hb7 r1 HWR HK6
   go_wp2_with (first | ((with_reducible refine gate_builtin (b := .append) (xs := #[.tmp 66, .tmp 68]) rfl ?_); at_builtin; refine Kd.R_append (Kd.slice 49 k49) (w0 := w) w.heap.size rfl (.tmp 66) (.tmp 68) 53 44 (.slice none 0 0) 24 rfl Tryd.underlying53 info44 rfl (by decide) (by omega) (.slice B6 (pairsL l (o.take i)).length d6) (pairsL l (o.take i)) (pairP x) [.slice A7 (pairP x).length c7] (fun k => k ≠ bx) (fun k => k ≠ bx ∧ some k ≠ (Value.slice B6 (pairsL l (o.take i)).length d6).ownBlock) rfl rfl ⟨_, rfl, HP7.out⟩ (fun _ hk => hk) (fun k hk e => by have := HBL.out; have := HS7.out.size; omega) HR7.out HB7.out HB7.out.size (by have := HPL.out; omega) ?_; intro v8 w8 ho hb hg hat; have HR8 := Lib.hid ho; have HB8 := Lib.hid hb; have HX8 := Lib.hid (show w8.heap[bx]? = some (.cells #[.slice (some ad) l.length c] 23 (0, 0)) from (hg.block bx (blk_lt HX7.out) (fun e => (HR7.out.1 bx e.symm) rfl)).trans HX7.out); clear ho hb hg hat) | fail)
   go_roundg (o.length - (i + 1))
   case measure => exact Nat.sub_lt_sub_left HLI.out (Nat.lt_succ_self _)
   case rel => exact ⟨i + 1, by first | rfl | rw [hwi], rfl, Lib.hid ⟨HLI.out, by rw [HBA.out]; exact HBF.out⟩, Lib.hid (by rw [HPA.out, HF.out, if_pos rfl]; exact HR8.out), HX8, HB8⟩
  by_cases h2 : x.f5.f0 = 2
  ·have HF := Lib.hid (show failsP x = true by unfold failsP; simp [h2])
   have HKP := Lib.hid (show kindP x = 1 by unfold kindP; simp [h2])
   have HOK := Lib.hid (pairP_ok HBF.out HF.out)
   have HTS := Lib.hid (show x.f5.f1.size ≤ 4096 by
    have := HOK.out.right (leafOf (kindP x) x.f5.f1) (by simp [pairP])
    exact this.text)
   have HLF := Lib.hid (fleaf_is w5 1 x.f5.f1 (HLA.out.below HB5.out) (by omega) HTS.out)
   rw [h2] at r5
   clear h2
   go_wp2_with fail
   refine HLF.out.mono ?_
   rintro _ w6 ⟨v6, rfl, hr6, hb6⟩
   obtain ⟨A6, c6, rfl⟩ := Kd.R_slice hr6
   have HS6 := Lib.hid (below_step HS5.out hb6)
   have HB6 := Lib.hid (below_step HB5.out hb6)
   have HK6 := Lib.hid (blk_below HK5.out hb6)
   have HWR := Lib.hid (fwrap_is w6 x.f1 A6 c6 [leafOf 1 x.f5.f1] (HLA.out.below HB6.out) (Kd.R_reads' hr6).2.2 HNT.out (okLeaf (by omega) HTS.out) (by simp))
   clear hr6 hb6 r1 r5 r6 HLF
   have r1 := (blk_cell HK6.out 1).trans rfl
   go_wp2_with fail
   refine HWR.out.mono ?_
   rintro _ w7 ⟨v7, rfl, hr7, hb7⟩
   have h1 : [leafOf 1 x.f5.f1] ++ [cellOf x.f1] = pairP x := by unfold pairP; rw [HKP.out]; rfl
   rw [h1] at hr7
   clear h1
   obtain ⟨A7, c7, rfl⟩ := Kd.R_slice hr7
   have HS7 := Lib.hid (below_step HS6.out hb7)
   have HB7 := Lib.hid (below_step HB6.out hb7)
   have HR7 := Lib.hid (Kd.R_below HR.out HS7.out)
   have HX7 := Lib.hid (blk_below HK.out HS7.out)
   have HP7 := Lib.hid (show Kd.R k49 49 w7 w.heap.size (fun k => k ≠ bx ∧ some k ≠ (Value.slice B6 (pairsL l (o.take i)).length d6).ownBlock) (.slice A7 (pairP x).length c7) (pairP x) from by
    have h2 := Kd.R_mono (Kd.R_bound hr7) (ok' := fun k => k ≠ bx ∧ some k ≠ (Value.slice B6 (pairsL l (o.take i)).length d6).ownBlock) (fun k q => ⟨fun e => by have := q.2.1; have := HBL.out; have := HS6.out.size; omega, fun e => by have := Kd.R_lt HR.out k e.symm; have := q.2.1; have := HS6.out.size; omega⟩)
    exact Kd.R_lower h2 HB6.out.size)
   clear hr7 hb7 r1 HWR HK6
   go_wp2_with (first | ((with_reducible refine gate_builtin (b := .append) (xs := #[.tmp 66, .tmp 68]) rfl ?_); at_builtin; refine Kd.R_append (Kd.slice 49 k49) (w0 := w) w.heap.size rfl (.tmp 66) (.tmp 68) 53 44 (.slice none 0 0) 24 rfl Tryd.underlying53 info44 rfl (by decide) (by omega) (.slice B6 (pairsL l (o.take i)).length d6) (pairsL l (o.take i)) (pairP x) [.slice A7 (pairP x).length c7] (fun k => k ≠ bx) (fun k => k ≠ bx ∧ some k ≠ (Value.slice B6 (pairsL l (o.take i)).length d6).ownBlock) rfl rfl ⟨_, rfl, HP7.out⟩ (fun _ hk => hk) (fun k hk e => by have := HBL.out; have := HS7.out.size; omega) HR7.out HB7.out HB7.out.size (by have := HPL.out; omega) ?_; intro v8 w8 ho hb hg hat; have HR8 := Lib.hid ho; have HB8 := Lib.hid hb; have HX8 := Lib.hid (show w8.heap[bx]? = some (.cells #[.slice (some ad) l.length c] 23 (0, 0)) from (hg.block bx (blk_lt HX7.out) (fun e => (HR7.out.1 bx e.symm) rfl)).trans HX7.out); clear ho hb hg hat) | fail)
   go_roundg (o.length - (i + 1))
   case measure => exact Nat.sub_lt_sub_left HLI.out (Nat.lt_succ_self _)
   case rel => exact ⟨i + 1, by first | rfl | rw [hwi], rfl, Lib.hid ⟨HLI.out, by rw [HBA.out]; exact HBF.out⟩, Lib.hid (by rw [HPA.out, HF.out, if_pos rfl]; exact HR8.out), HX8, HB8⟩
  have HF := Lib.hid (show failsP x = false by unfold failsP; simp [h2, h3])
  have g2 : (x.f5.f0 == 2) = false := by simpa using h2
  have g3 : (x.f5.f0 == 3) = false := by simpa using h3
  have g2d : decide (x.f5.f0 = 2) = false := by simpa using h2
  have g3d : decide (x.f5.f0 = 3) = false := by simpa using h3
  generalize x.f5.f0 = xk at *
  go_wp2_with fail
  go_roundg (o.length - (i + 1))
  case measure => exact Nat.sub_lt_sub_left HLI.out (Nat.lt_succ_self _)
  case rel => exact ⟨i + 1, by first | rfl | rw [hwi], rfl, Lib.hid ⟨HLI.out, by rw [HBA.out]; exact HBF.out⟩, Lib.hid (by rw [HPA.out, HF.out, if_neg (by decide), List.append_nil]; exact HR5.out), HX5, HB5⟩
end Go.Proofs.YtccjclmjoegibaaDoor.Ce
