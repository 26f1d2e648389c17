/- What comes of any closers, in any order; all at once: the walk of CloserFails. -/
import Derived.Test.YtccjclmjoegibaaDoorFd
import Derived.Test.YtccjclmjoegibaaDoorSm
namespace Go.Proofs.YtccjclmjoegibaaDoor.Ce
open Go.RowKit Go.Maps Go.Proofs.YtccjclmjoegibaaDoor Go.Proofs.YtccjclmjoegibaaDoorW.PrintWords Go.Proofs.YtccjclmjoegibaaDoorW.PrintLast Go.Proofs.YtccjclmjoegibaaDoorW.PrintMore PCloserOrders Hp
attribute [local go_sem] max2_int min2_int max_two min_two max_three min_three max_four min_four
set_option linter.unusedVariables false
set_option linter.unusedSimpArgs false
theorem joinL_len {ps : List (List S49)} (h : Pairs ps) (hl : ps.length ≤ 256) : (joinL ps).length ≤ 1024 := by
 by_cases e : ps = []
 ·subst e; unfold joinL; simp
 ·exact (joinL_ok h hl e).1.len
theorem failsL_len (l : List S33) (o : List Int) : (failsL l o).length ≤ 1024 := by
 by_cases h : failsE l o = 0
 ·have h0 := h
  unfold failsE at h
  by_cases h1 : l.length > 256 ∨ o.length > 256
  ·rw [if_pos h1] at h; exact absurd h (by decide)
  ·rw [if_neg h1] at h
   by_cases h2 : o.any (outB l.length) = true
   ·rw [if_pos h2] at h; exact absurd h (by decide)
   ·rw [if_neg h2] at h
    by_cases h3 : o.any (fun n => badP (rd_T33 l n)) = true
    ·rw [if_pos h3] at h; exact absurd h (by decide)
    ·unfold failsL
     rw [if_pos h0]
     exact joinL_len (pairsL_ok l o (by simpa using h3)) (Nat.le_trans (pairsL_len l o) (by omega))
 ·unfold failsL; rw [if_neg h]; simp
/-- A row of cracks that may be written. -/
def SF (w : World) (g n : Nat) : Prop := ∃ cs, w.heap[g]? = some (.cells cs 49 (0, 0)) ∧ n * 3 ≤ cs.size
theorem SF.of {w : World} {base : Nat} {g n c : Nat} {f : List S49} (h : Kd.R k49 49 w base (fun _ => True) (.slice (some ⟨g, 0, none⟩) n c) f) : SF w g n := by
 obtain ⟨inner, _, h | ⟨g', cap, cur2, e, hg, hb, hc, hm, hs, ht⟩⟩ := Kd.R_own h
 ·exact absurd h.1 (by simp)
 ·injection e with e e2 _
  injection e with e
  injection e with e _ _
  subst e
  refine ⟨cur2, hb, ?_⟩
  have h3 : k49.sz = 3 := rfl
  rw [h3] at hs
  have := (Kd.R_reads' h).1
  omega
theorem SF.cells {w : World} {g n : Nat} (h : SF w g n) (i : Nat) (hi : i < n) : (∃ u, w.cell? ⟨g, i * 3, none⟩ = some u) ∧ (∃ u, w.cell? ⟨g, i * 3 + 1, none⟩ = some u) ∧ (∃ u, w.cell? ⟨g, i * 3 + 2, none⟩ = some u) ∧ (∀ j, w.frozen? ⟨g, j, none⟩ = false) := by
 obtain ⟨cs, h1, h2⟩ := h
 refine ⟨⟨cs[i * 3], ?_⟩, ⟨cs[i * 3 + 1], ?_⟩, ⟨cs[i * 3 + 2], ?_⟩, fun j => blk_frozen h1 j⟩
 all_goals rw [blk_cell h1, Array.getElem?_eq_getElem]
theorem SF.set {w : World} {g n : Nat} (h : SF w g n) (j : Nat) (u : Value) : SF (w.setCell ⟨g, j, none⟩ u) g n := by
 obtain ⟨cs, h1, h2⟩ := h
 exact ⟨_, blk_set h1 j u, by simpa using h2⟩
set_option maxHeartbeats 4000000 in
set_option maxRecDepth 100000 in
theorem walk_cfails (w : World) (U : Option Addr) (cu : Nat) (up : List Int) (A : Option Addr) (c : Nat) (l : List S33) (top : Int) (O : Option Addr) (co : Nat) (od : List Int) (hla : LaidF w) (hu : Kd.C (Kd.int .i64) w U up.length up) (hcu : up.length ≤ cu) (hun : up.length ≤ 1048576) (hl : Kd.C k33 w A l.length l) (hc : l.length ≤ c) (hus : ∀ x ∈ l, x.f4.length ≤ 1048576) (ht : unS l [] l.length ≤ 1048576) (hln : l.length ≤ 1048576) (ho : Kd.C (Kd.int .i64) w O od.length od) (hco : od.length ≤ co) (hon : od.length ≤ 1048576) :
  Calls Tryd.prog 6 #[.slice U up.length cu, .slice A l.length c, .int .i64 top, .slice O od.length co] w fun e w' => e = .returned (.bool true) ∧ Below w.heap.size w w' := by
 have HC1 := Lib.hid (copyInts_is w U cu up hu hcu hun)
 have HU := Lib.hid (And.intro hu hcu)
 have HL := Lib.hid (And.intro hl hc)
 have HO := Lib.hid (And.intro ho hco)
 have HUS := Lib.hid (And.intro hus ht)
 have HLA := Lib.hid hla
 have HNN := Lib.hid (And.intro hun (And.intro hln hon))
 clear hla hu hcu hun hl hc hus ht hln ho hco hon
 go_enter Tryd.func6, Tryd.ntmps6
 go_wp2_with fail
 refine HC1.out.mono ?_
 rintro _ w1 ⟨v1, rfl, hr1, hb1⟩
 obtain ⟨U1, c1, rfl⟩ := Kd.R_slice hr1
 have HR1 := Lib.hid hr1
 have HB1 := Lib.hid hb1
 have HC2 := Lib.hid (copied_is w1 A c l (Kd.C_below HL.out.1 hb1) HL.out.2 HNN.out.2.1 HUS.out.1)
 clear hr1 hb1 HC1
 go_wp2_with fail
 refine HC2.out.mono ?_
 rintro _ w2 ⟨v2, rfl, hr2, hb2⟩
 obtain ⟨A1, d1, rfl⟩ := Kd.R_slice hr2
 have HR2 := Lib.hid hr2
 have HU2 := Lib.hid (Kd.R_reads' (Kd.R_below HR1.out hb2)).2
 have HB2 := Lib.hid (below_step HB1.out hb2)
 have HC3 := Lib.hid (copyInts_is w2 O co od (Kd.C_below HO.out.1 HB2.out) HO.out.2 HNN.out.2.2)
 clear hr2 hb2 HC2 HR1 HB1
 go_wp2_with fail
 refine HC3.out.mono ?_
 rintro _ w3 ⟨v3, rfl, hr3, hb3⟩
 obtain ⟨O1, e1, rfl⟩ := Kd.R_slice hr3
 have HO3 := Lib.hid (Kd.R_reads' hr3).2
 have HL3 := Lib.hid (Kd.R_reads' (Kd.R_below HR2.out hb3)).2
 have HU3 := Lib.hid (And.intro HU2.out.1 (Kd.C_below HU2.out.2 hb3))
 have HB3 := Lib.hid (below_step HB2.out hb3)
 have HF1 := Lib.hid (cFails_is w3 A1 d1 l O1 e1 od (HLA.out.below HB3.out) HL3.out.2 HL3.out.1 HO3.out.2 HO3.out.1)
 clear hr3 hb3 HC3 HR2 HU2 HB2
 go_wp2_with fail
 refine HF1.out.mono ?_
 rintro _ w4 ⟨v4, rfl, hr4, hb4⟩
 obtain ⟨A4, c4, rfl⟩ := Kd.R_slice hr4
 have HR4 := Lib.hid hr4
 have HS4 := Lib.hid hb4
 have HB4 := Lib.hid (below_step HB3.out hb4)
 have HF2 := Lib.hid (rFails_is w4 A c l O co od (Kd.C_below HL.out.1 HB4.out) HL.out.2 (Kd.C_below HO.out.1 HB4.out) HO.out.2)
 clear hr4 hb4 HF1
 go_wp2_with fail
 refine HF2.out.mono ?_
 rintro _ w5 ⟨v5, rfl, hr5, hb5⟩
 obtain ⟨A5, c5, rfl⟩ := Kd.R_slice hr5
 have HR5 := Lib.hid (Kd.R_below HR4.out hb5)
 have HS5 := Lib.hid (below_step HS4.out hb5)
 have HFL := Lib.hid (failsL_len l od)
 have HQ1 := Lib.hid (sameFail_is w5 A4 A5 c4 c5 (failsL l od) (Kd.R_reads' HR5.out).2.2 (Kd.R_reads' hr5).2.2 (by have := HFL.out; omega))
 clear hr5 hb5 HF2 HR4 HS4
 generalize failsE l od = fe at *
 generalize failsL l od = fl at *
 have hcc : (fe != fe) = false := by simp
 go_wp2_with fail
 refine HQ1.out.mono ?_
 rintro _ w6 ⟨rfl, n6, e6⟩
 have hb6 : Below w5.heap.size w5 w6 := by rw [e6]; exact pw_below_drewN (Below.refl _ _) n6
 have HR6 := Lib.hid (Kd.R_below HR5.out hb6)
 have HS6 := Lib.hid (below_step HS5.out hb6)
 clear e6 hb6 HQ1 HR5 HS5 hcc
 go_wp2_with fail
 go_loopg [16] fl.length (fun gk v16 wr => ∃ i : Nat, v16 = .int .i64 i ∧ gk = fl.length - i ∧ Hid (i ≤ fl.length) ∧ Hid (Below w3.heap.size w3 wr ∧ ∀ g, A4 = some ⟨g, 0, none⟩ → SF wr g fl.length ∧ w3.heap.size ≤ g))
 case atStart => exact ⟨0, rfl, by simp, Lib.hid (Nat.zero_le _), Lib.hid ⟨HS6.out, fun g hg => by
  have h6 := HR6.out
  rw [hg] at h6
  exact ⟨SF.of h6, Kd.R_base h6 g rfl⟩⟩⟩
 case round =>
  obtain ⟨i, rfl, rfl, HI, HX⟩ := hrel
  by_cases hlt : i < fl.length
  ·have hlt' : (i : Int) < (fl.length : Int) := by omega
   have hwi : wrap64 ((i : Int) + 1) = ((i + 1 : Nat) : Int) := wsucc i (by have := HFL.out; omega)
   have HLI := Lib.hid hlt
   obtain ⟨g, cap, eg, -⟩ := Kd.R_form HR6.out (by omega)
   have eg' : A4 = some ⟨g, 0, none⟩ := by injection eg
   obtain ⟨⟨⟨u0, z0⟩, ⟨u1, z1⟩, ⟨u2, z2⟩, z3⟩, hg3⟩ := And.intro ((HX.out.2 g eg').1.cells i hlt) (HX.out.2 g eg').2
   have z30 := z3 (i * 3)
   have z31 := z3 (i * 3 + 1)
   have z32 := z3 (i * 3 + 2)
   have HG3 := Lib.hid hg3
   have HSF := Lib.hid (HX.out.2 g eg').1
   have HBX := Lib.hid HX.out.1
   subst eg'
   have i0 : (0 : Int) ≤ (i : Int) := Int.natCast_nonneg i
   clear eg hlt z3 hg3
   go_upto_region 8 with fail
   obtain ⟨w7, e7⟩ : ∃ w7, w7 = (((wr.setCell ⟨g, i * 3, none⟩ (.int .i64 (-7))).setCell ⟨g, i * 3 + 1, none⟩ (.int .i64 0)).setCell ⟨g, i * 3 + 2, none⟩ (.string ⟨#[]⟩)) := ⟨_, rfl⟩
   rw [← e7]
   have HX7 := Lib.hid (show Below w3.heap.size w3 w7 ∧ SF w7 g fl.length from by
    rw [e7]
    exact ⟨below_set (below_set (below_set HBX.out HG3.out) HG3.out) HG3.out, ((HSF.out.set _ _).set _ _).set _ _⟩)
   clear e7 z0 z1 z2 z30 z31 z32 HX HBX HSF
   go_wp2_with fail
   go_roundg (fl.length - (i + 1))
   case measure => exact Nat.sub_lt_sub_left HLI.out (Nat.lt_succ_self _)
   case rel => exact ⟨i + 1, by first | rfl | rw [hwi], rfl, Lib.hid HLI.out, Lib.hid ⟨HX7.out.1, fun g' hg' => by
    have e : g = g' := by injection hg' with h; injection h
    subst e
    exact ⟨HX7.out.2, HG3.out⟩⟩⟩
  ·have hlt' : ¬ (i : Int) < (fl.length : Int) := by omega
   have HB7 := Lib.hid (below_step HB3.out HX.out.1)
   have HS7 := Lib.hid HX.out.1
   have HK1 := Lib.hid (cClose_is wr U1 c1 up A1 d1 l top (HLA.out.below HB7.out) (Kd.C_below HU3.out.2 HS7.out) HU3.out.1 (Kd.C_below HL3.out.2 HS7.out) HL3.out.1 HUS.out.1 HUS.out.2)
   clear hlt HX HI HR6 HS6 HFL HB4
   go_wp2_with fail
   refine HK1.out.mono ?_
   rintro _ w8 ⟨v8, o8, x8, f8, rfl, hr8, hx8, hb8, hz8, hc8⟩
   obtain ⟨A8, c8, rfl⟩ := Kd.R_slice hr8
   obtain ⟨X8, y8, rfl⟩ := Kd.R_slice hx8
   have HR8 := Lib.hid (And.intro hr8 hx8)
   have HZ8 := Lib.hid (And.intro hz8 hc8)
   have HB8 := Lib.hid (below_step HB7.out hb8)
   have HS8 := Lib.hid (below_step HS7.out hb8)
   have HK2 := Lib.hid (rClose_is w8 U cu up A c l top (Kd.C_below HU.out.1 HB8.out) HU.out.2 (Kd.C_below HL.out.1 HB8.out) HL.out.2 HUS.out.1 HUS.out.2)
   clear hr8 hx8 hz8 hc8 hb8 HK1 HB7 HS7
   go_wp2_with fail
   refine HK2.out.mono ?_
   rintro _ w9 ⟨v9, o9, x9, f9, rfl, hr9, hx9, hb9, hz9, hc9⟩
   obtain ⟨A9, c9, rfl⟩ := Kd.R_slice hr9
   obtain ⟨X9, y9, rfl⟩ := Kd.R_slice hx9
   have hoo : o8 = o9 ∧ f8 = f9 := by
    by_cases h : orderE up l top = 0
    ·have e1 := (HZ8.out.2 h).1.uniq (hc9 h).1
     exact ⟨e1, by rw [(HZ8.out.2 h).2, (hc9 h).2, e1]⟩
    ·exact ⟨by rw [(HZ8.out.1 h).1, (hz9 h).1], by rw [(HZ8.out.1 h).2, (hz9 h).2]⟩
   have hol : o8.length ≤ 1048576 ∧ f8.length ≤ 1048576 := by
    by_cases h : orderE up l top = 0
    ·have := (closed_fails h (HZ8.out.2 h).1).2
     have h2 := failsL_len l o8
     rw [← (HZ8.out.2 h).2] at h2
     omega
    ·rw [(HZ8.out.1 h).1, (HZ8.out.1 h).2]; simp
   obtain ⟨rfl, rfl⟩ := hoo
   have HOL := Lib.hid hol
   have HB9 := Lib.hid (below_step HB8.out hb9)
   have HS9 := Lib.hid (below_step HS8.out hb9)
   have HQ := Lib.hid (sameFail_is w9 X8 X9 y8 y9 f8 (Kd.R_reads' (Kd.R_below HR8.out.2 hb9)).2.2 (Kd.R_reads' hx9).2.2 hol.2)
   have HR9 := Lib.hid (And.intro (Kd.R_reads' (Kd.R_below HR8.out.1 hb9)).2 (Kd.R_reads' hr9).2)
   clear hr9 hx9 hb9 hz9 hc9 HK2 HZ8 HR8 HB8 HS8 hol
   generalize orderE up l top = oe at *
   have hcc : (oe == oe) = true := by simp
   go_wp2_with fail
   refine HQ.out.mono ?_
   rintro _ wa ⟨rfl, na, ea⟩
   have hba : Below w9.heap.size w9 wa := by rw [ea]; exact pw_below_drewN (Below.refl _ _) na
   have HBa := Lib.hid (below_step HB9.out hba)
   have HSa := Lib.hid (below_step HS9.out hba)
   have HQ2 := Lib.hid (same_is wa A8 A9 c8 c9 o8 o8 (Kd.C_below HR9.out.1.2 hba) HR9.out.1.1 (Kd.C_below HR9.out.2.2 hba) HR9.out.2.1 (by have := HOL.out.1; omega))
   rw [decide_eq_true rfl] at HQ2
   clear ea hba HQ HB9 HS9 HR9
   go_wp2_with fail
   refine HQ2.out.mono ?_
   rintro _ wb ⟨rfl, ⟨nb, eb⟩⟩
   have hbb : Below wa.heap.size wa wb := by rw [eb]; exact pw_below_drewN (Below.refl _ _) nb
   have HBb := Lib.hid (below_step HBa.out hbb)
   have HSb := Lib.hid (below_step HSa.out hbb)
   have HQ3 := Lib.hid (same_is wb U1 U c1 cu up up (Kd.C_below HU3.out.2 HSb.out) HU3.out.1 (Kd.C_below HU.out.1 HBb.out) HU.out.2 (by have := HNN.out.1; omega))
   rw [decide_eq_true rfl] at HQ3
   clear eb hbb HQ2 HBa HSa
   go_wp2_with fail
   refine HQ3.out.mono ?_
   rintro _ wc ⟨rfl, ⟨nc, ec⟩⟩
   have hbc : Below wb.heap.size wb wc := by rw [ec]; exact pw_below_drewN (Below.refl _ _) nc
   have HBc := Lib.hid (below_step HBb.out hbc)
   have HSc := Lib.hid (below_step HSb.out hbc)
   have HQ4 := Lib.hid (same_is wc O1 O e1 co od od (Kd.C_below HO3.out.2 HSc.out) HO3.out.1 (Kd.C_below HO.out.1 HBc.out) HO.out.2 (by have := HNN.out.2.2; omega))
   rw [decide_eq_true rfl] at HQ4
   clear ec hbc HQ3 HBb HSb
   go_wp2_with fail
   refine HQ4.out.mono ?_
   rintro _ wd ⟨rfl, ⟨nd, ed⟩⟩
   have hbd : Below wc.heap.size wc wd := by rw [ed]; exact pw_below_drewN (Below.refl _ _) nd
   have HBd := Lib.hid (below_step HBc.out hbd)
   have HSd := Lib.hid (below_step HSc.out hbd)
   have HQ5 := Lib.hid (samep_is wd A1 A d1 c l (Kd.C_below HL3.out.2 HSd.out) (Kd.C_below HL.out.1 HBd.out) HNN.out.2.1 (fun x hx => by have := HUS.out.1 x hx; omega))
   clear ed hbd HQ4 HBc HSc
   go_wp2_with fail
   refine HQ5.out.mono ?_
   rintro _ we ⟨rfl, ne, rfl⟩
   go_wp2_with fail
   go_ret
   exact ⟨rfl, HBd.out.trans (pw_below_drewN (Below.refl _ _) ne)⟩
end Go.Proofs.YtccjclmjoegibaaDoor.Ce
