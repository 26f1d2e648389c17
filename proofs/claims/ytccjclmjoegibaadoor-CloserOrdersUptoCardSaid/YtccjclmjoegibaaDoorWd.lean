/- Whether scopes and parts are right, who is beneath, in which order they are closed: the walk of CloserOrders. -/
import Derived.Test.YtccjclmjoegibaaDoorRo
import Derived.Test.YtccjclmjoegibaaDoorSm
import Derived.Test.YtccjclmjoegibaaDoorWk
namespace Go.Proofs.YtccjclmjoegibaaDoor.Ce
open Go.RowKit Go.Maps Go.Proofs.YtccjclmjoegibaaDoor Go.Proofs.YtccjclmjoegibaaDoorW.PrintWords Go.Proofs.YtccjclmjoegibaaDoorW.PrintLast Go.Proofs.YtccjclmjoegibaaDoorW.PrintMore PCloserOrders Hp
attribute [local go_sem] max2_int min2_int max_two min_two max_three min_three max_four min_four
set_option linter.unusedVariables false
set_option linter.unusedSimpArgs false
theorem Found.same {l : List S33} {M N : List (List Bool)} (F : Found l M) (G : Found l N) (a b : Int) (a0 : 0 ≤ a) (a1 : a < l.length) (b0 : 0 ≤ b) (b1 : b < l.length) : relP M a b = relP N a b := by
  have h1 : rdOf false (rd_L6 M a) b = rdOf false (rd_L6 N a) b := by
    have := (F.is a b a0 a1 b0 b1).trans (G.is a b a0 a1 b0 b1).symm
    exact Bool.eq_iff_iff.2 this
  have h2 : rdOf false (rd_L6 M b) a = rdOf false (rd_L6 N b) a := by
    have := (F.is b a b0 b1 a0 a1).trans (G.is b a b0 b1 a0 a1).symm
    exact Bool.eq_iff_iff.2 this
  unfold relP
  rw [h1, h2]
theorem ClosedAs.uniq {up : List Int} {l : List S33} {top : Int} {a b : List Int} (A : ClosedAs up l top a) (B : ClosedAs up l top b) : a = b := by
  obtain ⟨bs, outs, M, hB, hF, hL, rfl, hg⟩ := A.ex
  obtain ⟨bt, outt, N, hB', hF', hL', rfl, hg'⟩ := B.ex
  obtain rfl := hB.uniq hB'
  refine congrArg List.flatten (List.ext_getElem (by omega) (fun j h1 h2 => ?_))
  have e1 := hg j (bs[j]'(by omega)) _ (List.getElem?_eq_getElem (by omega)) (List.getElem?_eq_getElem h1)
  have e2 := hg' j (bs[j]'(by omega)) _ (List.getElem?_eq_getElem (by omega)) (List.getElem?_eq_getElem h2)
  refine Good.uniq (ahead_tot l) e1 (Good.congr (fun x hx y hy => ?_) e2)
  have h3 := (allF_mem l _ x _).1 hx
  have h4 := (allF_mem l _ y _).1 hy
  exact (hF'.same hF x y h3.1 h3.2.1 h4.1 h4.2.1)
theorem OrdPost.len {w w' : World} {up : List Int} {l : List S33} {top : Int} {o : List Int} (hl : l.length ≤ 256) (hu : up.length ≤ 32) (C : ClosedAs up l top o) : o.length ≤ 8192 := by
  obtain ⟨bs, outs, M, hB, hF, hL, rfl, hg⟩ := C.ex
  have := flat_len outs (fun q hq => by
    obtain ⟨t, ht, e⟩ := List.mem_iff_getElem.1 hq
    have hg2 := hg t (bs[t]'(by omega)) q (List.getElem?_eq_getElem (by omega)) (by rw [List.getElem?_eq_getElem ht, e])
    have h5 := Good.len hg2
    have h6 := allF_len l (bs[t]'(by omega)) l.length
    omega)
  have := hB.len
  omega
theorem order_ok {up : List Int} {l : List S33} {top : Int} (h : orderE up l top = 0) : up.length ≤ 32 ∧ l.length ≤ 256 := by
  unfold orderE at h
  by_cases h1 : checkE up l ≠ 0
  · rw [if_pos h1] at h; exact absurd h h1
  · have := check_ok up l (Classical.not_not.1 h1)
    exact ⟨this.2.1, this.2.2.1⟩
set_option maxHeartbeats 4000000 in
set_option maxRecDepth 100000 in
theorem walk_corders (w : World) (U : Option Addr) (cu : Nat) (up : List Int) (A : Option Addr) (c : Nat) (l : List S33) (top : Int) (hla : Laid w) (hu : Kd.C (Kd.int .i64) w U up.length up) (hcu : up.length ≤ cu) (hun : up.length ≤ 1048576) (hl : Kd.C k33 w A l.length l) (hc : l.length ≤ c) (hus : ∀ x ∈ l, x.f4.length ≤ 1048576) (ht : unS l [] l.length ≤ 1048576) (hln : l.length ≤ 1048576) :
    Calls Tryd.prog 5 #[.slice U up.length cu, .slice A l.length c, .int .i64 top] w fun e w' => e = .returned (.bool true) ∧ Below w.heap.size w w' := by
  have HC1 := Lib.hid (copyInts_is w U cu up hu hcu hun)
  have HU := Lib.hid (And.intro hu hcu)
  have HL := Lib.hid (And.intro hl hc)
  have HUS := Lib.hid (And.intro hus ht)
  have HLA := Lib.hid hla
  have HNN := Lib.hid (And.intro hun hln)
  clear hla hu hcu hun hl hc hus ht hln
  go_enter Tryd.func5, Tryd.ntmps5
  go_wp2_with fail
  refine HC1.out.mono ?_
  rintro _ w1 ⟨v1, rfl, hr1, hb1⟩
  obtain ⟨U1, c1, rfl⟩ := Kd.R_slice hr1
  have HR1 := Lib.hid hr1
  have HB1 := Lib.hid hb1
  have HC2 := Lib.hid (copied_is w1 A c l (Kd.C_below HL.out.1 hb1) HL.out.2 HNN.out.2 HUS.out.1)
  clear hr1 hb1 HC1
  go_wp2_with fail
  refine HC2.out.mono ?_
  rintro _ w2 ⟨v2, rfl, hr2, hb2⟩
  obtain ⟨A1, d1, rfl⟩ := Kd.R_slice hr2
  have HU2 := Lib.hid (Kd.R_reads' (Kd.R_below HR1.out hb2)).2
  have HL2 := Lib.hid (Kd.R_reads' hr2).2
  have HB2 := Lib.hid (below_step HB1.out hb2)
  have HK := Lib.hid (check_is w2 U1 c1 up A1 d1 l (HLA.out.below HB2.out) HU2.out.2 HU2.out.1 HL2.out.2 HL2.out.1 HUS.out.1)
  clear hr2 hb2 HC2 HR1 HB1
  go_wp2_with fail
  refine HK.out.mono ?_
  rintro _ w3 ⟨rfl, hb3⟩
  have HB3 := Lib.hid (below_step HB2.out hb3)
  have HS3 := Lib.hid hb3
  have HK2 := Lib.hid (rcheck_is w3 U cu up A c l (Kd.C_below HU.out.1 HB3.out) HU.out.2 (Kd.C_below HL.out.1 HB3.out) HL.out.2 HUS.out.1)
  clear hb3 HK HB2
  generalize checkE up l = ce at *
  go_wp2_with fail
  refine HK2.out.mono ?_
  rintro _ w4 ⟨rfl, hb4⟩
  have HB4 := Lib.hid (below_step HB3.out hb4)
  have HS4 := Lib.hid (below_step HS3.out hb4)
  have HN1 := Lib.hid (cBeneath_is w4 U1 c1 up top (Kd.C_below HU2.out.2 HS4.out) HU2.out.1)
  clear hb4 HK2 HB3 HS3
  have hcc : (ce != ce) = false := by simp
  go_wp2_with fail
  clear hcc
  refine HN1.out.mono ?_
  rintro _ w5 ⟨v5, r5, rfl, hr5, hb5, hz5, ho5⟩
  obtain ⟨A5, c5, rfl⟩ := Kd.R_slice hr5
  have HR5 := Lib.hid hr5
  have HB5 := Lib.hid (below_step HB4.out hb5)
  have HS5 := Lib.hid (below_step HS4.out hb5)
  have HZ5 := Lib.hid hz5
  have HO5 := Lib.hid ho5
  have HN2 := Lib.hid (rBeneath_is w5 U cu up top (Kd.C_below HU.out.1 HB5.out) HU.out.2)
  clear hr5 hb5 hz5 ho5 HN1 HB4 HS4
  go_wp2_with fail
  refine HN2.out.mono ?_
  rintro _ w6 ⟨v6, r6, rfl, hr6, hb6, hz6, ho6⟩
  obtain ⟨A6, c6, rfl⟩ := Kd.R_slice hr6
  have hrr : r5 = r6 := by
    by_cases h : benE up top = 0
    · exact (HO5.out h).uniq (ho6 h)
    · rw [HZ5.out h, hz6 h]
  have hrl : r5.length ≤ 1048576 := by
    by_cases h : benE up top = 0
    · have := (HO5.out h).len; have := HNN.out.1; omega
    · rw [HZ5.out h]; simp
  subst hrr
  have HB6 := Lib.hid (below_step HB5.out hb6)
  have HS6 := Lib.hid (below_step HS5.out hb6)
  have HQ1 := Lib.hid (same_is w6 A5 A6 c5 c6 r5 r5 (Kd.R_reads' (Kd.R_below HR5.out hb6)).2.2 (Kd.R_reads' HR5.out).2.1 (Kd.R_reads' hr6).2.2 (Kd.R_reads' hr6).2.1 (by omega))
  rw [decide_eq_true rfl] at HQ1
  clear hr6 hb6 hz6 ho6 HN2 HZ5 HO5 HR5 HB5 HS5 hrl
  generalize benE up top = be at *
  have hcc : (be != be) = false := by simp
  go_wp2_with fail
  refine HQ1.out.mono ?_
  rintro _ w7 ⟨rfl, ⟨n7, rfl⟩⟩
  have HD7 := Lib.hid (pw_below_drewN (Below.refl w6.heap.size w6) n7)
  obtain ⟨w7, e7⟩ : ∃ w7, w7 = w6.drewN n7 := ⟨_, rfl⟩
  rw [← e7] at HD7 ⊢
  have HB7 := Lib.hid (below_step HB6.out HD7.out)
  have HS7 := Lib.hid (below_step HS6.out HD7.out)
  have HO8 := Lib.hid (Order_is w7 U1 c1 up A1 d1 l top (HLA.out.below HB7.out) (Kd.C_below HU2.out.2 HS7.out) HU2.out.1 (Kd.C_below HL2.out.2 HS7.out) HL2.out.1 HUS.out.1 HUS.out.2)
  clear e7 HQ1 HB6 HS6 HD7 hcc
  go_wp2_with fail
  refine HO8.out.mono ?_
  rintro _ w8 ⟨v8, o8, rfl, hr8, hb8, hz8, hc8⟩
  obtain ⟨A8, c8, rfl⟩ := Kd.R_slice hr8
  have HR8 := Lib.hid hr8
  have HZ8 := Lib.hid (And.intro hz8 hc8)
  have HB8 := Lib.hid (below_step HB7.out hb8)
  have HS8 := Lib.hid (below_step HS7.out hb8)
  have HO9 := Lib.hid (rOrder_is w8 U cu up A c l top (Kd.C_below HU.out.1 HB8.out) HU.out.2 (Kd.C_below HL.out.1 HB8.out) HL.out.2 HUS.out.1 HUS.out.2)
  clear hr8 hz8 hc8 hb8 HO8 HB7 HS7
  go_wp2_with fail
  refine HO9.out.mono ?_
  rintro _ w9 ⟨v9, o9, rfl, hr9, hb9, hz9, hc9⟩
  obtain ⟨A9, c9, rfl⟩ := Kd.R_slice hr9
  have hoo : o8 = o9 := by
    by_cases h : orderE up l top = 0
    · exact (HZ8.out.2 h).uniq (hc9 h)
    · rw [(HZ8.out.1 h).2, (hz9 h).2]
  have hol : o8.length ≤ 1048576 := by
    by_cases h : orderE up l top = 0
    · obtain ⟨z1, z2⟩ := order_ok h
      have := OrdPost.len (w := w) (w' := w) z2 z1 (HZ8.out.2 h)
      omega
    · rw [(HZ8.out.1 h).2]; simp
  subst hoo
  have HB9 := Lib.hid (below_step HB8.out hb9)
  have HS9 := Lib.hid (below_step HS8.out hb9)
  have HQ1 := Lib.hid (same_is w9 A8 A9 c8 c9 o8 o8 (Kd.R_reads' (Kd.R_below HR8.out hb9)).2.2 (Kd.R_reads' HR8.out).2.1 (Kd.R_reads' hr9).2.2 (Kd.R_reads' hr9).2.1 (by omega))
  rw [decide_eq_true rfl] at HQ1
  clear hr9 hb9 hz9 hc9 HO9 HZ8 HR8 HB8 HS8 hol
  generalize orderE up l top = oe at *
  have hcc : (oe == oe) = true := by simp
  go_wp2_with fail
  refine HQ1.out.mono ?_
  rintro _ wa ⟨rfl, ⟨na, rfl⟩⟩
  have HDa := Lib.hid (pw_below_drewN (Below.refl w9.heap.size w9) na)
  obtain ⟨wa, ea⟩ : ∃ wa, wa = w9.drewN na := ⟨_, rfl⟩
  rw [← ea] at HDa ⊢
  have HBa := Lib.hid (below_step HB9.out HDa.out)
  have HSa := Lib.hid (below_step HS9.out HDa.out)
  have HQ2 := Lib.hid (same_is wa U1 U c1 cu up up (Kd.C_below HU2.out.2 HSa.out) HU2.out.1 (Kd.C_below HU.out.1 HBa.out) HU.out.2 (by have := HNN.out.1; omega))
  rw [decide_eq_true rfl] at HQ2
  clear ea HQ1 HB9 HS9 HDa
  go_wp2_with fail
  refine HQ2.out.mono ?_
  rintro _ wb ⟨rfl, ⟨nb, rfl⟩⟩
  have HDb := Lib.hid (pw_below_drewN (Below.refl wa.heap.size wa) nb)
  obtain ⟨wb, eb⟩ : ∃ wb, wb = wa.drewN nb := ⟨_, rfl⟩
  rw [← eb] at HDb ⊢
  have HBb := Lib.hid (below_step HBa.out HDb.out)
  have HSb := Lib.hid (below_step HSa.out HDb.out)
  have HQ3 := Lib.hid (samep_is wb A1 A d1 c l (Kd.C_below HL2.out.2 HSb.out) (Kd.C_below HL.out.1 HBb.out) HNN.out.2 (fun x hx => by have := HUS.out.1 x hx; omega))
  clear eb HQ2 HBa HSa HDb
  go_wp2_with fail
  refine HQ3.out.mono ?_
  rintro _ wc ⟨rfl, nc, rfl⟩
  go_wp2_with fail
  go_ret
  exact ⟨rfl, HBb.out.trans (pw_below_drewN (Below.refl _ _) nc)⟩
end Go.Proofs.YtccjclmjoegibaaDoor.Ce
