/- CellOnce walked: whatever the acts, it tells true. -/
import Derived.Test.YtchbammjcnhkiaaDoorCq
import Derived.Deep.RegionHeld3
namespace Go.Proofs.YtchbammjcnhkiaaDoor.Ce
open Go.RowKit Go.Maps Go.Proofs.YtchbammjcnhkiaaDoor Go.Proofs.YtchbammjcnhkiaaDoorW.PrintWords Go.Proofs.YtchbammjcnhkiaaDoorW.PrintLast Go.Proofs.YtchbammjcnhkiaaDoorW.PrintMore PCellPlays
attribute [local go_sem] max2_int min2_int max_two min_two max_three min_three max_four min_four
structure OInv (s : Cel) (tk : Int) (rn : Bool) : Prop where
  run : (s.state == 2) = rn
  task : s.state = 2 → tk = s.task
set_option maxHeartbeats 4000000 in
set_option maxRecDepth 100000 in
theorem walk_once (w : World) (ag : Bool) (tr ba fa ca : Int) (A : Option Addr) (l : List ActV) (c : Nat) (hc : l.length ≤ c) (hr : Kd.C kact w A l.length l) (hok : ∀ x ∈ l, actOk x) (hla : Laid w) :
    Calls Tryd.prog 3 #[.agg #[.bool ag, .int .i64 tr, .int .i64 ba, .int .i64 fa, .int .i64 ca], .slice A l.length c] w fun e w' => e = .returned (.bool true) ∧ Below w.heap.size w w' := by
  have HR := Lib.hid hr
  have HOK := Lib.hid hok
  have HLA := Lib.hid hla
  have HM := Lib.hid (And.intro hr.2.1 hc)
  clear hr hok hla hc
  go_enter Tryd.func3, Tryd.ntmps3
  go_wp2_with fail
  refine (works_is _ (HLA.out.below ((Below.refl _ _).alloc (Nat.le_refl _) _))).mono ?_
  rintro _ w1 ⟨rfl, hb1⟩
  have kb := blk_below (blk_new w _) hb1
  have n0 := (blk_cell kb 0).trans rfl
  have n1 := (blk_cell kb 1).trans rfl
  have n2 := (blk_cell kb 2).trans rfl
  have n3 := (blk_cell kb 3).trans rfl
  have n4 := (blk_cell kb 4).trans rfl
  have HB1 := Lib.hid (below_via hb1)
  clear hb1 kb
  go_wp2_with fail
  by_cases hp : polOk tr ba fa ca
  rotate_left
  · refine (new_bad _ ag tr ba fa ca hp).mono ?_
    rintro _ w2 ⟨rfl, hb2⟩
    have HB2 := Lib.hid (below_step HB1.out hb2)
    clear hb2
    go_wp2_with fail
    go_ret
    exact ⟨rfl, HB2.out⟩
  refine (new_good _ ag tr ba fa ca hp).mono ?_
  rintro _ w2 ⟨b, rfl, h2, hb2, hbb⟩
  have HI := Lib.hid (show LInv w w2 b (freshC ag tr ba fa ca) [] [] from ⟨Nat.le_trans HB1.out.size hbb, Owns.nil h2, Well.fresh hp, below_step HB1.out hb2⟩)
  clear h2 hb2 hbb n0 n1 n2 n3 n4 hp
  go_wp2_with fail
  go_loopg [7, 8, 9, 10] l.length (fun gk v7 v8 v9 v10 wr => ∃ (i : Nat) (s : Cel) (tk : Int) (rn : Bool) (vl : List S80) (fl : List S64), v7 = .int .i64 s.gen ∧ v8 = .int .i64 tk ∧ v9 = .bool rn ∧ v10 = .int .i64 i ∧ gk = l.length - i ∧ i ≤ l.length ∧ Hid (LInv w wr b s vl fl) ∧ Hid (OInv s tk rn))
  case atStart => exact ⟨0, freshC ag tr ba fa ca, 0, false, [], [], rfl, rfl, rfl, rfl, by simp, by omega, HI, Lib.hid ⟨rfl, fun h => absurd (show (1 : Int) = 2 from h) (by decide)⟩⟩
  case round =>
    clear HI
    obtain ⟨i, s, tk, rn, vl, fl, rfl, rfl, rfl, rfl, rfl, hil, HI, HO⟩ := hrel
    by_cases hlt : i < l.length
    rotate_left
    · have hlt' : ¬ (i : Int) < (l.length : Int) := by omega
      go_wp2_with fail
      go_ret
      exact ⟨rfl, HI.out.bel⟩
    have hlt' : (i : Int) < (l.length : Int) := by omega
    obtain ⟨ad, Bv, cv, Bf, cf, rfl, p0, p1, p2, p3, p4, p5, hv1, hv2, hv3⟩ := act_at (Kd.C_below HR.out HI.out.bel) HOK.out i hlt
    generalize l[i] = a at p0 p1 p2 p3 p4 p5 hv1 hv2 hv3
    have HP := Lib.hid (show Put wr Bv Bf cv cf a.vl a.fl from ⟨hv1.2, hv1.1, hv3.1, hv2.2, hv2.1, hv3.2, HLA.out.below HI.out.bel⟩)
    have hwi : wrap64 ((i : Int) + 1) = ((i + 1 : Nat) : Int) := by
      have h9 : l.length ≤ maxLen := HM.out.1
      simp only [maxLen] at h9
      rw [← i64_w, IntWalk.i64_in _ (by omega)]; omega
    clear hv1 hv2 hv3
    go_wp2_with fail
    generalize hkr : amongB a.kind = kr
    have hk5 := hkr ▸ among_cases a.kind
    refine (among_be a.kind _ hkr).mono ?_
    rintro _ w3 ⟨rfl, m, rfl⟩
    clear hkr p0 p1 p2 p3 p4 p5
    have HX : ∃ w4 B, w4 = (wr.alloc (.cells #[.int .i64 a.kind, .int .i64 a.task, .int .i64 a.time, .int .i64 a.ok, .slice Bv a.vl.length cv, .slice Bf a.fl.length cf] 39)).drewN m ∧ B = wr.heap.size ∧ LInv w w4 b s vl fl ∧ w4.heap[B]? = some (.cells #[.int .i64 a.kind, .int .i64 a.task, .int .i64 a.time, .int .i64 a.ok, .slice Bv a.vl.length cv, .slice Bf a.fl.length cf] 39 (0, 0)) ∧ B ≠ b ∧ Put w4 Bv Bf cv cf a.vl a.fl :=
      ⟨_, _, rfl, rfl, (HI.out.alloc _).drewN m, blk_new wr _, by have := HI.out.own.lt; omega, HP.out.below (pw_below_drewN ((Below.refl _ _).alloc (Nat.le_refl _) _) m)⟩
    obtain ⟨w4, B, e4, eB, hI4, hbx, hBb, hp4⟩ := HX
    rw [← e4, ← eB]
    have HI4 := Lib.hid hI4
    have HBX := Lib.hid hbx
    have HBB := Lib.hid hBb
    have HP4 := Lib.hid hp4
    clear e4 eB hI4 hBb hp4 HI HP
    have q0 := (blk_cell hbx 0).trans rfl
    have q1 := (blk_cell hbx 1).trans rfl
    have q2 := (blk_cell hbx 2).trans rfl
    have q3 := (blk_cell hbx 3).trans rfl
    have q4 := (blk_cell hbx 4).trans rfl
    have q5 := (blk_cell hbx 5).trans rfl
    have hBl := blk_lt hbx
    clear hbx
    rcases hk5 with rfl | rfl | rfl | rfl | rfl
    case inl =>
      obtain ⟨r, e, s', vl', fl', hrel, hl1, hl2, hcall⟩ := lbegin HI4.out a.task a.time
      have HC := Lib.hid hcall
      clear hcall hl1 hl2
      go_wp2_with fail
      refine HC.out.mono ?_
      rintro _ w5 ⟨rfl, hI5, hc5⟩
      have HI5 := Lib.hid hI5
      have HBX5 := Lib.hid (blk_chg HBX.out hc5 HBB.out)
      clear HC hI5 hc5 q0 q1 q2 q3 q4 q5
      rcases hrel.2 with ⟨he, rfl, rfl⟩ | ⟨rfl, _, _, _, ha, hg, rfl, hs'⟩
      · have heb : (e != 0) = true := by simpa using he
        clear he hrel
        go_wp2_with fail
        refine (ltold_g HI5.out rfl).mono ?_
        rintro _ w9 ⟨rfl, h9, hb9⟩
        have HI9 := Lib.hid h9
        have hst9 := HO.out.run
        clear h9 hb9
        go_wp2_with fail
        go_roundg (l.length - (i + 1))
        case measure => omega
        case rel => exact ⟨i + 1, s', tk, rn, vl', fl', by first | rfl | rw [rfl], rfl, rfl, by first | rfl | rw [hwi], rfl, by omega, Lib.hid (HI9.out.alloc _), HO⟩
      · have hn2 : s.state ≠ 2 := ask_run ha
        have hrn : rn = false := by rw [← HO.out.run]; simpa using hn2
        subst hrn
        have hwg : wrap64 (s.gen + 1) = s.gen + 1 := by have := HI4.out.well.g0; rw [← i64_w, IntWalk.i64_in _ (by omega)]
        have HS' := Lib.hid hs'
        have HG := Lib.hid (show s'.gen = s.gen + 1 by rw [hs']; rfl)
        have HO5 := Lib.hid (show OInv s' a.task true from ⟨by rw [hs']; rfl, fun _ => by rw [hs']; rfl⟩)
        clear hrel ha hg hn2 hs'
        have q1 := (blk_cell HBX5.out 1).trans rfl
        go_wp2_with fail
        go_quiet (fail)
        go_wp2_with fail
        refine (ltold_g (Lib.hid (HI5.out.drewN _)).out HG.out).mono ?_
        rintro _ w9 ⟨rfl, h9, hb9⟩
        have HI9 := Lib.hid h9
        have hst9 := HO5.out.run
        clear h9 hb9
        go_wp2_with fail
        go_roundg (l.length - (i + 1))
        case measure => omega
        case rel => exact ⟨i + 1, s', a.task, true, vl', fl', by first | rfl | rw [HG.out], rfl, rfl, by first | rfl | rw [hwi], rfl, by omega, Lib.hid (HI9.out.alloc _), HO5⟩
    case inr.inl =>
      have HI4d := Lib.hid (HI4.out.drewN 1)
      have HP4d := Lib.hid (HP4.out.below (pw_below_drewN (Below.refl _ _) 1))
      clear q0
      go_wp2_with fail
      go_region_held3 (fun w' => w'.cell? ⟨B, 1, none⟩ = some (.int .i64 a.task) ∧ w'.cell? ⟨B, 2, none⟩ = some (.int .i64 a.time) ∧ w'.cell? ⟨B, 3, none⟩ = some (.int .i64 a.ok) ∧ w'.cell? ⟨B, 4, none⟩ = some (.slice Bv a.vl.length cv) ∧ w'.cell? ⟨B, 5, none⟩ = some (.slice Bf a.fl.length cf)) (first | exact ⟨f1, f2, f3, f4, f5⟩ | exact ⟨r1, r2, r3, r4, r5⟩ | exact ⟨q1, q2, q3, q4, q5⟩) (first | (go_at_call 12; refine (copy_out _ a.ok Bv Bf cv cf a.vl a.fl HP4d.out).mono ?_; rintro _ w5 ⟨A', B', c', d', rfl, hp5, -, -, hb5⟩; have HP5 := Lib.hid hp5; have HI5 := Lib.hid (HI4d.out.below hb5); have HBX5 := Lib.hid (blk_below (w := w4.drew) HBX.out hb5); clear hp5 hb5; have r1 := (blk_cell HBX5.out 1).trans rfl; have r2 := (blk_cell HBX5.out 2).trans rfl; have r3 := (blk_cell HBX5.out 3).trans rfl; have r4 := (blk_cell HBX5.out 4).trans rfl; have r5 := (blk_cell HBX5.out 5).trans rfl) | (go_at_call 11; obtain ⟨e, s', vl', fl', -, hrel, hcall⟩ := lend HI5.out a.task a.ok A' B' c' d' a.vl a.fl a.time HP5.out; refine hcall.mono ?_; rintro _ w6 ⟨rfl, hI6, hc6⟩; have HREL := Lib.hid hrel; have HI6 := Lib.hid hI6; have HBX6 := Lib.hid (blk_chg HBX5.out hc6 HBB.out); clear hrel hI6 hc6 hcall; have f1 := (blk_cell HBX6.out 1).trans rfl; have f2 := (blk_cell HBX6.out 2).trans rfl; have f3 := (blk_cell HBX6.out 3).trans rfl; have f4 := (blk_cell HBX6.out 4).trans rfl; have f5 := (blk_cell HBX6.out 5).trans rfl) | fail)
      clear q1 q2 q3 q4 q5 r1 r2 r3 r4 r5 f2 f3 f4 f5
      have HST := Lib.hid (show (e ≠ 0 ∧ s' = s) ∨ (e = 0 ∧ rn = true ∧ tk = a.task ∧ (s'.state == 2) = false ∧ s'.gen = s.gen) from by
        rcases HREL.out with ⟨h1, h2, _⟩ | ⟨h1, _, h3, _, _, rfl, _⟩
        · exact .inl ⟨h1, h2⟩
        · exact .inr ⟨h1, by rw [← HO.out.run, h3.1]; rfl, (HO.out.task h3.1).trans h3.2, endS_st _ _ _, endS_gen _ _ _⟩)
      clear HREL
      rcases HST.out with ⟨he, rfl⟩ | ⟨rfl, rfl, rfl, hs2, hg2⟩
      · have heb : (e == 0) = false := by simpa using he
        clear he HST
        go_wp2_with fail
        refine (ltold_g HI6.out rfl).mono ?_
        rintro _ w9 ⟨rfl, h9, hb9⟩
        have HI9 := Lib.hid h9
        have hst9 := HO.out.run
        clear h9 hb9
        go_wp2_with fail
        go_roundg (l.length - (i + 1))
        case measure => omega
        case rel => exact ⟨i + 1, s', tk, rn, vl', fl', by first | rfl | rw [rfl], rfl, rfl, by first | rfl | rw [hwi], rfl, by omega, Lib.hid (HI9.out.alloc _), HO⟩
      · have HG := Lib.hid hg2
        have HO5 := Lib.hid (show OInv s' a.task false from ⟨hs2, fun h => by rw [h] at hs2; exact absurd hs2 (by decide)⟩)
        clear HST hs2 hg2
        go_wp2_with fail
        refine (ltold_g HI6.out HG.out).mono ?_
        rintro _ w9 ⟨rfl, h9, hb9⟩
        have HI9 := Lib.hid h9
        have hst9 := HO5.out.run
        clear h9 hb9
        go_wp2_with fail
        go_roundg (l.length - (i + 1))
        case measure => omega
        case rel => exact ⟨i + 1, s', a.task, false, vl', fl', by first | rfl | rw [HG.out], rfl, rfl, by first | rfl | rw [hwi], rfl, by omega, Lib.hid (HI9.out.alloc _), HO5⟩
    case inr.inr.inl =>
      obtain ⟨e, s', vl', fl', -, hrel, hcall⟩ := lreset HI4.out a.time
      have HC := Lib.hid hcall
      clear hcall
      have HST := Lib.hid (show (e ≠ 0 ∧ s' = s) ∨ (e = 0 ∧ rn = false ∧ (s'.state == 2) = false ∧ s'.gen = s.gen) from by
        rcases hrel with ⟨h1, h2, _⟩ | ⟨h1, _, h3, _, rfl, _⟩
        · exact .inl ⟨h1, h2⟩
        · exact .inr ⟨h1, by rw [← HO.out.run]; simpa using h3.1, rfl, rfl⟩)
      clear hrel
      go_wp2_with fail
      refine HC.out.mono ?_
      rintro _ w5 ⟨rfl, hI5, hc5⟩
      have HI5 := Lib.hid hI5
      clear HC hI5 hc5 q0 q1 q2 q3 q4 q5
      rcases HST.out with ⟨he, rfl⟩ | ⟨rfl, rfl, hs2, hg2⟩
      · have heb : (e == 0) = false := by simpa using he
        clear he HST
        go_wp2_with fail
        refine (ltold_g HI5.out rfl).mono ?_
        rintro _ w9 ⟨rfl, h9, hb9⟩
        have HI9 := Lib.hid h9
        have hst9 := HO.out.run
        clear h9 hb9
        go_wp2_with fail
        go_roundg (l.length - (i + 1))
        case measure => omega
        case rel => exact ⟨i + 1, s', tk, rn, vl', fl', by first | rfl | rw [rfl], rfl, rfl, by first | rfl | rw [hwi], rfl, by omega, Lib.hid (HI9.out.alloc _), HO⟩
      · have HG := Lib.hid hg2
        have HO5 := Lib.hid (show OInv s' tk false from ⟨hs2, fun h => by rw [h] at hs2; exact absurd hs2 (by decide)⟩)
        clear HST hs2 hg2
        go_wp2_with fail
        refine (ltold_g HI5.out HG.out).mono ?_
        rintro _ w9 ⟨rfl, h9, hb9⟩
        have HI9 := Lib.hid h9
        have hst9 := HO5.out.run
        clear h9 hb9
        go_wp2_with fail
        go_roundg (l.length - (i + 1))
        case measure => omega
        case rel => exact ⟨i + 1, s', tk, false, vl', fl', by first | rfl | rw [HG.out], rfl, rfl, by first | rfl | rw [hwi], rfl, by omega, Lib.hid (HI9.out.alloc _), HO5⟩
    case inr.inr.inr.inl =>
      obtain ⟨e, s', -, hrel, hcall⟩ := lclose HI4.out
      have HC := Lib.hid hcall
      clear hcall
      have HST := Lib.hid (show (e ≠ 0 ∧ s' = s) ∨ (e = 0 ∧ rn = false ∧ (s'.state == 2) = false ∧ s'.gen = s.gen) from by
        rcases hrel with ⟨h1, h2⟩ | ⟨h1, h3, rfl⟩
        · exact .inl ⟨h1, h2⟩
        · exact .inr ⟨h1, by rw [← HO.out.run]; simpa using h3.1, rfl, rfl⟩)
      clear hrel
      go_wp2_with fail
      refine HC.out.mono ?_
      rintro _ w5 ⟨rfl, hI5, hc5⟩
      have HI5 := Lib.hid hI5
      clear HC hI5 hc5 q0 q1 q2 q3 q4 q5
      rcases HST.out with ⟨he, rfl⟩ | ⟨rfl, rfl, hs2, hg2⟩
      · have heb : (e == 0) = false := by simpa using he
        clear he HST
        go_wp2_with fail
        refine (ltold_g HI5.out rfl).mono ?_
        rintro _ w9 ⟨rfl, h9, hb9⟩
        have HI9 := Lib.hid h9
        have hst9 := HO.out.run
        clear h9 hb9
        go_wp2_with fail
        go_roundg (l.length - (i + 1))
        case measure => omega
        case rel => exact ⟨i + 1, s', tk, rn, vl, fl, by first | rfl | rw [rfl], rfl, rfl, by first | rfl | rw [hwi], rfl, by omega, Lib.hid (HI9.out.alloc _), HO⟩
      · have HG := Lib.hid hg2
        have HO5 := Lib.hid (show OInv s' tk false from ⟨hs2, fun h => by rw [h] at hs2; exact absurd hs2 (by decide)⟩)
        clear HST hs2 hg2
        go_wp2_with fail
        refine (ltold_g HI5.out HG.out).mono ?_
        rintro _ w9 ⟨rfl, h9, hb9⟩
        have HI9 := Lib.hid h9
        have hst9 := HO5.out.run
        clear h9 hb9
        go_wp2_with fail
        go_roundg (l.length - (i + 1))
        case measure => omega
        case rel => exact ⟨i + 1, s', tk, false, vl, fl, by first | rfl | rw [HG.out], rfl, rfl, by first | rfl | rw [hwi], rfl, by omega, Lib.hid (HI9.out.alloc _), HO5⟩
    case inr.inr.inr.inr =>
      go_wp2_with fail
      refine (ltold_g HI4.out rfl).mono ?_
      rintro _ w9 ⟨rfl, h9, hb9⟩
      have HI9 := Lib.hid h9
      have hst9 := HO.out.run
      clear h9 hb9
      go_wp2_with fail
      go_roundg (l.length - (i + 1))
      case measure => omega
      case rel => exact ⟨i + 1, s, tk, rn, vl, fl, by first | rfl | rw [rfl], rfl, rfl, by first | rfl | rw [hwi], rfl, by omega, Lib.hid (HI9.out.alloc _), HO⟩
end Go.Proofs.YtchbammjcnhkiaaDoor.Ce
