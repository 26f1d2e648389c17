/- CellBounds walked: whatever the acts, it tells true. -/
import Derived.Test.YtchbammjcnhkiaaDoorCr
import Derived.Deep.RegionHeld3
import Derived.Deep.DeepCutAuto
import Derived.Deep.CutBlock
namespace Go.Proofs.YtchbammjcnhkiaaDoor.Ce
open Go.RowKit Go.Maps Go.Proofs.YtchbammjcnhkiaaDoor Go.Proofs.YtchbammjcnhkiaaDoorW.PrintWords Go.Proofs.YtchbammjcnhkiaaDoorW.PrintLast Go.Proofs.YtchbammjcnhkiaaDoorW.PrintMore PCellPlays
attribute [local go_sem] max2_int min2_int max_two min_two max_three min_three max_four min_four
/-- When a cell is due again, against its last end. -/
structure Due (s : Cel) (e tr ca : Int) : Prop where
  e0 : 0 ≤ e
  e1 : e ≤ 1099511627776
  due : s.next ≠ 0 → e ≤ s.next ∧ s.next ≤ 1099511627776 ∧ s.next - e ≤ ca
  run : s.state = 2 → s.next = 0
  tries : s.tries = tr
  cap : s.cap = ca
theorem Due.ended {s : Cel} {e tr ca k t : Int} (h : Due s e tr ca) (hw : Well s) (hs : s.state = 2) (hn : nowB s t = true) : Due (endS s k t) t tr ca := by
  have hk := now_ok hn
  have hz := h.run hs
  unfold endS
  split
  · exact ⟨hk.1, hk.2, fun hne => absurd hz hne, fun _ => hz, h.tries, h.cap⟩
  · split
    · rename_i hm
      have hpol : Pol (failC s k t) := by
        have h2 : Pol s := hw.pols (by unfold mayB failC at hm; simp at hm; omega)
        exact ⟨h2.b0, h2.b1, h2.c1, h2.f0, h2.f1⟩
      have h1 := pause_low hpol (s.fails + 1)
      have h2 : pauseB (failC s k t) (s.fails + 1) ≤ s.cap := pause_high hpol (s.fails + 1)
      have h3 := h.cap
      have h4 := hk.1
      have h5 := hk.2
      refine ⟨hk.1, hk.2, fun _ => ?_, fun h9 => absurd (show (4 : Int) = 2 from h9) (by decide), h.tries, h.cap⟩
      show t ≤ min (t + pauseB (failC s k t) (s.fails + 1)) 1099511627776 ∧ min (t + pauseB (failC s k t) (s.fails + 1)) 1099511627776 ≤ 1099511627776 ∧ min (t + pauseB (failC s k t) (s.fails + 1)) 1099511627776 - t ≤ ca
      omega
    · exact ⟨hk.1, hk.2, fun hne => absurd hz hne, fun _ => hz, h.tries, h.cap⟩
theorem Due.zero {s s' : Cel} {e tr ca : Int} (h : Due s e tr ca) (hz : s'.next = 0) (ht : s'.tries = s.tries) (hc : s'.cap = s.cap) : Due s' e tr ca :=
  ⟨h.e0, h.e1, fun hne => absurd hz hne, fun _ => hz, ht.trans h.tries, hc.trans h.cap⟩
set_option maxHeartbeats 8000000 in
set_option maxRecDepth 100000 in
theorem walk_bounds (w : World) (ag : Bool) (tr ba fa ca : Int) (A : Option Addr) (l : List ActV) (c : Nat) (hc : l.length ≤ c) (hr : Kd.C kact w A l.length l) (hok : ∀ x ∈ l, actOk x) (hla : Laid w) :
    Calls Tryd.prog 4 #[.agg #[.bool ag, .int .i64 tr, .int .i64 ba, .int .i64 fa, .int .i64 ca], .slice A l.length c] w fun e w' => e = .returned (.bool true) ∧ Below w.heap.size w w' := by
  have HR := Lib.hid hr
  have HOK := Lib.hid hok
  have HLA := Lib.hid hla
  have HM := Lib.hid (And.intro hr.2.1 hc)
  clear hr hok hla hc
  go_enter Tryd.func4, Tryd.ntmps4
  go_wp2_with fail
  refine (works_is _ (HLA.out.below ((Below.refl _ _).alloc (Nat.le_refl _) _))).mono ?_
  rintro _ w1 ⟨rfl, hb1⟩
  have kb := blk_below (blk_new w _) hb1
  have HN1 := Lib.hid kb
  have hw1 : w.heap.size < w1.heap.size := blk_lt kb
  have n0 := (blk_cell kb 0).trans rfl
  have n1 := (blk_cell kb 1).trans rfl
  have n2 := (blk_cell kb 2).trans rfl
  have n3 := (blk_cell kb 3).trans rfl
  have n4 := (blk_cell kb 4).trans rfl
  have HB1 := Lib.hid (below_via hb1)
  clear hb1 kb
  go_wp2_with fail
  by_cases hp : polOk tr ba fa ca
  rotate_left
  · refine (new_bad _ ag tr ba fa ca hp).mono ?_
    rintro _ w2 ⟨rfl, hb2⟩
    have HB2 := Lib.hid (below_step HB1.out hb2)
    clear hb2
    go_wp2_with fail
    go_ret
    exact ⟨rfl, HB2.out⟩
  refine (new_good _ ag tr ba fa ca hp).mono ?_
  rintro _ w2 ⟨b, rfl, h2, hb2, hbb⟩
  have HI := Lib.hid (show LInv w w2 b (freshC ag tr ba fa ca) [] [] from ⟨Nat.le_trans HB1.out.size hbb, Owns.nil h2, Well.fresh hp, below_step HB1.out hb2⟩)
  have HN := Lib.hid (show NBk w w2 b ag tr ba fa ca from ⟨Nat.lt_of_lt_of_le hw1 hbb, blk_below HN1.out hb2⟩)
  have HPO := Lib.hid hp
  clear h2 hb2 hbb n0 n1 n2 n3 n4 hp hw1 HN1
  go_wp2_with fail
  go_loopg [7, 8] l.length (fun gk v7 v8 wr => ∃ (i : Nat) (s : Cel) (e : Int) (vl : List S80) (fl : List S64), v7 = .int .i64 e ∧ v8 = .int .i64 i ∧ gk = l.length - i ∧ i ≤ l.length ∧ Hid (LInv w wr b s vl fl) ∧ Hid (Due s e tr ca) ∧ Hid (NBk w wr b ag tr ba fa ca))
  case atStart => exact ⟨0, freshC ag tr ba fa ca, 0, [], [], rfl, rfl, by simp, by omega, HI, Lib.hid ⟨Int.le_refl _, by decide, fun h => absurd rfl h, fun _ => rfl, rfl, rfl⟩, HN⟩
  case round =>
    clear HI HN
    obtain ⟨i, s, e0, vl, fl, rfl, rfl, rfl, hil, HI, HD, HN⟩ := hrel
    by_cases hlt : i < l.length
    rotate_left
    · have hlt' : ¬ (i : Int) < (l.length : Int) := by omega
      go_wp2_with fail
      go_ret
      exact ⟨rfl, HI.out.bel⟩
    have hlt' : (i : Int) < (l.length : Int) := by omega
    obtain ⟨ad, Bv, cv, Bf, cf, rfl, p0, p1, p2, p3, p4, p5, hv1, hv2, hv3⟩ := act_at (Kd.C_below HR.out HI.out.bel) HOK.out i hlt
    generalize l[i] = a at p0 p1 p2 p3 p4 p5 hv1 hv2 hv3
    have HP := Lib.hid (show Put wr Bv Bf cv cf a.vl a.fl from ⟨hv1.2, hv1.1, hv3.1, hv2.2, hv2.1, hv3.2, HLA.out.below HI.out.bel⟩)
    have hwi : wrap64 ((i : Int) + 1) = ((i + 1 : Nat) : Int) := by
      have h9 : l.length ≤ maxLen := HM.out.1
      simp only [maxLen] at h9
      rw [← i64_w, IntWalk.i64_in _ (by omega)]; omega
    clear hv1 hv2 hv3
    go_wp2_with fail
    generalize hkr : amongB a.kind = kr
    have hk5 := hkr ▸ among_cases a.kind
    refine (among_be a.kind _ hkr).mono ?_
    rintro _ w3 ⟨rfl, m, rfl⟩
    clear hkr p0 p1 p2 p3 p4 p5
    have HX : ∃ w4 B, w4 = (wr.alloc (.cells #[.int .i64 a.kind, .int .i64 a.task, .int .i64 a.time, .int .i64 a.ok, .slice Bv a.vl.length cv, .slice Bf a.fl.length cf] 39)).drewN m ∧ B = wr.heap.size ∧ LInv w w4 b s vl fl ∧ w4.heap[B]? = some (.cells #[.int .i64 a.kind, .int .i64 a.task, .int .i64 a.time, .int .i64 a.ok, .slice Bv a.vl.length cv, .slice Bf a.fl.length cf] 39 (0, 0)) ∧ B ≠ b ∧ Put w4 Bv Bf cv cf a.vl a.fl ∧ NBk w w4 b ag tr ba fa ca :=
      ⟨_, _, rfl, rfl, (HI.out.alloc _).drewN m, blk_new wr _, by have := HI.out.own.lt; omega, HP.out.below (pw_below_drewN ((Below.refl _ _).alloc (Nat.le_refl _) _) m), HN.out.below (pw_below_drewN ((Below.refl _ _).alloc (Nat.le_refl _) _) m)⟩
    obtain ⟨w4, B, e4, eB, hI4, hbx, hBb, hp4, hn4⟩ := HX
    rw [← e4, ← eB]
    have HI4 := Lib.hid hI4
    have HBX := Lib.hid hbx
    have HBB := Lib.hid hBb
    have HP4 := Lib.hid hp4
    have HN4 := Lib.hid hn4
    clear e4 eB hI4 hBb hp4 hn4 HI HP HN
    have q0 := (blk_cell hbx 0).trans rfl
    have q1 := (blk_cell hbx 1).trans rfl
    have q2 := (blk_cell hbx 2).trans rfl
    have q3 := (blk_cell hbx 3).trans rfl
    have q4 := (blk_cell hbx 4).trans rfl
    have q5 := (blk_cell hbx 5).trans rfl
    have hBl := blk_lt hbx
    clear hbx
    go_upto_block 2 with fail
    go_cut [7] (fun v7 wx => ∃ (s' : Cel) (e' : Int) (vl' : List S80) (fl' : List S64), v7 = .int .i64 e' ∧ Hid (LInv w wx b s' vl' fl') ∧ Hid (Due s' e' tr ca) ∧ Hid (NBk w wx b ag tr ba fa ca))
    case first =>
      rcases hk5 with rfl | rfl | rfl | rfl | rfl
      case inl =>
        obtain ⟨r, e, s', vl', fl', hrel, hl1, hl2, hcall⟩ := lbegin HI4.out a.task a.time
        have HC := Lib.hid hcall
        have HD' := Lib.hid (show Due s' e0 tr ca from by
          rcases hrel.2 with ⟨_, _, rfl⟩ | ⟨_, _, _, _, _, _, _, rfl⟩
          · exact HD.out
          · exact HD.out.zero rfl rfl rfl)
        clear hcall hl1 hl2 hrel
        go_wp2_with fail
        refine HC.out.mono ?_
        rintro _ w5 ⟨rfl, hI5, hc5⟩
        have HI5 := Lib.hid hI5
        have HN5 := Lib.hid (HN4.out.chg hc5)
        clear HC hI5 hc5 q0 q1 q2 q3 q4 q5
        go_wp2_with fail
        go_meet
        case rel => exact ⟨s', e0, vl', fl', rfl, HI5, HD', HN5⟩
      case inr.inl =>
        have HI4d := Lib.hid (HI4.out.drewN 1)
        have HP4d := Lib.hid (HP4.out.below (pw_below_drewN (Below.refl _ _) 1))
        have HN4d := Lib.hid (HN4.out.below (pw_below_drewN (Below.refl _ _) 1))
        clear q0
        go_wp2_with fail
        go_region_held3 (fun w' => w'.cell? ⟨B, 1, none⟩ = some (.int .i64 a.task) ∧ w'.cell? ⟨B, 2, none⟩ = some (.int .i64 a.time) ∧ w'.cell? ⟨B, 3, none⟩ = some (.int .i64 a.ok) ∧ w'.cell? ⟨B, 4, none⟩ = some (.slice Bv a.vl.length cv) ∧ w'.cell? ⟨B, 5, none⟩ = some (.slice Bf a.fl.length cf)) (first | exact ⟨f1, f2, f3, f4, f5⟩ | exact ⟨r1, r2, r3, r4, r5⟩ | exact ⟨q1, q2, q3, q4, q5⟩) (first | (go_at_call 12; refine (copy_out _ a.ok Bv Bf cv cf a.vl a.fl HP4d.out).mono ?_; rintro _ w5 ⟨A', B', c', d', rfl, hp5, -, -, hb5⟩; have HP5 := Lib.hid hp5; have HI5 := Lib.hid (HI4d.out.below hb5); have HN5 := Lib.hid (HN4d.out.below hb5); have HBX5 := Lib.hid (blk_below (w := w4.drew) HBX.out hb5); clear hp5 hb5; have r1 := (blk_cell HBX5.out 1).trans rfl; have r2 := (blk_cell HBX5.out 2).trans rfl; have r3 := (blk_cell HBX5.out 3).trans rfl; have r4 := (blk_cell HBX5.out 4).trans rfl; have r5 := (blk_cell HBX5.out 5).trans rfl) | (go_at_call 11; obtain ⟨e, s', vl', fl', -, hrel, hcall⟩ := lend HI5.out a.task a.ok A' B' c' d' a.vl a.fl a.time HP5.out; refine hcall.mono ?_; rintro _ w6 ⟨rfl, hI6, hc6⟩; have HREL := Lib.hid hrel; have HI6 := Lib.hid hI6; have HN6 := Lib.hid (HN5.out.chg hc6); have HBX6 := Lib.hid (blk_chg HBX5.out hc6 HBB.out); clear hrel hI6 hc6 hcall; have f1 := (blk_cell HBX6.out 1).trans rfl; have f2 := (blk_cell HBX6.out 2).trans rfl; have f3 := (blk_cell HBX6.out 3).trans rfl; have f4 := (blk_cell HBX6.out 4).trans rfl; have f5 := (blk_cell HBX6.out 5).trans rfl) | fail)
        clear q1 q2 q3 q4 q5 r1 r2 r3 r4 r5
        clear f1 f3 f4 f5
        have HST := Lib.hid (show (e ≠ 0 ∧ Due s' e0 tr ca) ∨ (e = 0 ∧ Due s' a.time tr ca) from by
          rcases HREL.out with ⟨h1, rfl, _⟩ | ⟨h1, _, h3, _, h4, rfl, _⟩
          · exact .inl ⟨h1, HD.out⟩
          · exact .inr ⟨h1, HD.out.ended HI4.out.well h3.1 h4⟩)
        clear HREL
        rcases HST.out with ⟨he, hd⟩ | ⟨rfl, hd⟩
        · have heb : (e == 0) = false := by simpa using he
          have HD' := Lib.hid hd
          clear he HST hd
          go_wp2_with fail
          go_meet
          case rel => exact ⟨s', e0, vl', fl', rfl, HI6, HD', HN6⟩
        · have HD' := Lib.hid hd
          clear HST hd
          go_wp2_with fail
          go_meet
          case rel => exact ⟨s', a.time, vl', fl', rfl, HI6, HD', HN6⟩
      case inr.inr.inl =>
        obtain ⟨e, s', vl', fl', -, hrel, hcall⟩ := lreset HI4.out a.time
        have HC := Lib.hid hcall
        have HD' := Lib.hid (show Due s' e0 tr ca from by
          rcases hrel with ⟨_, rfl, _⟩ | ⟨_, _, _, _, rfl, _⟩
          · exact HD.out
          · exact HD.out.zero rfl rfl rfl)
        clear hcall hrel
        go_wp2_with fail
        refine HC.out.mono ?_
        rintro _ w5 ⟨rfl, hI5, hc5⟩
        have HI5 := Lib.hid hI5
        have HN5 := Lib.hid (HN4.out.chg hc5)
        clear HC hI5 hc5 q0 q1 q2 q3 q4 q5
        go_wp2_with fail
        go_meet
        case rel => exact ⟨s', e0, vl', fl', rfl, HI5, HD', HN5⟩
      case inr.inr.inr.inl =>
        obtain ⟨e, s', -, hrel, hcall⟩ := lclose HI4.out
        have HC := Lib.hid hcall
        have HD' := Lib.hid (show Due s' e0 tr ca from by
          rcases hrel with ⟨_, rfl⟩ | ⟨_, _, rfl⟩
          · exact HD.out
          · exact HD.out.zero rfl rfl rfl)
        clear hcall hrel
        go_wp2_with fail
        refine HC.out.mono ?_
        rintro _ w5 ⟨rfl, hI5, hc5⟩
        have HI5 := Lib.hid hI5
        have HN5 := Lib.hid (HN4.out.chg hc5)
        clear HC hI5 hc5 q0 q1 q2 q3 q4 q5
        go_wp2_with fail
        go_meet
        case rel => exact ⟨s', e0, vl, fl, rfl, HI5, HD', HN5⟩
      case inr.inr.inr.inr =>
        clear q0 q1 q2 q3 q4 q5
        go_wp2_with fail
        go_meet
        case rel => exact ⟨s, e0, vl, fl, rfl, HI4, HD, HN4⟩
    case rest =>
    clear HI4 HP4 HN4 HBX q0 q1 q2 q3 q4 q5 hBl hk5 HD
    obtain ⟨s', e', vl', fl', rfl, HI5, HD', HN5⟩ := hcut
    go_wp2_with fail
    refine (ltold HI5.out).mono ?_
    rintro _ w9 ⟨rfl, h9, hb9⟩
    have HI9 := Lib.hid h9
    have HN9 := Lib.hid (HN5.out.below hb9)
    have hnl := blk_lt HN9.out.2
    have n1 := (blk_cell HN9.out.2 1).trans rfl
    have n4 := (blk_cell HN9.out.2 4).trans rfl
    have hf0 : ¬ s'.fails < 0 := by have := h9.well.f0; omega
    have hf1 := h9.well.f1
    rw [HD'.out.tries] at hf1
    have hdue := HD'.out.due
    have he0 := HD'.out.e0
    have he1 := HD'.out.e1
    clear h9 hb9
    have HQ : (1 ≤ tr ∧ ¬ tr < s'.fails) ∨ (¬ 1 ≤ tr ∧ ¬ 1 < s'.fails) := by omega
    have HZ : s'.next = 0 ∨ ((s'.next != 0) = true ∧ ¬ s'.next < e' ∧ ¬ 1099511627776 < s'.next ∧ wrap64 (s'.next - e') = s'.next - e' ∧ ¬ ca < s'.next - e') := by
      by_cases hz : s'.next = 0
      · exact .inl hz
      · have hd := hdue hz
        exact .inr ⟨by simpa using hz, by omega, by omega, by rw [← i64_w, IntWalk.i64_in _ (by omega)], by omega⟩
    clear hf1 hdue he0 he1
    rcases HQ with ⟨ht1, ht2⟩ | ⟨ht1, ht2⟩ <;> rcases HZ with hz | ⟨hz1, hz2, hz3, hz4, hz5⟩
    all_goals
      try rw [hz]
      go_wp2_with fail
      all_goals
        go_roundg (l.length - (i + 1))
        case measure => omega
        case rel => exact ⟨i + 1, s', e', vl', fl', rfl, by first | rfl | rw [hwi], rfl, by omega, Lib.hid (HI9.out.alloc _), HD', Lib.hid (HN9.out.below ((Below.refl _ _).alloc (Nat.le_refl _) _))⟩
end Go.Proofs.YtchbammjcnhkiaaDoor.Ce
