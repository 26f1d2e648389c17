/- The walk of CellPlays. -/
import Derived.Test.YtchbammjcnhkiaaDoorMh
set_option linter.unusedVariables false
set_option linter.unusedSimpArgs false
namespace Go.Proofs.YtchbammjcnhkiaaDoor.Ce
open Go.RowKit Go.Maps Go.Proofs.YtchbammjcnhkiaaDoor Go.Proofs.YtchbammjcnhkiaaDoorW.PrintWords Go.Proofs.YtchbammjcnhkiaaDoorW.PrintLast Go.Proofs.YtchbammjcnhkiaaDoorW.PrintMore PCellPlays
attribute [local go_sem] max2_int min2_int max_two min_two max_three min_three
/-- A cell's lists, away from what is written over. -/
def MO (N1 N2 : Nat) (w : World) (b base : Nat) (s : Cel) (l : List S80) (m : List S64) : Prop := ∃ u v, At w b s u v ∧ Kd.R k80 80 w base (fun k => k ≠ b ∧ ¬ (N1 ≤ k ∧ k < N2)) u l ∧ Kd.R k64 64 w base (fun k => k ≠ b ∧ ¬ (N1 ≤ k ∧ k < N2)) v m
theorem MO.old {N1 N2 : Nat} {w : World} {b base : Nat} {s : Cel} {l : List S80} {m : List S64} (h : Owns w b base s l m) (hn : w.heap.size ≤ N1) : MO N1 N2 w b base s l m := by
  obtain ⟨u, v, h1, h2, h3⟩ := h
  exact ⟨u, v, h1, Kd.R_mono (Kd.R_bound h2) (fun k hk => ⟨hk.1, fun q => by have := hk.2.2.1; omega⟩), Kd.R_mono (Kd.R_bound h3) (fun k hk => ⟨hk.1, fun q => by have := hk.2.2.1; omega⟩)⟩
theorem MO.new {N1 N2 : Nat} {w : World} {b base base' : Nat} {s : Cel} {l : List S80} {m : List S64} (h : Owns w b base' s l m) (hn : N2 ≤ base') (hb : base ≤ base') : MO N1 N2 w b base s l m := by
  obtain ⟨u, v, h1, h2, h3⟩ := h
  exact ⟨u, v, h1, Kd.R_lower (Kd.R_mono (Kd.R_bound h2) (fun k hk => ⟨hk.1, fun q => by have := hk.2.1; omega⟩)) hb, Kd.R_lower (Kd.R_mono (Kd.R_bound h3) (fun k hk => ⟨hk.1, fun q => by have := hk.2.1; omega⟩)) hb⟩
theorem MO.below {N1 N2 : Nat} {w w' : World} {b base : Nat} {s : Cel} {l : List S80} {m : List S64} (h : MO N1 N2 w b base s l m) (hb : Below w.heap.size w w') : MO N1 N2 w' b base s l m := by
  obtain ⟨u, v, h1, h2, h3⟩ := h
  exact ⟨u, v, blk_below h1 hb, Kd.R_below h2 hb, Kd.R_below h3 hb⟩
theorem MO.own {N1 N2 : Nat} {w w' : World} {b base : Nat} {s : Cel} {l : List S80} {m : List S64} (h : MO N1 N2 w b base s l m) (hc : Chg (fun i => N1 ≤ i ∧ i < N2) w w') (hb : b < N1) : Owns w' b base s l m := by
  obtain ⟨u, v, h1, h2, h3⟩ := h
  exact ⟨u, v, blk_chg h1 hc (fun q => by omega), Kd.R_mono (Kd.R_step h2 (fun k ho hlt => hc.block k hlt ho.2)) (fun _ q => q.1), Kd.R_mono (Kd.R_step h3 (fun k ho hlt => hc.block k hlt ho.2)) (fun _ q => q.1)⟩
theorem PW.mut {w wr w3 : World} {gy ga gz b N1 N2 : Nat} {y : Cel} {u v : Value} {ac : Array Value} (h : PW w wr gy ga gz b y u v ac) (hc : Chg (fun i => N1 ≤ i ∧ i < N2) wr w3) (hn : gy < N1 ∧ ga < N1 ∧ gz < N1) (hN : w.heap.size ≤ N1) : PW w w3 gy ga gz b y u v ac := ⟨blk_chg h.x hc (fun q => by omega), blk_chg h.a hc (fun q => by omega), blk_chg h.z hc (fun q => by omega), Chg.over h.chg hc (fun i q => .inr (by omega)), h.hb, h.n1, h.n2, h.n3, Nat.lt_of_lt_of_le h.n4 hc.size⟩
set_option maxHeartbeats 8000000 in
set_option maxRecDepth 100000 in
theorem play_end (w : World) (b base : Nat) (P : Nat → Prop) (s y : Cel) (l : List S80) (m : List S64) (u v : Value) (a : ActV) (A B : Option Addr) (c d : Nat) (ho : Owns w b base s l m) (hw : Well s) (hr : Rel s y) (hy : YR w base P u v l m) (hz : Sz l m) (hP : ¬ P b) (hPn : ∀ k, w.heap.size ≤ k → P k) (hbase : base ≤ w.heap.size) (hput : ∀ w', Chg (· = b) w w' → Put w' A B c d a.vl a.fl) (hsa : Sz a.vl a.fl) (hk : amongB a.kind = 1) : PlayC w b base P y u v a A B c d := by
  have HPT := Lib.hid hput
  have HSA := Lib.hid hsa
  clear hput hsa
  have HO := Lib.hid ho
  have HW := Lib.hid hw
  have HR := Lib.hid hr
  have HY := Lib.hid hy
  have HZ := Lib.hid hz
  have HP := Lib.hid (show ∀ k, P k → ¬ k = b from fun k h e => hP (e ▸ h))
  have HPN := Lib.hid hPn
  have HBA := Lib.hid hbase
  have HW0 := Lib.hid (PW.mk3 w b y u v #[.int .i64 a.kind, .int .i64 a.task, .int .i64 a.time, .int .i64 a.ok, .slice A a.vl.length c, .slice B a.fl.length d] ho.lt)
  have HK := Lib.hid hk
  clear ho hw hr hy hz hP hPn hbase hk
  unfold PlayC agg Cel.cells
  go_enter Tryd.func21, Tryd.ntmps21
  go_upto_region 1 with fail
  obtain ⟨w1, gy, ga, gz, e1, ey, ea, ez, hW, hb1⟩ : ∃ w1 gy ga gz, w1 = ((w.alloc (.cells #[.bool y.again, .int .i64 y.tries, .int .i64 y.base, .int .i64 y.factor, .int .i64 y.cap, .int .i64 y.state, .int .i64 y.gen, .int .i64 y.task, .int .i64 y.fails, .int .i64 y.next, .int .i64 y.last, .int .i64 y.kind, u, v] 56)).alloc (.cells #[.int .i64 a.kind, .int .i64 a.task, .int .i64 a.time, .int .i64 a.ok, .slice A a.vl.length c, .slice B a.fl.length d] 39)).alloc (.cells #[.bool false, .int .i64 0, .int .i64 0, .int .i64 0, .int .i64 0, .int .i64 0, .int .i64 0, .int .i64 0, .int .i64 0, .int .i64 0, .int .i64 0, .int .i64 0, .slice none 0 0, .slice none 0 0] 56) ∧ gy = w.heap.size ∧ ga = w.heap.size + 1 ∧ gz = w.heap.size + 1 + 1 ∧ PW w w1 gy ga gz b y u v #[.int .i64 a.kind, .int .i64 a.task, .int .i64 a.time, .int .i64 a.ok, .slice A a.vl.length c, .slice B a.fl.length d] ∧ Below w.heap.size w w1 := ⟨_, _, _, _, rfl, rfl, rfl, rfl, HW0.out, (((Below.refl _ _).alloc (Nat.le_refl _) _).alloc (by simp) _).alloc (by simp only [World.size_alloc]; omega) _⟩
  rw [← e1, ← ez, ← ea, ← ey]
  have HW1 := Lib.hid hW
  have HO1 := Lib.hid (HO.out.below hb1)
  have HY1 := Lib.hid (HY.out.below hb1)
  have HB1 := Lib.hid hb1
  clear e1 ey ea ez hW hb1 HW0 HO HY
  obtain ⟨a0, a1, a2, a3, a4, a5⟩ := HW1.out.afacts
  go_wp2_with fail
  refine (among_be a.kind _ HK.out).mono ?_
  rintro _ w2 ⟨rfl, n, e2⟩
  have HW2 := Lib.hid (HW1.out.below (w3 := w2) (by rw [e2]; exact pw_below_drewN (Below.refl _ _) n))
  have HO2 := Lib.hid (HO1.out.below (w' := w2) (by rw [e2]; exact pw_below_drewN (Below.refl _ _) n))
  have HY2 := Lib.hid (HY1.out.below (w' := w2) (by rw [e2]; exact pw_below_drewN (Below.refl _ _) n))
  have HB2 := Lib.hid (show Below w.heap.size w w2 by rw [e2]; exact pw_below_drewN HB1.out n)
  clear a0 a1 a2 a3 a4 a5 e2 HW1 HO1 HY1 HB1
  obtain ⟨a0, a1, a2, a3, a4, a5⟩ := HW2.out.afacts
  go_wp2_with fail
  refine (copy_out _ a.ok A B c d a.vl a.fl (HPT.out _ HW2.out.chg)).mono ?_
  rintro _ w3 ⟨A1, B1, c1, d1, rfl, -, hu3, hv3, hb3⟩
  go_upto_region 8 with fail
  obtain ⟨w4, oo, e4, eo, hW4, hO4, hY4, ho4, hr4, hb4, hoo⟩ : ∃ w4 oo, w4 = w3.alloc (.cells #[.int .i64 a.ok, .slice A1 a.vl.length c1, .slice B1 a.fl.length d1] 37) ∧ oo = w3.heap.size ∧ PW w w4 gy ga gz b y u v #[.int .i64 a.kind, .int .i64 a.task, .int .i64 a.time, .int .i64 a.ok, .slice A a.vl.length c, .slice B a.fl.length d] ∧ Owns w4 b base s l m ∧ YR w4 base (fun k => P k ∧ k < w2.heap.size) u v l m ∧ w4.heap[oo]? = some (.cells #[.int .i64 a.ok, .slice A1 a.vl.length c1, .slice B1 a.fl.length d1] 37 (0, 0)) ∧ YR w4 w2.heap.size (fun i => i < oo) (.slice A1 a.vl.length c1) (.slice B1 a.fl.length d1) a.vl a.fl ∧ Below w2.heap.size w2 w4 ∧ w2.heap.size ≤ oo := by
    have hal : Below w3.heap.size w3 (w3.alloc (.cells #[.int .i64 a.ok, .slice A1 a.vl.length c1, .slice B1 a.fl.length d1] 37)) := (Below.refl _ _).alloc (Nat.le_refl _) _
    exact ⟨_, _, rfl, rfl, (HW2.out.below hb3).below hal, (HO2.out.below hb3).below hal, ((HY2.out.mono (Nat.le_refl _) (fun k h _ q => ⟨h, q⟩)).below hb3).below hal, blk_new w3 _, (YR.mono (P' := fun i => i < w3.heap.size) ⟨hu3, hv3⟩ (Nat.le_refl _) (fun _ _ _ q => q)).below hal, below_step hb3 hal, hb3.size⟩
  rw [← e4, ← eo]
  have HW4 := Lib.hid hW4
  have HO4 := Lib.hid hO4
  have HY4 := Lib.hid hY4
  have HOO := Lib.hid ho4
  have HR4 := Lib.hid hr4
  have HB4 := Lib.hid (And.intro hb4 hoo)
  have HN1 := Lib.hid (show (gy < w2.heap.size ∧ ga < w2.heap.size ∧ gz < w2.heap.size) ∧ w.heap.size ≤ w2.heap.size ∧ b < w2.heap.size from ⟨⟨blk_lt HW2.out.x, blk_lt HW2.out.a, blk_lt HW2.out.z⟩, HW2.out.chg.size, HO2.out.lt⟩)
  have HPE := Lib.hid (hr4.put HSA.out (HPT.out _ hW4.chg).laid)
  clear e4 eo hW4 hO4 hY4 ho4 hr4 hb4 hoo hu3 hv3 hb3 a0 a1 a2 a3 a4 a5 HW2 HY2
  obtain ⟨e, s', l', m', he, hcs, hcall⟩ := end_p w4 b base s l m a.task a.ok A1 B1 c1 d1 a.vl a.fl a.time HO4.out HW.out HPE.out
  have HC := Lib.hid hcall
  have HBR := Lib.hid (And.intro he hcs)
  have HWELL := Lib.hid (show Well s' from by
    rcases hcs with ⟨_, rfl, _, _⟩ | ⟨_, _, h2, _, hn, rfl, _, _⟩
    · exact HW.out
    · exact HW.out.ended hn h2.1)
  have HSZ := Lib.hid (show Sz l' m' from by
    rcases hcs with ⟨_, _, rfl, rfl⟩ | ⟨_, _, _, _, _, _, rfl, rfl⟩
    · exact HZ.out
    · exact HSA.out)
  clear hcall he hcs
  obtain ⟨a0, a1, a2, a3, a4, a5⟩ := HW4.out.afacts
  have o0 := (blk_cell HOO.out 0).trans rfl
  have o1 := (blk_cell HOO.out 1).trans rfl
  have o2 := (blk_cell HOO.out 2).trans rfl
  go_wp2_with fail
  refine HC.out.mono ?_
  rintro _ w5 ⟨rfl, hc5, hz5, ho5⟩
  have HOB := Lib.hid (show oo ≠ b by have := HB4.out.2; have := HN1.out.2.2; omega)
  have HW5 := Lib.hid (HW4.out.turn hc5)
  have HOO5 := Lib.hid (blk_chg HOO.out hc5 HOB.out)
  have HR5 := Lib.hid (((HR4.out.mono (P' := fun i => w2.heap.size ≤ i ∧ i < oo) (Nat.le_refl _) (fun k h q _ => ⟨q, h⟩)).chg hc5 (fun k hk q => by have := HN1.out.2.2; omega)).mono (P' := fun i => i < oo) (Nat.le_refl _) (fun k h _ _ => h.2))
  have HMO5 := Lib.hid (show MO w2.heap.size oo w5 b base s' l' m' from by
    rcases HBR.out.2 with ⟨h0, rfl, rfl, rfl⟩ | ⟨h0, _⟩
    · exact ((MO.old HO2.out (Nat.le_refl _)).below HB4.out.1).below (hz5 h0)
    · exact MO.new (ho5 h0) (Nat.le_of_lt (blk_lt HOO.out)) (Nat.le_trans HBA.out (Nat.le_trans HN1.out.2.1 HB4.out.1.size)))
  have HY5 := Lib.hid (HY4.out.chg hc5 (fun k hk => HP.out k hk.1))
  have HS5 := Lib.hid hc5.size
  clear HC hc5 hz5 ho5 a0 a1 a2 a3 a4 a5 o0 o1 o2 HW4 HOO HR4 HY4 HO4 HO2
  obtain ⟨a0, a1, a2, a3, a4, a5⟩ := HW5.out.afacts
  obtain ⟨b0, b1, b2, b3, b4, b5, b6, b7, b8, b9, b10, b11, b12, b13⟩ := HW5.out.yfacts
  go_wp2_with fail
  refine (endr_o _ base (fun k => P k ∧ k < w2.heap.size) s y s' u v l l' m m' a.task a.ok A B c d a.vl a.fl a.time e HR.out HW.out HY5.out (HPT.out _ HW5.out.chg) HBR.out.1 HBR.out.2).mono ?_
  rintro _ w6 ⟨y', u', v', rfl, hr6, hz6, hy6, hb6⟩
  have HY6 := Lib.hid (show YR w6 base (fun k => P k ∧ ¬ (w2.heap.size ≤ k ∧ k < oo)) u' v' l' m' from by
    by_cases h0 : e = 0
    · exact (hy6 h0).mono (Nat.le_trans HBA.out (Nat.le_trans HN1.out.2.1 (Nat.le_trans HB4.out.1.size HS5.out))) (fun k _ h _ => ⟨HPN.out k (by have := HN1.out.2.1; have := HB4.out.1.size; have := HS5.out; omega), fun q => by have := HS5.out; have := blk_lt HOO5.out; have := HB4.out.2; omega⟩)
    · exact (hz6 h0).mono (Nat.le_refl _) (fun k h _ _ => ⟨h.1, fun q => by have := h.2; omega⟩))
  clear hz6 hy6
  obtain ⟨A', B', c', d', rfl, rfl⟩ := HY6.out.slices
  have HREL := Lib.hid hr6
  have HW6 := Lib.hid (HW5.out.below hb6)
  have HMO6 := Lib.hid (HMO5.out.below hb6)
  have HOO6 := Lib.hid (blk_below HOO5.out hb6)
  have HR6 := Lib.hid (HR5.out.below hb6)
  clear hr6 hb6 a0 a1 a2 a3 a4 a5 b0 b1 b2 b3 b4 b5 b6 b7 b8 b9 b10 b11 b12 b13 HW5 HY5 HMO5 HOO5 HR5
  unfold agg Cel.cells
  go_upto_region 10 with fail
  obtain ⟨w7, gn, e7, en, hW7, hO7, hY7, hn7, hne, hoo7, hr7, hon⟩ : ∃ w7 gn, w7 = w6.alloc (.cells #[.bool y'.again, .int .i64 y'.tries, .int .i64 y'.base, .int .i64 y'.factor, .int .i64 y'.cap, .int .i64 y'.state, .int .i64 y'.gen, .int .i64 y'.task, .int .i64 y'.fails, .int .i64 y'.next, .int .i64 y'.last, .int .i64 y'.kind, (.slice A' l'.length c'), (.slice B' m'.length d')] 56) ∧ gn = w6.heap.size ∧ PW w w7 gy ga gz b y u v #[.int .i64 a.kind, .int .i64 a.task, .int .i64 a.time, .int .i64 a.ok, .slice A a.vl.length c, .slice B a.fl.length d] ∧ MO w2.heap.size oo w7 b base s' l' m' ∧ YR w7 base (fun k => P k ∧ ¬ (w2.heap.size ≤ k ∧ k < oo)) (.slice A' l'.length c') (.slice B' m'.length d') l' m' ∧ Bx w7 gn y' (.slice A' l'.length c') (.slice B' m'.length d') ∧ gz ≠ gn ∧ w7.heap[oo]? = some (.cells #[.int .i64 a.ok, .slice A1 a.vl.length c1, .slice B1 a.fl.length d1] 37 (0, 0)) ∧ YR w7 w2.heap.size (fun i => i < oo) (.slice A1 a.vl.length c1) (.slice B1 a.fl.length d1) a.vl a.fl ∧ oo < gn := by
    have hal : Below w6.heap.size w6 (w6.alloc (.cells #[.bool y'.again, .int .i64 y'.tries, .int .i64 y'.base, .int .i64 y'.factor, .int .i64 y'.cap, .int .i64 y'.state, .int .i64 y'.gen, .int .i64 y'.task, .int .i64 y'.fails, .int .i64 y'.next, .int .i64 y'.last, .int .i64 y'.kind, (.slice A' l'.length c'), (.slice B' m'.length d')] 56)) := (Below.refl _ _).alloc (Nat.le_refl _) _
    exact ⟨_, _, rfl, rfl, HW6.out.below hal, HMO6.out.below hal, HY6.out.below hal, blk_new w6 _, by have := HW6.out.n4; omega, blk_below HOO6.out hal, HR6.out.below hal, blk_lt HOO6.out⟩
  rw [← e7, ← en]
  have HW7 := Lib.hid hW7
  have HO7 := Lib.hid hO7
  have HY7 := Lib.hid hY7
  have HN7 := Lib.hid hn7
  have HNE := Lib.hid hne
  have HOO7 := Lib.hid hoo7
  have HR7 := Lib.hid hr7
  have HON := Lib.hid hon
  clear e7 en hW7 hO7 hY7 hn7 hne hoo7 hr7 hon HW6 HMO6 HY6 HOO6 HR6
  obtain ⟨a0, a1, a2, a3, a4, a5⟩ := HW7.out.afacts
  have o0 := (blk_cell HOO7.out 0).trans rfl
  have o1 := (blk_cell HOO7.out 1).trans rfl
  have o2 := (blk_cell HOO7.out 2).trans rfl
  have HP7 := Lib.hid (And.intro (HR7.out.put HSA.out (HPT.out _ HW7.out.chg).laid) (HPT.out _ HW7.out.chg))
  go_wp2_with fail
  refine (same_out _ a.ok A1 B1 A B c1 d1 c d a.vl a.fl HSA.out HP7.out.1.r1 HP7.out.1.c1 HP7.out.1.r2 HP7.out.1.c2 HP7.out.2.r1 HP7.out.2.c1 HP7.out.2.r2 HP7.out.2.c2).mono ?_
  rintro _ w8 ⟨rfl, hb8⟩
  have HW8 := Lib.hid (HW7.out.below hb8)
  have HO8 := Lib.hid (HO7.out.below hb8)
  have HY8 := Lib.hid (HY7.out.below hb8)
  have HN8 := Lib.hid (show Bx w8 gn y' (.slice A' l'.length c') (.slice B' m'.length d') from blk_below HN7.out hb8)
  have HM := Lib.hid (ML.start (HR7.out.below hb8) (blk_below HOO7.out hb8) (Nat.le_refl oo))
  clear hb8 a0 a1 a2 a3 a4 a5 o0 o1 o2 HW7 HO7 HY7 HN7 HOO7 HR7 HP7
  go_wp2_with fail
  go_loopg [17] a.vl.length (fun gk v17 wq => ∃ i : Nat, v17 = .int .i64 i ∧ gk = a.vl.length - i ∧ i ≤ a.vl.length ∧ Hid (ML w2.heap.size oo oo a.ok A1 B1 c1 d1 a.vl a.fl w8 wq))
  case atStart => exact ⟨0, rfl, by simp, by omega, HM⟩
  case round =>
    clear HM
    obtain ⟨i, rfl, rfl, hil, HM⟩ := hrel
    have a1 := (blk_cell HM.out.a 1).trans rfl
    by_cases hlt : i < a.vl.length
    rotate_left
    · have hlt' : ¬ (i : Int) < (a.vl.length : Int) := by omega
      go_wp2_with fail
      go_loopg [18] a.fl.length (fun gk v18 wq => ∃ i : Nat, v18 = .int .i64 i ∧ gk = a.fl.length - i ∧ i ≤ a.fl.length ∧ Hid (ML w2.heap.size oo oo a.ok A1 B1 c1 d1 a.vl a.fl w8 wq))
      case atStart => exact ⟨0, rfl, by simp, by omega, HM⟩
      case round =>
        clear HM a1 hlt hlt'
        obtain ⟨j, rfl, rfl, hjl, HM⟩ := hrel
        have a2 := (blk_cell HM.out.a 2).trans rfl
        by_cases hlt : j < a.fl.length
        rotate_left
        · have hlt' : ¬ (j : Int) < (a.fl.length : Int) := by omega
          go_upto_region 20 with fail
          have HW9 := Lib.hid (HW8.out.mut HM.out.chg HN1.out.1 HN1.out.2.1)
          have HO9 := Lib.hid (HO8.out.own HM.out.chg HN1.out.2.2)
          have HY9 := Lib.hid (YR.mono (P' := P) (HY8.out.chg HM.out.chg (fun k hk q => hk.2 q)) (Nat.le_refl _) (fun k hk _ _ => hk.1))
          have HN9 := Lib.hid (show Bx wr gn y' (.slice A' l'.length c') (.slice B' m'.length d') from blk_chg HN8.out HM.out.chg (fun q => by have := HON.out; omega))
          have hne := HNE.out
          have hne2 := Ne.symm hne
          clear HM HW8 HO8 HY8 HN8 a2
          obtain ⟨n0, n1, n2, n3, n4, n5, n6, n7, n8, n9, n10, n11, n12, n13, nf⟩ := HN9.out.facts
          obtain ⟨z0, z1, z2, z3, z4, z5, z6, z7, z8, z9, z10, z11, z12, z13, zf⟩ := HW9.out.zfacts
          have HPUT := Lib.hid (put14 wr gz y' (.slice A' l'.length c') (.slice B' m'.length d') HW9.out.z)
          go_wp2_with fail
          refine bodyPost_ret (results_ct rfl _ _ gz 56 (y'.cells (.slice A' l'.length c') (.slice B' m'.length d')) (0, 0) _ rfl HPUT.out.1 Tryd.underlying56 rfl (by kernel_rfl)) rfl ?_
          have hcb : Chg (· = gz) wr _ := HPUT.out.2
          have hgb : gz ≠ b := by have := HW9.out.n3; have := HW9.out.hb; omega
          have hgs : w.heap.size ≤ gz := HW9.out.n3
          exact ⟨s', y', l', m', _, _, rfl, ⟨HO9.out.far HW9.out.z (by decide) (by decide) hgb hcb, HWELL.out, HREL.out, HY9.out.far HW9.out.z (by decide) (by decide) hcb, HSZ.out, Chg.over HW9.out.chg hcb (fun i q => .inr (by rw [q]; exact hgs))⟩⟩
        have hlt' : (j : Int) < (a.fl.length : Int) := by omega
        obtain ⟨g8, hA, hga, hwk⟩ := HM.out.wb (by omega)
        subst hA
        obtain ⟨x0, k0⟩ := hwk.cell (j := j * 3) (by omega)
        obtain ⟨x1, k1⟩ := hwk.cell (j := j * 3 + 1) (by omega)
        obtain ⟨x2, k2⟩ := hwk.cell (j := j * 3 + 2) (by omega)
        have kf := hwk.frozen
        have hwi : wrap64 ((j : Int) + 1) = ((j + 1 : Nat) : Int) := by
          have h9 := HSA.out.2
          rw [← i64_w, IntWalk.i64_in _ (by omega)]; omega
        clear hwk
        go_wp2_with fail
        go_roundg (a.fl.length - (j + 1))
        case measure => omega
        case rel => exact ⟨j + 1, by rw [hwi], rfl, by omega, Lib.hid (((HM.out.put hga _ _).put hga _ _).put hga _ _)⟩
    have hlt' : (i : Int) < (a.vl.length : Int) := by omega
    obtain ⟨g8, hA, hga, hwk⟩ := HM.out.wa (by omega)
    subst hA
    obtain ⟨x0, k0⟩ := hwk.cell (j := i * 4) (by omega)
    obtain ⟨x1, k1⟩ := hwk.cell (j := i * 4 + 1) (by omega)
    obtain ⟨x2, k2⟩ := hwk.cell (j := i * 4 + 2) (by omega)
    obtain ⟨x3, k3⟩ := hwk.cell (j := i * 4 + 3) (by omega)
    have kf := hwk.frozen
    have hwi : wrap64 ((i : Int) + 1) = ((i + 1 : Nat) : Int) := by
      have h9 := HSA.out.1
      rw [← i64_w, IntWalk.i64_in _ (by omega)]; omega
    clear hwk
    go_wp2_with fail
    go_roundg (a.vl.length - (i + 1))
    case measure => omega
    case rel => exact ⟨i + 1, by rw [hwi], rfl, by omega, Lib.hid ((((HM.out.put hga _ _).put hga _ _).put hga _ _).put hga _ _)⟩
end Go.Proofs.YtchbammjcnhkiaaDoor.Ce
namespace Go.Proofs.YtchbammjcnhkiaaDoor.Ce
open Go.RowKit Go.Maps Go.Proofs.YtchbammjcnhkiaaDoor Go.Proofs.YtchbammjcnhkiaaDoorW.PrintWords Go.Proofs.YtchbammjcnhkiaaDoorW.PrintLast Go.Proofs.YtchbammjcnhkiaaDoorW.PrintMore PCellPlays
attribute [local go_sem] max2_int min2_int max_two min_two max_three min_three
theorem play_o (w : World) (b base : Nat) (P : Nat → Prop) (s y : Cel) (l : List S80) (m : List S64) (u v : Value) (a : ActV) (A B : Option Addr) (c d : Nat) (ho : Owns w b base s l m) (hw : Well s) (hr : Rel s y) (hy : YR w base P u v l m) (hz : Sz l m) (hP : ¬ P b) (hPn : ∀ k, w.heap.size ≤ k → P k) (hbase : base ≤ w.heap.size) (hput : ∀ w', Chg (· = b) w w' → Put w' A B c d a.vl a.fl) (hsa : Sz a.vl a.fl) (hk : amongB a.kind ≠ 4) : PlayC w b base P y u v a A B c d := by
  rcases among_cases a.kind with h | h | h | h | h
  · exact play_begin w b base P s y l m u v a A B c d ho hw hr hy hz hP hPn hbase h
  · exact play_end w b base P s y l m u v a A B c d ho hw hr hy hz hP hPn hbase hput hsa h
  · exact play_reset w b base P s y l m u v a A B c d ho hw hr hy hz hP hPn hbase h
  · exact play_close w b base P s y l m u v a A B c d ho hw hr hy hz hP hPn hbase h
  · exact absurd h hk
theorem reput (w : World) (g : Nat) (yb y : Cel) (ub vb u v : Value) (h : Bx w g yb ub vb) : Bx ((((((((((((((w.setCell ⟨g, 0, none⟩ (.bool y.again)).setCell ⟨g, 1, none⟩ (.int .i64 y.tries)).setCell ⟨g, 2, none⟩ (.int .i64 y.base)).setCell ⟨g, 3, none⟩ (.int .i64 y.factor)).setCell ⟨g, 4, none⟩ (.int .i64 y.cap)).setCell ⟨g, 5, none⟩ (.int .i64 y.state)).setCell ⟨g, 6, none⟩ (.int .i64 y.gen)).setCell ⟨g, 7, none⟩ (.int .i64 y.task)).setCell ⟨g, 8, none⟩ (.int .i64 y.fails)).setCell ⟨g, 9, none⟩ (.int .i64 y.next)).setCell ⟨g, 10, none⟩ (.int .i64 y.last)).setCell ⟨g, 11, none⟩ (.int .i64 y.kind)).setCell ⟨g, 12, none⟩ (u)).setCell ⟨g, 13, none⟩ (v)) g y u v ∧ Chg (· = g) w ((((((((((((((w.setCell ⟨g, 0, none⟩ (.bool y.again)).setCell ⟨g, 1, none⟩ (.int .i64 y.tries)).setCell ⟨g, 2, none⟩ (.int .i64 y.base)).setCell ⟨g, 3, none⟩ (.int .i64 y.factor)).setCell ⟨g, 4, none⟩ (.int .i64 y.cap)).setCell ⟨g, 5, none⟩ (.int .i64 y.state)).setCell ⟨g, 6, none⟩ (.int .i64 y.gen)).setCell ⟨g, 7, none⟩ (.int .i64 y.task)).setCell ⟨g, 8, none⟩ (.int .i64 y.fails)).setCell ⟨g, 9, none⟩ (.int .i64 y.next)).setCell ⟨g, 10, none⟩ (.int .i64 y.last)).setCell ⟨g, 11, none⟩ (.int .i64 y.kind)).setCell ⟨g, 12, none⟩ (u)).setCell ⟨g, 13, none⟩ (v)) := by
  refine ⟨?_, ((((((((((((((Chg.refl (· = g) w).setCell (p := ⟨g, 0, none⟩) rfl _).setCell (p := ⟨g, 1, none⟩) rfl _).setCell (p := ⟨g, 2, none⟩) rfl _).setCell (p := ⟨g, 3, none⟩) rfl _).setCell (p := ⟨g, 4, none⟩) rfl _).setCell (p := ⟨g, 5, none⟩) rfl _).setCell (p := ⟨g, 6, none⟩) rfl _).setCell (p := ⟨g, 7, none⟩) rfl _).setCell (p := ⟨g, 8, none⟩) rfl _).setCell (p := ⟨g, 9, none⟩) rfl _).setCell (p := ⟨g, 10, none⟩) rfl _).setCell (p := ⟨g, 11, none⟩) rfl _).setCell (p := ⟨g, 12, none⟩) rfl _).setCell (p := ⟨g, 13, none⟩) rfl _⟩
  refine Eq.trans (blk_set (blk_set (blk_set (blk_set (blk_set (blk_set (blk_set (blk_set (blk_set (blk_set (blk_set (blk_set (blk_set (blk_set h 0 (.bool y.again)) 1 (.int .i64 y.tries)) 2 (.int .i64 y.base)) 3 (.int .i64 y.factor)) 4 (.int .i64 y.cap)) 5 (.int .i64 y.state)) 6 (.int .i64 y.gen)) 7 (.int .i64 y.task)) 8 (.int .i64 y.fails)) 9 (.int .i64 y.next)) 10 (.int .i64 y.last)) 11 (.int .i64 y.kind)) 12 (u)) 13 (v)) ?_
  simp [Cel.cells]
theorem Owns.other {w w' : World} {b b' base : Nat} {s : Cel} {l : List S80} {m : List S64} (h : Owns w b' base s l m) (hc : Chg (· = b) w w') (hb : b < base) (hn : b' ≠ b) : Owns w' b' base s l m := by
  obtain ⟨u, v, h1, h2, h3⟩ := h
  refine ⟨u, v, blk_chg h1 hc hn, Kd.R_mono (Kd.R_step (Kd.R_bound h2) (fun k ho hlt => hc.block k hlt (fun q => ?_))) (fun _ q => q.1), Kd.R_mono (Kd.R_step (Kd.R_bound h3) (fun k ho hlt => hc.block k hlt (fun q => ?_))) (fun _ q => q.1)⟩ <;> have := ho.2.1 <;> omega
/-- What stands while CellPlays runs: the cell, the document's cell as it is, and as it lies in its box. -/
structure PI (w wr : World) (b g : Nat) (s y : Cel) (l : List S80) (m : List S64) (u v : Value) (yb : Cel) (ub vb : Value) : Prop where
  o : Owns wr b w.heap.size s l m
  x : Bx wr g yb ub vb
  r : YR wr w.heap.size (fun k => k ≠ b) u v l m
  bel : Below w.heap.size w wr
  hb : w.heap.size ≤ b
  hg : w.heap.size ≤ g
  n : g ≠ b
  well : Well s
  rel : Rel s y
  z : Sz l m
theorem PI.below {w wr : World} {b g : Nat} {s y : Cel} {l : List S80} {m : List S64} {u v : Value} {yb : Cel} {ub vb : Value} {w3 : World} (h : PI w wr b g s y l m u v yb ub vb) (hb : Below wr.heap.size wr w3) : PI w w3 b g s y l m u v yb ub vb := ⟨h.o.below hb, blk_below h.x hb, h.r.below hb, below_step h.bel hb, h.hb, h.hg, h.n, h.well, h.rel, h.z⟩
theorem PI.played {w wr : World} {b g : Nat} {s y : Cel} {l : List S80} {m : List S64} {u v : Value} {yb : Cel} {ub vb : Value} {w3 : World} {s' y' : Cel} {l' : List S80} {m' : List S64} {u' v' : Value} (h : PI w wr b g s y l m u v yb ub vb) (k : PR wr w3 b w.heap.size (fun k => k ≠ b) s' y' l' m' u' v') : PI w w3 b g s' y' l' m' u' v' yb ub vb := ⟨k.o, blk_chg h.x k.chg h.n, k.r, Chg.below h.bel k.chg (fun i q => by have := h.hb; omega) h.bel.size, h.hb, h.hg, h.n, k.well, k.rel, k.z⟩
theorem PI.far {w wr : World} {b g : Nat} {s y : Cel} {l : List S80} {m : List S64} {u v : Value} {yb : Cel} {ub vb : Value} {w3 : World} {gn : Nat} {cs : Array Value} (h : PI w wr b g s y l m u v yb ub vb) (hc : Chg (· = gn) wr w3) (hz : wr.heap[gn]? = some (.cells cs 56 (0, 0))) (h1 : gn ≠ b) (h2 : gn ≠ g) (h3 : w.heap.size ≤ gn) : PI w w3 b g s y l m u v yb ub vb := ⟨h.o.far hz (by decide) (by decide) h1 hc, blk_chg h.x hc (Ne.symm h2), h.r.far hz (by decide) (by decide) hc, Chg.below h.bel hc (fun i q => by omega) h.bel.size, h.hb, h.hg, h.n, h.well, h.rel, h.z⟩
theorem PI.put {w wr : World} {b g : Nat} {s y : Cel} {l : List S80} {m : List S64} {u v : Value} {yb : Cel} {ub vb : Value} (h : PI w wr b g s y l m u v yb ub vb) : PI w ((((((((((((((wr.setCell ⟨g, 0, none⟩ (.bool y.again)).setCell ⟨g, 1, none⟩ (.int .i64 y.tries)).setCell ⟨g, 2, none⟩ (.int .i64 y.base)).setCell ⟨g, 3, none⟩ (.int .i64 y.factor)).setCell ⟨g, 4, none⟩ (.int .i64 y.cap)).setCell ⟨g, 5, none⟩ (.int .i64 y.state)).setCell ⟨g, 6, none⟩ (.int .i64 y.gen)).setCell ⟨g, 7, none⟩ (.int .i64 y.task)).setCell ⟨g, 8, none⟩ (.int .i64 y.fails)).setCell ⟨g, 9, none⟩ (.int .i64 y.next)).setCell ⟨g, 10, none⟩ (.int .i64 y.last)).setCell ⟨g, 11, none⟩ (.int .i64 y.kind)).setCell ⟨g, 12, none⟩ (u)).setCell ⟨g, 13, none⟩ (v)) b g s y l m u v y u v := by
  have hp := reput wr g yb y ub vb u v h.x
  exact ⟨h.o.far h.x (by decide) (by decide) h.n hp.2, hp.1, h.r.far h.x (by decide) (by decide) hp.2, Chg.below h.bel hp.2 (fun i q => by have := h.hg; omega) h.bel.size, h.hb, h.hg, h.n, h.well, h.rel, h.z⟩
theorem PI.yfacts {w wr : World} {b g : Nat} {s y : Cel} {l : List S80} {m : List S64} {u v : Value} {yb : Cel} {ub vb : Value} (h : PI w wr b g s y l m u v yb ub vb) : wr.cell? ⟨g, 0, none⟩ = some (.bool yb.again) ∧ wr.cell? ⟨g, 1, none⟩ = some (.int .i64 yb.tries) ∧ wr.cell? ⟨g, 2, none⟩ = some (.int .i64 yb.base) ∧ wr.cell? ⟨g, 3, none⟩ = some (.int .i64 yb.factor) ∧ wr.cell? ⟨g, 4, none⟩ = some (.int .i64 yb.cap) ∧ wr.cell? ⟨g, 5, none⟩ = some (.int .i64 yb.state) ∧ wr.cell? ⟨g, 6, none⟩ = some (.int .i64 yb.gen) ∧ wr.cell? ⟨g, 7, none⟩ = some (.int .i64 yb.task) ∧ wr.cell? ⟨g, 8, none⟩ = some (.int .i64 yb.fails) ∧ wr.cell? ⟨g, 9, none⟩ = some (.int .i64 yb.next) ∧ wr.cell? ⟨g, 10, none⟩ = some (.int .i64 yb.last) ∧ wr.cell? ⟨g, 11, none⟩ = some (.int .i64 yb.kind) ∧ wr.cell? ⟨g, 12, none⟩ = some (ub) ∧ wr.cell? ⟨g, 13, none⟩ = some (vb) := by
  obtain ⟨b0, b1, b2, b3, b4, b5, b6, b7, b8, b9, b10, b11, b12, b13, bf⟩ := h.x.facts
  exact ⟨b0, b1, b2, b3, b4, b5, b6, b7, b8, b9, b10, b11, b12, b13⟩
/-- Two cells of the code: the one that is left (s0), and its clone. -/
structure CI (w wr : World) (b b' g n : Nat) (s0 : Cel) (l0 : List S80) (m0 : List S64) (s y : Cel) (l : List S80) (m : List S64) (u v : Value) : Prop where
  o0 : Owns wr b w.heap.size s0 l0 m0
  o : Owns wr b' n s l m
  x : Bx wr g y u v
  r : YR wr w.heap.size (fun k => k ≠ b ∧ k < n) u v l m
  bel : Below w.heap.size w wr
  hb : w.heap.size ≤ b
  hg : w.heap.size ≤ g
  hbn : b < n
  hgn : g < n
  hn : n ≤ b'
  n : g ≠ b
  well : Well s
  rel : Rel s y
  z : Sz l m
theorem PI.cloned {w wr w4 : World} {b b' g : Nat} {s y : Cel} {l : List S80} {m : List S64} {u v : Value} (h : PI w wr b g s y l m u v y u v) (hb : wr.heap.size ≤ b') (ho : Owns w4 b' wr.heap.size s l m) (hc : Below wr.heap.size wr w4) : CI w w4 b b' g wr.heap.size s l m s y l m u v :=
  ⟨h.o.below hc, ho, blk_below h.x hc, (YR.mono h.r (Nat.le_refl _) (fun k q _ q2 => ⟨q, q2⟩)).below hc, below_step h.bel hc, h.hb, h.hg, h.o.lt, blk_lt h.x, hb, h.n, h.well, h.rel, h.z⟩
theorem CI.step {w wr w4 : World} {b b' g n : Nat} {s0 s1 : Cel} {l0 l1 : List S80} {m0 m1 : List S64} {s y : Cel} {l : List S80} {m : List S64} {u v : Value} (h : CI w wr b b' g n s0 l0 m0 s y l m u v) (hc : Chg (· = b) wr w4) (ho : Owns w4 b w.heap.size s1 l1 m1) : CI w w4 b b' g n s1 l1 m1 s y l m u v :=
  ⟨ho, h.o.other hc h.hbn (by have := h.hn; have := h.hbn; omega), blk_chg h.x hc h.n, h.r.chg hc (fun k q => q.1), Chg.below h.bel hc (fun i q => by have := h.hb; omega) h.bel.size, h.hb, h.hg, h.hbn, h.hgn, h.hn, h.n, h.well, h.rel, h.z⟩
theorem CI.left {w wr : World} {b b' g n : Nat} {s0 : Cel} {l0 : List S80} {m0 : List S64} {s y : Cel} {l : List S80} {m : List S64} {u v : Value} (h : CI w wr b b' g n s0 l0 m0 s y l m u v) : PI w wr b' g s y l m u v y u v :=
  ⟨h.o.lower (by have := h.hbn; have := h.hb; omega), h.x, YR.mono h.r (Nat.le_refl _) (fun k q _ _ => by have := h.hn; omega), h.bel, by have := h.hbn; have := h.hb; have := h.hn; omega, h.hg, by have := h.hgn; have := h.hn; omega, h.well, h.rel, h.z⟩
theorem CI.yfacts {w wr : World} {b b' g n : Nat} {s0 : Cel} {l0 : List S80} {m0 : List S64} {s y : Cel} {l : List S80} {m : List S64} {u v : Value} (h : CI w wr b b' g n s0 l0 m0 s y l m u v) : wr.cell? ⟨g, 0, none⟩ = some (.bool y.again) ∧ wr.cell? ⟨g, 1, none⟩ = some (.int .i64 y.tries) ∧ wr.cell? ⟨g, 2, none⟩ = some (.int .i64 y.base) ∧ wr.cell? ⟨g, 3, none⟩ = some (.int .i64 y.factor) ∧ wr.cell? ⟨g, 4, none⟩ = some (.int .i64 y.cap) ∧ wr.cell? ⟨g, 5, none⟩ = some (.int .i64 y.state) ∧ wr.cell? ⟨g, 6, none⟩ = some (.int .i64 y.gen) ∧ wr.cell? ⟨g, 7, none⟩ = some (.int .i64 y.task) ∧ wr.cell? ⟨g, 8, none⟩ = some (.int .i64 y.fails) ∧ wr.cell? ⟨g, 9, none⟩ = some (.int .i64 y.next) ∧ wr.cell? ⟨g, 10, none⟩ = some (.int .i64 y.last) ∧ wr.cell? ⟨g, 11, none⟩ = some (.int .i64 y.kind) ∧ wr.cell? ⟨g, 12, none⟩ = some (u) ∧ wr.cell? ⟨g, 13, none⟩ = some (v) := by
  obtain ⟨b0, b1, b2, b3, b4, b5, b6, b7, b8, b9, b10, b11, b12, b13, bf⟩ := h.x.facts
  exact ⟨b0, b1, b2, b3, b4, b5, b6, b7, b8, b9, b10, b11, b12, b13⟩
def ActAt (w : World) (ad : Addr) (i : Nat) (a : ActV) (Bv Bf : Option Addr) (cv cf : Nat) : Prop := w.cell? (ad.add (i * 6)) = some (.int .i64 a.kind) ∧ w.cell? ⟨(ad.add (i * 6)).block, (ad.add (i * 6)).off + 1, none⟩ = some (.int .i64 a.task) ∧ w.cell? ⟨(ad.add (i * 6)).block, (ad.add (i * 6)).off + 2, none⟩ = some (.int .i64 a.time) ∧ w.cell? ⟨(ad.add (i * 6)).block, (ad.add (i * 6)).off + 3, none⟩ = some (.int .i64 a.ok) ∧ w.cell? ⟨(ad.add (i * 6)).block, (ad.add (i * 6)).off + 4, none⟩ = some (.slice Bv a.vl.length cv) ∧ w.cell? ⟨(ad.add (i * 6)).block, (ad.add (i * 6)).off + 5, none⟩ = some (.slice Bf a.fl.length cf)
theorem ActAt.below {w wr : World} {ad : Addr} {i : Nat} {a : ActV} {Bv Bf : Option Addr} {cv cf : Nat} (h : ActAt w ad i a Bv Bf cv cf) (hb : Below w.heap.size w wr) : ActAt wr ad i a Bv Bf cv cf := by
  obtain ⟨p0, p1, p2, p3, p4, p5⟩ := h
  have k : ∀ {q : Addr} {x : Value}, w.cell? q = some x → wr.cell? q = some x := fun {q x} hq => (World.cell?_of_block (hb.block q.block (World.block_lt_of_cell? w q hq))).trans hq
  exact ⟨k p0, k p1, k p2, k p3, k p4, k p5⟩
theorem PI.facts {w wr : World} {b g : Nat} {s y : Cel} {l : List S80} {m : List S64} {u v : Value} {yb : Cel} {ub vb : Value} {ad : Addr} {i : Nat} {a : ActV} {Bv Bf : Option Addr} {cv cf : Nat} (h : PI w wr b g s y l m u v yb ub vb) (ha : ActAt w ad i a Bv Bf cv cf) : wr.cell? ⟨g, 0, none⟩ = some (.bool yb.again) ∧ wr.cell? ⟨g, 1, none⟩ = some (.int .i64 yb.tries) ∧ wr.cell? ⟨g, 2, none⟩ = some (.int .i64 yb.base) ∧ wr.cell? ⟨g, 3, none⟩ = some (.int .i64 yb.factor) ∧ wr.cell? ⟨g, 4, none⟩ = some (.int .i64 yb.cap) ∧ wr.cell? ⟨g, 5, none⟩ = some (.int .i64 yb.state) ∧ wr.cell? ⟨g, 6, none⟩ = some (.int .i64 yb.gen) ∧ wr.cell? ⟨g, 7, none⟩ = some (.int .i64 yb.task) ∧ wr.cell? ⟨g, 8, none⟩ = some (.int .i64 yb.fails) ∧ wr.cell? ⟨g, 9, none⟩ = some (.int .i64 yb.next) ∧ wr.cell? ⟨g, 10, none⟩ = some (.int .i64 yb.last) ∧ wr.cell? ⟨g, 11, none⟩ = some (.int .i64 yb.kind) ∧ wr.cell? ⟨g, 12, none⟩ = some (ub) ∧ wr.cell? ⟨g, 13, none⟩ = some (vb) ∧ wr.cell? (ad.add (i * 6)) = some (.int .i64 a.kind) ∧ wr.cell? ⟨(ad.add (i * 6)).block, (ad.add (i * 6)).off + 1, none⟩ = some (.int .i64 a.task) ∧ wr.cell? ⟨(ad.add (i * 6)).block, (ad.add (i * 6)).off + 2, none⟩ = some (.int .i64 a.time) ∧ wr.cell? ⟨(ad.add (i * 6)).block, (ad.add (i * 6)).off + 3, none⟩ = some (.int .i64 a.ok) ∧ wr.cell? ⟨(ad.add (i * 6)).block, (ad.add (i * 6)).off + 4, none⟩ = some (.slice Bv a.vl.length cv) ∧ wr.cell? ⟨(ad.add (i * 6)).block, (ad.add (i * 6)).off + 5, none⟩ = some (.slice Bf a.fl.length cf) := by
  obtain ⟨b0, b1, b2, b3, b4, b5, b6, b7, b8, b9, b10, b11, b12, b13⟩ := h.yfacts
  obtain ⟨p0, p1, p2, p3, p4, p5⟩ := ha.below h.bel
  exact ⟨b0, b1, b2, b3, b4, b5, b6, b7, b8, b9, b10, b11, b12, b13, p0, p1, p2, p3, p4, p5⟩
theorem Put.later {w w' : World} {A B : Option Addr} {c d : Nat} {l : List S80} {m : List S64} (h : Put w A B c d l m) (hb : Below w.heap.size w w') : Put w' A B c d l m := h.below hb
theorem PI.play {w wr : World} {b g : Nat} {s y : Cel} {l : List S80} {m : List S64} {u v : Value} {yb : Cel} {ub vb : Value} {a : ActV} {A B : Option Addr} {c d : Nat} (h : PI w wr b g s y l m u v yb ub vb) (hput : Put w A B c d a.vl a.fl) (hsa : Sz a.vl a.fl) (hk : amongB a.kind ≠ 4) : PlayC wr b w.heap.size (fun k => k ≠ b) y u v a A B c d :=
  play_o wr b w.heap.size (fun k => k ≠ b) s y l m u v a A B c d h.o h.well h.rel h.r h.z (fun q => q rfl) (fun k hk => by have := h.o.lt; omega) h.bel.size (fun w' hc => hput.later (Chg.below h.bel hc (fun i q => by have := h.hb; omega) h.bel.size)) hsa hk
theorem PI.told {w wr : World} {b g : Nat} {s y : Cel} {l : List S80} {m : List S64} {u v : Value} {yb : Cel} {ub vb : Value} (h : PI w wr b g s y l m u v yb ub vb) (hl : Laid w) (t : Int) : Calls Tryd.prog 22 #[.pointer (some ⟨b, 0, none⟩), agg y u v, .int .i64 t] wr fun e w' => e = .returned (.bool true) ∧ Below wr.heap.size wr w' :=
  told_both wr b w.heap.size (fun k => k ≠ b) s y l m u v t h.o h.rel h.well h.r h.z (hl.below h.bel)
theorem zfactsB {wr : World} {gz : Nat} (hz : wr.heap[gz]? = some (.cells z14 56 (0, 0))) : wr.cell? ⟨gz, 0, none⟩ = some (.bool false) ∧ wr.cell? ⟨gz, 1, none⟩ = some (.int .i64 0) ∧ wr.cell? ⟨gz, 2, none⟩ = some (.int .i64 0) ∧ wr.cell? ⟨gz, 3, none⟩ = some (.int .i64 0) ∧ wr.cell? ⟨gz, 4, none⟩ = some (.int .i64 0) ∧ wr.cell? ⟨gz, 5, none⟩ = some (.int .i64 0) ∧ wr.cell? ⟨gz, 6, none⟩ = some (.int .i64 0) ∧ wr.cell? ⟨gz, 7, none⟩ = some (.int .i64 0) ∧ wr.cell? ⟨gz, 8, none⟩ = some (.int .i64 0) ∧ wr.cell? ⟨gz, 9, none⟩ = some (.int .i64 0) ∧ wr.cell? ⟨gz, 10, none⟩ = some (.int .i64 0) ∧ wr.cell? ⟨gz, 11, none⟩ = some (.int .i64 0) ∧ wr.cell? ⟨gz, 12, none⟩ = some (.slice none 0 0) ∧ wr.cell? ⟨gz, 13, none⟩ = some (.slice none 0 0) ∧ ∀ k, wr.frozen? ⟨gz, k, none⟩ = false := by
  unfold z14 at hz
  exact ⟨(blk_cell hz 0).trans rfl, (blk_cell hz 1).trans rfl, (blk_cell hz 2).trans rfl, (blk_cell hz 3).trans rfl, (blk_cell hz 4).trans rfl, (blk_cell hz 5).trans rfl, (blk_cell hz 6).trans rfl, (blk_cell hz 7).trans rfl, (blk_cell hz 8).trans rfl, (blk_cell hz 9).trans rfl, (blk_cell hz 10).trans rfl, (blk_cell hz 11).trans rfl, (blk_cell hz 12).trans rfl, (blk_cell hz 13).trans rfl, fun k => blk_frozen hz k⟩
theorem PI.stored {w w3 w6 : World} {b g : Nat} {s y s' y' : Cel} {l l' : List S80} {m m' : List S64} {u v u' v' : Value} {yb : Cel} {ub vb : Value} (h4 : PI w w3.drew b g s y l m u v yb ub vb) (h5 : PI w (w3.alloc (.cells #[.bool false, .int .i64 0, .int .i64 0, .int .i64 0, .int .i64 0, .int .i64 0, .int .i64 0, .int .i64 0, .int .i64 0, .int .i64 0, .int .i64 0, .int .i64 0, .slice none 0 0, .slice none 0 0] 56)).drew b g s y l m u v yb ub vb) (k : PR (w3.alloc (.cells #[.bool false, .int .i64 0, .int .i64 0, .int .i64 0, .int .i64 0, .int .i64 0, .int .i64 0, .int .i64 0, .int .i64 0, .int .i64 0, .int .i64 0, .int .i64 0, .slice none 0 0, .slice none 0 0] 56)).drew w6 b w.heap.size (fun k => k ≠ b) s' y' l' m' u' v') : w6.heap[w3.heap.size]? = some (.cells z14 56 (0, 0)) ∧ Bx ((((((((((((((w6.setCell ⟨w3.heap.size, 0, none⟩ (.bool y'.again)).setCell ⟨w3.heap.size, 1, none⟩ (.int .i64 y'.tries)).setCell ⟨w3.heap.size, 2, none⟩ (.int .i64 y'.base)).setCell ⟨w3.heap.size, 3, none⟩ (.int .i64 y'.factor)).setCell ⟨w3.heap.size, 4, none⟩ (.int .i64 y'.cap)).setCell ⟨w3.heap.size, 5, none⟩ (.int .i64 y'.state)).setCell ⟨w3.heap.size, 6, none⟩ (.int .i64 y'.gen)).setCell ⟨w3.heap.size, 7, none⟩ (.int .i64 y'.task)).setCell ⟨w3.heap.size, 8, none⟩ (.int .i64 y'.fails)).setCell ⟨w3.heap.size, 9, none⟩ (.int .i64 y'.next)).setCell ⟨w3.heap.size, 10, none⟩ (.int .i64 y'.last)).setCell ⟨w3.heap.size, 11, none⟩ (.int .i64 y'.kind)).setCell ⟨w3.heap.size, 12, none⟩ (u')).setCell ⟨w3.heap.size, 13, none⟩ (v')) w3.heap.size y' u' v' ∧ PI w ((((((((((((((w6.setCell ⟨w3.heap.size, 0, none⟩ (.bool y'.again)).setCell ⟨w3.heap.size, 1, none⟩ (.int .i64 y'.tries)).setCell ⟨w3.heap.size, 2, none⟩ (.int .i64 y'.base)).setCell ⟨w3.heap.size, 3, none⟩ (.int .i64 y'.factor)).setCell ⟨w3.heap.size, 4, none⟩ (.int .i64 y'.cap)).setCell ⟨w3.heap.size, 5, none⟩ (.int .i64 y'.state)).setCell ⟨w3.heap.size, 6, none⟩ (.int .i64 y'.gen)).setCell ⟨w3.heap.size, 7, none⟩ (.int .i64 y'.task)).setCell ⟨w3.heap.size, 8, none⟩ (.int .i64 y'.fails)).setCell ⟨w3.heap.size, 9, none⟩ (.int .i64 y'.next)).setCell ⟨w3.heap.size, 10, none⟩ (.int .i64 y'.last)).setCell ⟨w3.heap.size, 11, none⟩ (.int .i64 y'.kind)).setCell ⟨w3.heap.size, 12, none⟩ (u')).setCell ⟨w3.heap.size, 13, none⟩ (v')) b g s' y' l' m' u' v' yb ub vb ∧ g ≠ w3.heap.size := by
  have hbl : b < w3.heap.size := h4.o.lt
  have hgl : g < w3.heap.size := blk_lt h4.x
  have hz : w6.heap[w3.heap.size]? = some (.cells z14 56 (0, 0)) := blk_chg (w := (w3.alloc (.cells #[.bool false, .int .i64 0, .int .i64 0, .int .i64 0, .int .i64 0, .int .i64 0, .int .i64 0, .int .i64 0, .int .i64 0, .int .i64 0, .int .i64 0, .int .i64 0, .slice none 0 0, .slice none 0 0] 56)).drew) (blk_new w3 (.cells #[.bool false, .int .i64 0, .int .i64 0, .int .i64 0, .int .i64 0, .int .i64 0, .int .i64 0, .int .i64 0, .int .i64 0, .int .i64 0, .int .i64 0, .int .i64 0, .slice none 0 0, .slice none 0 0] 56)) k.chg (fun q => by omega)
  exact ⟨hz, (put14 w6 _ y' u' v' hz).1, (h5.played k).far (put14 w6 _ y' u' v' hz).2 hz (by omega) (by omega) h4.bel.size, by omega⟩
set_option maxHeartbeats 8000000 in
set_option maxRecDepth 100000 in
theorem walk_plays (w : World) (ag : Bool) (tr ba fa ca : Int) (A : Option Addr) (l : List ActV) (c : Nat) (hc : l.length ≤ c) (hr : Kd.C kact w A l.length l) (hok : ∀ x ∈ l, actOk x) (hla : Laid w) :
    Calls Tryd.prog 6 #[.agg #[.bool ag, .int .i64 tr, .int .i64 ba, .int .i64 fa, .int .i64 ca], .slice A l.length c] w fun e w' => e = .returned (.bool true) ∧ Below w.heap.size w w' := by
  have HR := Lib.hid hr
  have HOK := Lib.hid hok
  have HLA := Lib.hid hla
  have HM := Lib.hid (And.intro hr.2.1 hc)
  clear hr hok hla hc
  go_enter Tryd.func6, Tryd.ntmps6
  go_upto_region 1 with fail
  obtain ⟨w1, gb, e1, eg, hk1, hb1⟩ : ∃ w1 gb, w1 = w.alloc (.cells #[.bool ag, .int .i64 tr, .int .i64 ba, .int .i64 fa, .int .i64 ca] 25) ∧ gb = w.heap.size ∧ w1.heap[gb]? = some (.cells #[.bool ag, .int .i64 tr, .int .i64 ba, .int .i64 fa, .int .i64 ca] 25 (0, 0)) ∧ Below w.heap.size w w1 := ⟨_, _, rfl, rfl, blk_new w _, (Below.refl _ _).alloc (Nat.le_refl _) _⟩
  rw [← e1, ← eg]
  have HK1 := Lib.hid hk1
  have HB1 := Lib.hid hb1
  have hgb : gb < w1.heap.size := blk_lt hk1
  clear e1 eg hk1 hb1
  have n0 := (blk_cell HK1.out 0).trans rfl
  have n1 := (blk_cell HK1.out 1).trans rfl
  have n2 := (blk_cell HK1.out 2).trans rfl
  have n3 := (blk_cell HK1.out 3).trans rfl
  have n4 := (blk_cell HK1.out 4).trans rfl
  go_wp2_with fail
  by_cases hp : polOk tr ba fa ca
  rotate_left
  · refine (new_bad _ ag tr ba fa ca hp).mono ?_
    rintro _ w2 ⟨rfl, hb2⟩
    have HK2 := Lib.hid (blk_below HK1.out hb2)
    have HB2 := Lib.hid (below_step HB1.out hb2)
    clear hb2 n0 n1 n2 n3 n4
    have n0 := (blk_cell HK2.out 0).trans rfl
    have n1 := (blk_cell HK2.out 1).trans rfl
    have n2 := (blk_cell HK2.out 2).trans rfl
    have n3 := (blk_cell HK2.out 3).trans rfl
    have n4 := (blk_cell HK2.out 4).trans rfl
    go_wp2_with fail
    refine (newr_bad _ ag tr ba fa ca hp).mono ?_
    rintro _ w3 ⟨u, v, rfl, hu, hv, hb3⟩
    obtain ⟨A', c', rfl⟩ := Kd.R_slice hu
    obtain ⟨B', d', rfl⟩ := Kd.R_slice hv
    have HB3 := Lib.hid (below_step HB2.out hb3)
    clear hb3 hu hv n0 n1 n2 n3 n4
    unfold agg Cel.cells
    go_wp2_with fail
    go_ret
    exact ⟨rfl, HB3.out.alloc HB3.out.size _⟩
  refine (new_good _ ag tr ba fa ca hp).mono ?_
  rintro _ w2 ⟨b, rfl, h2, hb2, hbb⟩
  have HK2 := Lib.hid (blk_below HK1.out hb2)
  have HO2 := Lib.hid (show Owns w2 b w.heap.size (freshC ag tr ba fa ca) [] [] from Owns.nil h2)
  have HB2 := Lib.hid (below_step HB1.out hb2)
  have HBB := Lib.hid (Nat.le_trans HB1.out.size hbb)
  clear h2 hb2 hbb n0 n1 n2 n3 n4
  have n0 := (blk_cell HK2.out 0).trans rfl
  have n1 := (blk_cell HK2.out 1).trans rfl
  have n2 := (blk_cell HK2.out 2).trans rfl
  have n3 := (blk_cell HK2.out 3).trans rfl
  have n4 := (blk_cell HK2.out 4).trans rfl
  go_wp2_with fail
  refine (newr_good _ ag tr ba fa ca hp).mono ?_
  rintro _ w3 ⟨u, v, rfl, hu, hv, hb3⟩
  have HY3 := Lib.hid (show YR w3 w.heap.size (fun k => k ≠ b) u v [] [] from YR.mono ⟨hu, hv⟩ HB2.out.size (fun k _ q _ => by have := HO2.out.lt; omega))
  have HO3 := Lib.hid (HO2.out.below hb3)
  have HB3 := Lib.hid (below_step HB2.out hb3)
  clear hu hv hb3 n0 n1 n2 n3 n4 HO2 HK2 HB2 HK1 HB1
  obtain ⟨A', B', c', d', rfl, rfl⟩ := HY3.out.slices
  have HREL := Lib.hid (Rel.fresh ag tr ba fa ca)
  have HWELL := Lib.hid (Well.fresh (a := ag) hp)
  clear hp
  generalize freshC ag tr ba fa ca = y0 at *
  unfold agg Cel.cells
  go_upto_region 3 with fail
  obtain ⟨w4, g, e4, eg, hI⟩ : ∃ w4 g, w4 = w3.alloc (.cells #[.bool y0.again, .int .i64 y0.tries, .int .i64 y0.base, .int .i64 y0.factor, .int .i64 y0.cap, .int .i64 y0.state, .int .i64 y0.gen, .int .i64 y0.task, .int .i64 y0.fails, .int .i64 y0.next, .int .i64 y0.last, .int .i64 y0.kind, (.slice A' 0 c'), (.slice B' 0 d')] 56) ∧ g = w3.heap.size ∧ PI w w4 b g y0 y0 [] [] (.slice A' 0 c') (.slice B' 0 d') y0 (.slice A' 0 c') (.slice B' 0 d') := by
    have hal : Below w3.heap.size w3 (w3.alloc (.cells #[.bool y0.again, .int .i64 y0.tries, .int .i64 y0.base, .int .i64 y0.factor, .int .i64 y0.cap, .int .i64 y0.state, .int .i64 y0.gen, .int .i64 y0.task, .int .i64 y0.fails, .int .i64 y0.next, .int .i64 y0.last, .int .i64 y0.kind, (.slice A' 0 c'), (.slice B' 0 d')] 56)) := (Below.refl _ _).alloc (Nat.le_refl _) _
    exact ⟨_, _, rfl, rfl, ⟨HO3.out.below hal, blk_new w3 _, HY3.out.below hal, below_step HB3.out hal, HBB.out, HB3.out.size, by have := HO3.out.lt; omega, HWELL.out, HREL.out, ⟨by decide, by decide⟩⟩⟩
  rw [← e4, ← eg]
  have HI := Lib.hid hI
  clear e4 eg hI HO3 HY3 HB3 HBB
  go_wp2_with fail
  go_loopg [5, 9] l.length (fun gk v5 v9 wr => ∃ (b i : Nat) (s y : Cel) (vl : List S80) (fl : List S64) (u v : Value), v5 = .pointer (some ⟨b, 0, none⟩) ∧ v9 = .int .i64 i ∧ gk = l.length - i ∧ i ≤ l.length ∧ Hid (PI w wr b g s y vl fl u v y u v))
  case atStart => exact ⟨b, 0, y0, y0, [], [], _, _, rfl, rfl, by simp, by omega, HI⟩
  case round =>
    clear HI
    obtain ⟨b, i, s, y, vl, fl, u, v, rfl, rfl, rfl, hil, HI⟩ := hrel
    by_cases hlt : i < l.length
    rotate_left
    · have hlt' : ¬ (i : Int) < (l.length : Int) := by omega
      obtain ⟨b0, b1, b2, b3, b4, b5, b6, b7, b8, b9, b10, b11, b12, b13⟩ := HI.out.yfacts
      go_wp2_with fail
      refine (HI.out.told HLA.out 0).mono ?_
      rintro _ w9 ⟨rfl, hb9⟩
      have HB9 := Lib.hid (below_step HI.out.bel hb9)
      clear hb9 b0 b1 b2 b3 b4 b5 b6 b7 b8 b9 b10 b11 b12 b13
      go_wp2_with fail
      go_ret
      exact ⟨rfl, HB9.out⟩
    have hlt' : (i : Int) < (l.length : Int) := by omega
    obtain ⟨ad, Bv, cv, Bf, cf, hAd, q0, q1, q2, q3, q4, q5, hv1, hv2, hv3⟩ := act_at HR.out HOK.out i hlt
    subst hAd
    generalize l[i] = a at q0 q1 q2 q3 q4 q5 hv1 hv2 hv3
    have HAC := Lib.hid (show ActAt w ad i a Bv Bf cv cf from ⟨q0, q1, q2, q3, q4, q5⟩)
    have HPT := Lib.hid (show Put w Bv Bf cv cf a.vl a.fl from ⟨hv1.2, hv1.1, hv3.1, hv2.2, hv2.1, hv3.2, HLA.out⟩)
    have HSA := Lib.hid (show Sz a.vl a.fl from hv3)
    have hwi : wrap64 ((i : Int) + 1) = ((i + 1 : Nat) : Int) := by
      have h9 : l.length ≤ maxLen := HM.out.1
      simp only [maxLen] at h9
      rw [← i64_w, IntWalk.i64_in _ (by omega)]; omega
    clear hv1 hv2 hv3 q0 q1 q2 q3 q4 q5
    obtain ⟨p0, p1, p2, p3, p4, p5⟩ := HAC.out.below HI.out.bel
    go_wp2_with fail
    generalize hkr : amongB a.kind = kr
    refine (among_be a.kind _ hkr).mono ?_
    rintro _ w3 ⟨rfl, n, e3⟩
    have HI3 := Lib.hid (HI.out.below (w3 := w3) (by rw [e3]; exact pw_below_drewN (Below.refl _ _) n))
    clear p0 p1 p2 p3 p4 p5 e3 HI
    go_upto_if 53 with fail
    go_cut [5] (fun v5 wx => ∃ (b : Nat) (s y : Cel) (vl : List S80) (fl : List S64) (u v : Value), v5 = .pointer (some ⟨b, 0, none⟩) ∧ Hid (PI w wx b g s y vl fl u v y u v))
    case first =>
      by_cases h4 : kr = 4
      · subst h4
        clear hkr
        go_wp2_with fail
        refine (clone_o _ b w.heap.size s vl fl HI3.out.o HI3.out.z).mono ?_
        rintro _ w4 ⟨b', rfl, hbl, ho4, hb4⟩
        have HC4 := Lib.hid (HI3.out.cloned hbl ho4 hb4)
        obtain ⟨r, e, s1, l1, m1, -, -, -, HBC⟩ := begin_o w4 b w.heap.size s vl fl 1 y.last HC4.out.o0 HC4.out.well
        have HBC := Lib.hid HBC
        obtain ⟨b0, b1, b2, b3, b4, b5, b6, b7, b8, b9, b10, b11, b12, b13⟩ := HC4.out.yfacts
        clear hbl ho4 hb4 HI3
        go_wp2_with fail
        refine HBC.out.mono ?_
        rintro _ w5 ⟨rfl, hc5, ho5⟩
        have HC5 := Lib.hid (HC4.out.step hc5 ho5)
        clear hc5 ho5 HC4 HBC b0 b1 b2 b3 b4 b5 b6 b7 b8 b9 b10 b11 b12 b13
        obtain ⟨e2, s2, l2, m2, -, -, HRC⟩ := reset_o w5 b w.heap.size s1 l1 m1 y.last HC5.out.o0
        have HRC := Lib.hid HRC
        obtain ⟨b0, b1, b2, b3, b4, b5, b6, b7, b8, b9, b10, b11, b12, b13⟩ := HC5.out.yfacts
        go_wp2_with fail
        refine HRC.out.mono ?_
        rintro _ w6 ⟨rfl, hc6, ho6⟩
        have HI6 := Lib.hid (HC5.out.step hc6 ho6).left
        clear hc6 ho6 HC5 HRC b0 b1 b2 b3 b4 b5 b6 b7 b8 b9 b10 b11 b12 b13
        go_wp2_with fail
        go_meet
        case rel => exact ⟨b', s, y, vl, fl, u, v, rfl, HI6⟩
      · have hkb : (kr == 4) = false := by simpa using h4
        have HK4 := Lib.hid (show amongB a.kind ≠ 4 by rw [hkr]; exact h4)
        clear h4 hkr
        go_upto_region 17 with fail
        have HI4 := Lib.hid (HI3.out.below (Below.refl w3.heap.size w3).drew)
        have HI5 := Lib.hid (HI3.out.below ((Below.refl w3.heap.size w3).alloc (Nat.le_refl _) (.cells #[.bool false, .int .i64 0, .int .i64 0, .int .i64 0, .int .i64 0, .int .i64 0, .int .i64 0, .int .i64 0, .int .i64 0, .int .i64 0, .int .i64 0, .int .i64 0, .slice none 0 0, .slice none 0 0] 56)).drew)
        have HPL4 := Lib.hid (HI4.out.play HPT.out HSA.out HK4.out)
        have HPL5 := Lib.hid (HI5.out.play HPT.out HSA.out HK4.out)
        obtain ⟨Ay, By, cy, dy, rfl, rfl⟩ := HI4.out.r.slices
        unfold PlayC agg Cel.cells at HPL4 HPL5
        go_region_held3 (fun w' => w'.cell? ⟨g, 0, none⟩ = some (.bool y.again) ∧ w'.cell? ⟨g, 1, none⟩ = some (.int .i64 y.tries) ∧ w'.cell? ⟨g, 2, none⟩ = some (.int .i64 y.base) ∧ w'.cell? ⟨g, 3, none⟩ = some (.int .i64 y.factor) ∧ w'.cell? ⟨g, 4, none⟩ = some (.int .i64 y.cap) ∧ w'.cell? ⟨g, 5, none⟩ = some (.int .i64 y.state) ∧ w'.cell? ⟨g, 6, none⟩ = some (.int .i64 y.gen) ∧ w'.cell? ⟨g, 7, none⟩ = some (.int .i64 y.task) ∧ w'.cell? ⟨g, 8, none⟩ = some (.int .i64 y.fails) ∧ w'.cell? ⟨g, 9, none⟩ = some (.int .i64 y.next) ∧ w'.cell? ⟨g, 10, none⟩ = some (.int .i64 y.last) ∧ w'.cell? ⟨g, 11, none⟩ = some (.int .i64 y.kind) ∧ w'.cell? ⟨g, 12, none⟩ = some ((.slice Ay vl.length cy)) ∧ w'.cell? ⟨g, 13, none⟩ = some ((.slice By fl.length dy)) ∧ w'.cell? (ad.add (i * 6)) = some (.int .i64 a.kind) ∧ w'.cell? ⟨(ad.add (i * 6)).block, (ad.add (i * 6)).off + 1, none⟩ = some (.int .i64 a.task) ∧ w'.cell? ⟨(ad.add (i * 6)).block, (ad.add (i * 6)).off + 2, none⟩ = some (.int .i64 a.time) ∧ w'.cell? ⟨(ad.add (i * 6)).block, (ad.add (i * 6)).off + 3, none⟩ = some (.int .i64 a.ok) ∧ w'.cell? ⟨(ad.add (i * 6)).block, (ad.add (i * 6)).off + 4, none⟩ = some (.slice Bv a.vl.length cv) ∧ w'.cell? ⟨(ad.add (i * 6)).block, (ad.add (i * 6)).off + 5, none⟩ = some (.slice Bf a.fl.length cf)) (first | with_reducible exact HI4.out.facts HAC.out | with_reducible exact HI5.out.facts HAC.out | with_reducible exact HI6.out.facts HAC.out | with_reducible exact HI7.out.facts HAC.out | with_reducible exact HI8.out.2.2.1.facts HAC.out | with_reducible exact (HI6.out.below ((Below.refl _ _).alloc (Nat.le_refl _) _)).facts HAC.out | fail) (first | (go_at_call 21; with_reducible refine Calls.mono HPL4.out ?_; rintro _ w6 ⟨s', y', l', m', u', v', rfl, hpr⟩; obtain ⟨Aq, Bq, cq, dq, rfl, rfl⟩ := hpr.r.slices; (try unfold agg Cel.cells); have HI6 := Lib.hid (HI4.out.played hpr); clear hpr) | (go_at_call 21; with_reducible refine Calls.mono HPL5.out ?_; rintro _ w6 ⟨s', y', l', m', u', v', rfl, hpr⟩; obtain ⟨Aq, Bq, cq, dq, rfl, rfl⟩ := hpr.r.slices; (try unfold agg Cel.cells); have HI7 := Lib.hid (HI5.out.played hpr); have HI8 := Lib.hid (PI.stored HI4.out HI5.out hpr); obtain ⟨z0, z1, z2, z3, z4, z5, z6, z7, z8, z9, z10, z11, z12, z13, zf⟩ := zfactsB HI8.out.1; clear hpr) | fail)
        · rename_i hHl
          clear hHl
          obtain ⟨W, gn, eW, eg, hx, hI⟩ : ∃ W gn, W = (w6.alloc (.cells #[.bool y'.again, .int .i64 y'.tries, .int .i64 y'.base, .int .i64 y'.factor, .int .i64 y'.cap, .int .i64 y'.state, .int .i64 y'.gen, .int .i64 y'.task, .int .i64 y'.fails, .int .i64 y'.next, .int .i64 y'.last, .int .i64 y'.kind, (.slice Aq l'.length cq), (.slice Bq m'.length dq)] 56)) ∧ gn = w6.heap.size ∧ Bx W gn y' (.slice Aq l'.length cq) (.slice Bq m'.length dq) ∧ PI w W b g s' y' l' m' (.slice Aq l'.length cq) (.slice Bq m'.length dq) y (.slice Ay vl.length cy) (.slice By fl.length dy) := ⟨_, _, rfl, rfl, blk_new w6 _, HI6.out.below ((Below.refl _ _).alloc (Nat.le_refl _) _)⟩
          rw [← eW, ← eg]
          clear eW eg HI3 HI4 HI5 HPL4 HPL5
          obtain ⟨z0, z1, z2, z3, z4, z5, z6, z7, z8, z9, z10, z11, z12, z13, zf⟩ := hx.facts
          obtain ⟨b0, b1, b2, b3, b4, b5, b6, b7, b8, b9, b10, b11, b12, b13, bf⟩ := hI.x.facts
          have HI9 := Lib.hid hI
          clear hx hI
          go_wp2_with fail
          go_meet
          case rel => exact ⟨b, s', y', l', m', _, _, rfl, Lib.hid HI9.out.put⟩
        · rename_i hHl
          clear hHl
          obtain ⟨W, gn, eW, eg, hx, hI⟩ : ∃ W gn, W = ((((((((((((((w6.setCell ⟨w3.heap.size, 0, none⟩ (.bool y'.again)).setCell ⟨w3.heap.size, 1, none⟩ (.int .i64 y'.tries)).setCell ⟨w3.heap.size, 2, none⟩ (.int .i64 y'.base)).setCell ⟨w3.heap.size, 3, none⟩ (.int .i64 y'.factor)).setCell ⟨w3.heap.size, 4, none⟩ (.int .i64 y'.cap)).setCell ⟨w3.heap.size, 5, none⟩ (.int .i64 y'.state)).setCell ⟨w3.heap.size, 6, none⟩ (.int .i64 y'.gen)).setCell ⟨w3.heap.size, 7, none⟩ (.int .i64 y'.task)).setCell ⟨w3.heap.size, 8, none⟩ (.int .i64 y'.fails)).setCell ⟨w3.heap.size, 9, none⟩ (.int .i64 y'.next)).setCell ⟨w3.heap.size, 10, none⟩ (.int .i64 y'.last)).setCell ⟨w3.heap.size, 11, none⟩ (.int .i64 y'.kind)).setCell ⟨w3.heap.size, 12, none⟩ ((.slice Aq l'.length cq))).setCell ⟨w3.heap.size, 13, none⟩ ((.slice Bq m'.length dq))) ∧ gn = w3.heap.size ∧ Bx W gn y' (.slice Aq l'.length cq) (.slice Bq m'.length dq) ∧ PI w W b g s' y' l' m' (.slice Aq l'.length cq) (.slice Bq m'.length dq) y (.slice Ay vl.length cy) (.slice By fl.length dy) := ⟨_, _, rfl, rfl, HI8.out.2.1, HI8.out.2.2.1⟩
          rw [← eW, ← eg]
          clear eW eg HI3 HI4 HI5 HPL4 HPL5
          obtain ⟨z0, z1, z2, z3, z4, z5, z6, z7, z8, z9, z10, z11, z12, z13, zf⟩ := hx.facts
          obtain ⟨b0, b1, b2, b3, b4, b5, b6, b7, b8, b9, b10, b11, b12, b13, bf⟩ := hI.x.facts
          have HI9 := Lib.hid hI
          clear hx hI
          go_wp2_with fail
          go_meet
          case rel => exact ⟨b, s', y', l', m', _, _, rfl, Lib.hid HI9.out.put⟩
    case rest =>
      obtain ⟨b, s, y, vl, fl, u, v, rfl, HI⟩ := hcut
      obtain ⟨Ay, By, cy, dy, rfl, rfl⟩ := HI.out.r.slices
      clear HI3
      go_upto_region 21 with fail
      have HI4 := Lib.hid (HI.out.below (Below.refl wc.heap.size wc).drew)
      have HTO := Lib.hid (HI4.out.told HLA.out a.time)
      unfold agg Cel.cells at HTO
      go_region_held3 (fun w' => w'.cell? ⟨g, 0, none⟩ = some (.bool y.again) ∧ w'.cell? ⟨g, 1, none⟩ = some (.int .i64 y.tries) ∧ w'.cell? ⟨g, 2, none⟩ = some (.int .i64 y.base) ∧ w'.cell? ⟨g, 3, none⟩ = some (.int .i64 y.factor) ∧ w'.cell? ⟨g, 4, none⟩ = some (.int .i64 y.cap) ∧ w'.cell? ⟨g, 5, none⟩ = some (.int .i64 y.state) ∧ w'.cell? ⟨g, 6, none⟩ = some (.int .i64 y.gen) ∧ w'.cell? ⟨g, 7, none⟩ = some (.int .i64 y.task) ∧ w'.cell? ⟨g, 8, none⟩ = some (.int .i64 y.fails) ∧ w'.cell? ⟨g, 9, none⟩ = some (.int .i64 y.next) ∧ w'.cell? ⟨g, 10, none⟩ = some (.int .i64 y.last) ∧ w'.cell? ⟨g, 11, none⟩ = some (.int .i64 y.kind) ∧ w'.cell? ⟨g, 12, none⟩ = some ((.slice Ay vl.length cy)) ∧ w'.cell? ⟨g, 13, none⟩ = some ((.slice By fl.length dy)) ∧ w'.cell? (ad.add (i * 6)) = some (.int .i64 a.kind) ∧ w'.cell? ⟨(ad.add (i * 6)).block, (ad.add (i * 6)).off + 1, none⟩ = some (.int .i64 a.task) ∧ w'.cell? ⟨(ad.add (i * 6)).block, (ad.add (i * 6)).off + 2, none⟩ = some (.int .i64 a.time) ∧ w'.cell? ⟨(ad.add (i * 6)).block, (ad.add (i * 6)).off + 3, none⟩ = some (.int .i64 a.ok) ∧ w'.cell? ⟨(ad.add (i * 6)).block, (ad.add (i * 6)).off + 4, none⟩ = some (.slice Bv a.vl.length cv) ∧ w'.cell? ⟨(ad.add (i * 6)).block, (ad.add (i * 6)).off + 5, none⟩ = some (.slice Bf a.fl.length cf)) (first | with_reducible exact HI4.out.facts HAC.out | with_reducible exact HI9.out.facts HAC.out | fail) (first | (go_at_call 22; with_reducible refine Calls.mono HTO.out ?_; rintro _ w9 ⟨rfl, hb9⟩; have HI9 := Lib.hid (HI4.out.below hb9); clear hb9) | fail)
      go_wp2_with fail
      go_roundg (l.length - (i + 1))
      case measure => omega
      case rel => exact ⟨b, i + 1, s, y, vl, fl, _, _, rfl, by first | rfl | rw [hwi], rfl, by omega, HI9⟩
end Go.Proofs.YtchbammjcnhkiaaDoor.Ce
