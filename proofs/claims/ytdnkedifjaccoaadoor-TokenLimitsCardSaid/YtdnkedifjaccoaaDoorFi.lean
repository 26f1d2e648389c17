/- Where the whole that ends at each crack begins: the walk of fail.begins and of fail.Check where the failure is right. -/
import Derived.Test.YtdnkedifjaccoaaDoorFh
import Derived.Deep.RegionLaw
import Derived.Deep.AppendLies
namespace Go.Proofs.YtdnkedifjaccoaaDoor.Ce
open Go.RowKit Go.Maps Go.Proofs.YtdnkedifjaccoaaDoor Go.Proofs.YtdnkedifjaccoaaDoorW.PrintWords Go.Proofs.YtdnkedifjaccoaaDoorW.PrintLast Go.Proofs.YtdnkedifjaccoaaDoorW.PrintMore PToken
attribute [local go_sem] max2_int min2_int max_two min_two max_three min_three max_four min_four
set_option linter.unusedVariables false
set_option linter.unusedSimpArgs false
structure BI (w wr : World) (gf n capf : Nat) (vs : Value) (S : List Int) : Prop where
  f : ∃ F : List Int, F.length = n ∧ Kd.R (Kd.int .i64) 3 wr w.heap.size (fun k => k = gf) (.slice (some ⟨gf, 0, none⟩) n capf) F
  s : Kd.R (Kd.int .i64) 3 wr w.heap.size (fun k => k ≠ gf) vs S
  bel : Below w.heap.size w wr
section
variable {w wr : World} {gf n capf : Nat} {vs : Value} {S : List Int}
theorem BI.below {w2 : World} (H : BI w wr gf n capf vs S) (hb : Below wr.heap.size wr w2) : BI w w2 gf n capf vs S := by
  obtain ⟨F, h1, h2⟩ := H.f
  exact ⟨⟨F, h1, Kd.R_below h2 hb⟩, Kd.R_below H.s hb, below_step H.bel hb⟩
theorem BI.cell (H : BI w wr gf n capf vs S) (i : Nat) (hi : i < n) : ∃ x, wr.cell? ⟨gf, i, none⟩ = some (.int .i64 x) ∧ wr.frozen? ⟨gf, i, none⟩ = false := by
  obtain ⟨F, h1, h2⟩ := H.f
  exact ⟨_, Kd.R_celln (0 : Int) h2 (i : Int) (by omega) (by omega)⟩
theorem BI.put (H : BI w wr gf n capf vs S) (i : Nat) (x : Int) : BI w (wr.setCell ⟨gf, i, none⟩ (.int .i64 x)) gf n capf vs S := by
  obtain ⟨F, h1, h2⟩ := H.f
  have hgb := Kd.R_base h2 gf rfl
  have hc : Chg (· = gf) wr (wr.setCell ⟨gf, i, none⟩ (.int .i64 x)) := (Chg.refl (· = gf) wr).setCell (p := ⟨gf, i, none⟩) rfl _
  refine ⟨⟨F.set i x, by rw [List.length_set]; exact h1, ?_⟩, Kd.R_far H.s (p := ⟨gf, i, none⟩) (fun k hk => hk) _, Chg.below H.bel hc (fun k e => by omega) H.bel.size⟩
  have := Kd.R_putn h2 (i : Int) x
  rw [Int.toNat_natCast] at this
  exact this
theorem BI.pop {B : Option Addr} {k d : Nat} (H : BI w wr gf n capf (.slice B k d) S) (m : Nat) (hm : m ≤ S.length) : BI w wr gf n capf (.slice B m d) (S.take m) :=
  ⟨H.f, Kd.R_take H.s hm, H.bel⟩
theorem BI.app {w7 : World} {vs' : Value} {S' : List Int} (H : BI w wr gf n capf vs S) (hr : Kd.R (Kd.int .i64) 3 w7 w.heap.size (fun k => k ≠ gf) vs' S') (hb : Below w.heap.size w w7) (hg : wr.grownBy w7 vs.ownBlock) : BI w w7 gf n capf vs' S' := by
  obtain ⟨F, h1, h2⟩ := H.f
  exact ⟨⟨F, h1, Kd.R_grown h2 hg (fun k hk e => H.s.1 k e.symm hk)⟩, hr, hb⟩
theorem BI.glt (H : BI w wr gf n capf vs S) : gf < wr.heap.size := by
  obtain ⟨F, h1, h2⟩ := H.f
  exact Kd.R_lt h2 gf rfl
end
theorem info3 : (Tryd.prog.info? 3).map (fun i => (i.zero, i.size, i.bytes)) = some (some (.int .i64 0), 1, 8) := by kernel_rfl
/-- How many wholes there are behind the cracks; none where one of them is not right. -/
def stkG : Int → List S56 → Option Int
  | s, [] => some s
  | s, c :: r => if wellB c = true ∧ c.f1 ≤ s then stkG (s - c.f1 + 1) r else none
def beginsB (f : List S56) : Bool := stkG 0 f == some 1
def checkF (f : List S56) : Int := if f.length > 1024 then 3 else if beginsB f = true then 0 else 5
theorem well_n0 {c : S56} (h : wellB c = true) : 0 ≤ c.f1 := by
  unfold wellB okN at h
  simp only [Bool.and_eq_true] at h
  have h1 := h.1
  by_cases s1 : sortG c.f0 = 1
  · rw [if_pos s1] at h1; simp at h1; omega
  · rw [if_neg s1] at h1
    by_cases s2 : sortG c.f0 = 2
    · rw [if_pos s2] at h1; simp at h1; omega
    · rw [if_neg s2] at h1
      by_cases s3 : sortG c.f0 = 3
      · rw [if_pos s3] at h1; simp at h1; omega
      · rw [if_neg s3] at h1
        by_cases s4 : sortG c.f0 = 4
        · rw [if_pos s4] at h1; simp at h1; omega
        · rw [if_neg s4] at h1; exact absurd h1 (by decide)
theorem drop_t56 (f : List S56) (i : Nat) (hi : i < f.length) : f.drop i = rd_T56 f (i : Int) :: f.drop (i + 1) := by
  rw [List.drop_eq_getElem_cons hi]
  congr 1
  unfold rd_T56
  rw [Int.toNat_natCast, List.getD_eq_getElem?_getD, List.getElem?_eq_getElem hi]
  rfl
set_option maxHeartbeats 8000000 in
set_option maxRecDepth 100000 in
theorem begins_is (w : World) (A : Option Addr) (c : Nat) (f : List S56) (hla : LaidF w) (hl : Kd.C k56 w A f.length f) (hn : f.length ≤ 1024) :
    Calls Tryd.prog 52 #[.slice A f.length c] w fun e w' => ∃ v, e = .returned (.tuple #[v, .bool (beginsB f)]) ∧ Below w.heap.size w w' := by
  have HLA := Lib.hid hla
  have HL := Lib.hid hl
  have HN := Lib.hid hn
  obtain ⟨rr, hrr⟩ : ∃ rr, rr = beginsB f := ⟨_, rfl⟩
  have HRR := Lib.hid hrr
  rw [← hrr]
  clear hla hl hn hrr
  go_enter Tryd.func52, Tryd.ntmps52
  go_wp2_with (first | ((with_reducible refine gate_dst (N := 10) rfl ?_); refine Kd.R_make (Kd.int .i64) _ 3 rfl (N := 10) rfl 51 _ _ rfl (f.length : Int) rfl rfl Tryd.underlying51 (.int .i64 0) 8 info3 rfl (by decide) (by omega) 0 (ok := fun _ => True) (okp := fun _ => True) rfl (fun _ hk => hk) trivial (by omega) (by have := HN.out; omega) (Below.refl _ _) (Nat.le_refl _) ?_; intro v10 w5 ho hb hg hnew; have HO := Lib.hid ho; have HB5 := Lib.hid hb; clear ho hb hg hnew) | ((with_reducible refine gate_dst (N := 11) rfl ?_); refine Kd.R_lit (Kd.int .i64) w5.heap.size 3 ?hg (N := 11) ?hd (xs := ([] : List Int)) (inner := []) (ok := fun _ => True) (okp := fun _ => True) ?hr ?hp (fun _ hk => hk) trivial (Below.refl _ _) (Nat.le_refl _) (by simp) ?_; (case hd => rfl); (case hg => rfl); (case hr => first | (go_simp; done) | (go_simp; rfl)); (case hp => exact (Reps.none _ _)); intro v11 w6 ho6 hb6 hg_ hnew_; have HO6 := Lib.hid ho6; have HB6 := Lib.hid hb6; clear hg_ hnew_ ho6 hb6) | fail)
  by_cases hz0 : f.length = 0
  · have hz1 : (f.length : Int) = 0 := by omega
    have HR0 := Lib.hid (show rr = false by rw [HRR.out, List.eq_nil_of_length_eq_zero hz0]; rfl)
    have HBZ := Lib.hid (below_step HB5.out HB6.out)
    obtain ⟨B11, d11, e11⟩ := Kd.R_slice HO6.out
    subst e11
    clear hz0
    go_wp2_with fail
    go_loopg [5, 14] 0 (fun gk v5 v14 wr => v5 = .slice B11 ([] : List Int).length d11 ∧ v14 = .int .i64 0 ∧ Hid (Below w.heap.size w wr))
    case atStart => exact ⟨rfl, rfl, HBZ⟩
    case round =>
      obtain ⟨rfl, rfl, HB⟩ := hrel
      go_wp2_with fail
      try go_quiet (fail)
      go_wp2_with fail
      go_ret2
      first | exact ⟨⟨_, by rw [HR0.out]; rfl⟩, HB.out⟩ | exact ⟨_, by rw [HR0.out]; rfl, HB.out⟩ | exact ⟨by rw [HR0.out], HB.out⟩ | exact ⟨by rw [HR0.out]; rfl, HB.out⟩
  have HP := Lib.hid (show 0 < f.length by omega)
  clear hz0
  obtain ⟨gf, capf, eg, -⟩ := Kd.R_form HO.out (by rw [List.length_replicate]; have := HP.out; omega)
  rw [List.length_replicate, Int.toNat_natCast] at eg
  subst eg
  have HB0 := Lib.hid (show BI w w6 gf f.length capf v11 [] from by
    have h1 := Kd.R_below (Kd.R_tight rfl HO.out) HB6.out
    have hlt := Kd.R_lt HO.out gf rfl
    refine ⟨⟨_, by rw [List.length_replicate, Int.toNat_natCast], Kd.R_mono h1 (fun k hk => by injection hk)⟩, ?_, below_step HB5.out HB6.out⟩
    have h2 := Kd.R_mono (Kd.R_bound HO6.out) (ok' := fun k => k ≠ gf) (fun k q e => by have := q.2.1; omega)
    exact Kd.R_lower h2 HB5.out.size)
  clear HO HB5 HO6 HB6
  go_wp2_with fail
  go_loopg [5, 14] f.length (fun gk v5 v14 wr => ∃ (i : Nat) (S : List Int), v14 = .int .i64 i ∧ gk = f.length - i ∧ Hid (i ≤ f.length ∧ S.length ≤ i ∧ stkG S.length (f.drop i) = stkG 0 f) ∧ Hid (BI w wr gf f.length capf v5 S))
  case atStart => exact ⟨0, [], rfl, by simp, Lib.hid ⟨Nat.zero_le _, Nat.le_refl _, rfl⟩, HB0⟩
  case round =>
    clear HB0
    obtain ⟨i, S, rfl, rfl, HI, HB⟩ := hrel
    obtain ⟨B7, d7, rfl⟩ := Kd.R_slice HB.out.s
    by_cases hlt : i < f.length
    rotate_left
    · have hlt' : ¬ (i : Int) < (f.length : Int) := by omega
      have HE := Lib.hid (show rr = (some (S.length : Int) == some 1) by
        have := HI.out.2.2
        rw [List.drop_eq_nil_of_le (by omega), stkG] at this
        rw [HRR.out, beginsB, ← this])
      have HBF := Lib.hid HB.out.bel
      clear hlt
      by_cases hS : S.length = 1
      · have hS1 : (S.length : Int) = 1 := by omega
        have HR0 := Lib.hid (show rr = true by rw [HE.out, hS1]; rfl)
        clear hS
        go_wp2_with fail
        try go_quiet (fail)
        go_wp2_with fail
        go_ret2
        first | exact ⟨⟨_, by rw [HR0.out]⟩, HBF.out⟩ | exact ⟨⟨_, by rw [HR0.out]; rfl⟩, HBF.out⟩ | exact ⟨_, by rw [HR0.out]; rfl, HBF.out⟩ | exact ⟨by rw [HR0.out], HBF.out⟩ | exact ⟨by rw [HR0.out]; rfl, HBF.out⟩
      · have hS1 : ¬ (S.length : Int) = 1 := by omega
        have hS2 : ((S.length : Int) == 1) = false := by simpa using hS1
        have hS3 : decide (S.length = 1) = false := by simpa using hS
        have hS4 : (S.length == 1) = false := by simpa using hS
        have HR0 := Lib.hid (show rr = false by rw [HE.out]; simpa using hS1)
        go_wp2_with fail
        try go_quiet (fail)
        go_wp2_with fail
        go_ret2
        first | exact ⟨⟨_, by rw [HR0.out]⟩, HBF.out⟩ | exact ⟨⟨_, by rw [HR0.out]; rfl⟩, HBF.out⟩ | exact ⟨_, by rw [HR0.out]; rfl, HBF.out⟩ | exact ⟨by rw [HR0.out], HBF.out⟩ | exact ⟨by rw [HR0.out]; rfl, HBF.out⟩
    have hlt' : (i : Int) < (f.length : Int) := by omega
    have hwi : wrap64 ((i : Int) + 1) = ((i + 1 : Nat) : Int) := wsucc i (by have := HN.out; omega)
    have HLI := Lib.hid hlt
    have HST := Lib.hid (show stkG 0 f = if wellB (rd_T56 f (i : Int)) = true ∧ (rd_T56 f (i : Int)).f1 ≤ S.length then stkG ((S.length : Int) - (rd_T56 f (i : Int)).f1 + 1) (f.drop (i + 1)) else none by
      have := HI.out.2.2
      rw [drop_t56 f i hlt, stkG] at this
      exact this.symm)
    obtain ⟨ad, rfl, p0, p1, p2⟩ := at_T56 (Kd.C_below HL.out HB.out.bel) (i : Int) (by omega) hlt'
    rw [Int.toNat_natCast] at p0 p1 p2
    obtain ⟨⟨k, nn, t⟩, hc⟩ : ∃ c, c = rd_T56 f (i : Int) := ⟨_, rfl⟩
    rw [← hc] at HST p0 p1 p2
    have i0 : (0 : Int) ≤ (i : Int) := Int.natCast_nonneg i
    clear hc hlt
    go_upto_region 5 with fail
    obtain ⟨w3, e3⟩ : ∃ w3, w3 = wr.alloc (.cells #[.int .i64 k, .int .i64 nn, .string t] 56) := ⟨_, rfl⟩
    have hbw : Below wr.heap.size wr w3 := by rw [e3]; exact below_alloc (Below.refl _ _) _
    have k3 : w3.heap[wr.heap.size]? = some (.cells #[.int .i64 k, .int .i64 nn, .string t] 56 (0, 0)) := by rw [e3]; exact blk_new _ _
    rw [← e3]
    obtain ⟨bx, hbx⟩ : ∃ bx, bx = wr.heap.size := ⟨_, rfl⟩
    rw [← hbx] at k3 ⊢
    have HG3 := Lib.hid (show gf ≠ bx by have := HB.out.glt; omega)
    have HK3 := Lib.hid k3
    have HB3 := Lib.hid (HB.out.below hbw)
    have HW := Lib.hid (well_is w3 (HLA.out.below HB3.out.bel) k nn t)
    clear e3 hbw k3 hbx p0 p1 p2 HB
    have q0 := (blk_cell HK3.out 0).trans rfl
    have q1 := (blk_cell HK3.out 1).trans rfl
    have q2 := (blk_cell HK3.out 2).trans rfl
    cases hwl : wellB ⟨k, nn, t⟩ with
    | false =>
      rw [hwl] at HW
      have HR0 := Lib.hid (show rr = false by rw [HRR.out, beginsB, HST.out, if_neg (fun q => by have q1 : wellB ⟨k, nn, t⟩ = true := q.1; rw [hwl] at q1; exact absurd q1 (by decide))]; rfl)
      clear hwl HST
      go_wp2_with fail
      refine HW.out.mono ?_
      rintro _ w4 ⟨rfl, hb4⟩
      have HB4 := Lib.hid (HB3.out.below hb4)
      have HK4 := Lib.hid (blk_below HK3.out hb4)
      clear q0 q1 q2 hb4 HW HB3 HK3
      have q1 := (blk_cell HK4.out 1).trans rfl
      go_wp2_with fail
      try go_quiet (fail)
      go_wp2_with fail
      go_ret2
      first | exact ⟨⟨_, by rw [HR0.out]⟩, HB4.out.bel⟩ | exact ⟨⟨_, by rw [HR0.out]; rfl⟩, HB4.out.bel⟩ | exact ⟨_, by rw [HR0.out]; rfl, HB4.out.bel⟩ | exact ⟨by rw [HR0.out], HB4.out.bel⟩ | exact ⟨by rw [HR0.out]; rfl, HB4.out.bel⟩
    | true =>
    rw [hwl] at HW
    have HNN := Lib.hid (show 0 ≤ nn from well_n0 hwl)
    have HWT := Lib.hid hwl
    clear hwl
    by_cases hns0 : nn ≤ S.length
    rotate_left
    · have hns : nn > (S.length : Int) := by omega
      have hnsd : decide ((S.length : Int) < nn) = true := decide_eq_true hns
      have HR0 := Lib.hid (show rr = false by rw [HRR.out, beginsB, HST.out, if_neg (fun q => hns0 q.2)]; rfl)
      clear hns0 HST
      go_wp2_with fail
      refine HW.out.mono ?_
      rintro _ w4 ⟨rfl, hb4⟩
      have HB4 := Lib.hid (HB3.out.below hb4)
      have HK4 := Lib.hid (blk_below HK3.out hb4)
      clear q0 q1 q2 hb4 HW HB3 HK3
      have q1 := (blk_cell HK4.out 1).trans rfl
      go_wp2_with fail
      try go_quiet (fail)
      go_wp2_with fail
      go_ret2
      first | exact ⟨⟨_, by rw [HR0.out]⟩, HB4.out.bel⟩ | exact ⟨⟨_, by rw [HR0.out]; rfl⟩, HB4.out.bel⟩ | exact ⟨_, by rw [HR0.out]; rfl, HB4.out.bel⟩ | exact ⟨by rw [HR0.out], HB4.out.bel⟩ | exact ⟨by rw [HR0.out]; rfl, HB4.out.bel⟩
    have HNS := Lib.hid hns0
    have HNX := Lib.hid (show stkG 0 f = stkG ((S.length : Int) - nn + 1) (f.drop (i + 1)) by rw [HST.out]; exact if_pos ⟨HWT.out, hns0⟩)
    clear hns0 HST
    go_wp2_with fail
    refine HW.out.mono ?_
    rintro _ w4 ⟨rfl, hb4⟩
    have HB4 := Lib.hid (HB3.out.below hb4)
    have HK4 := Lib.hid (blk_below HK3.out hb4)
    clear q0 q1 q2 hb4 HW HB3 HK3
    have q0 := (blk_cell HK4.out 0).trans rfl
    have q1 := (blk_cell HK4.out 1).trans rfl
    have q2 := (blk_cell HK4.out 2).trans rfl
    have hns : ¬ (S.length : Int) < nn := by have := HNS.out; omega
    obtain ⟨x0, y0, y1⟩ := HB4.out.cell i HLI.out
    go_upto_region 8 with fail
    obtain ⟨w5, e5⟩ : ∃ w5, w5 = w4.setCell ⟨gf, i, none⟩ (.int .i64 (i : Int)) := ⟨_, rfl⟩
    have hB5 := HB4.out.put i (i : Int)
    have hK5 : (w4.setCell ⟨gf, i, none⟩ (.int .i64 (i : Int))).heap[bx]? = some (.cells #[.int .i64 k, .int .i64 nn, .string t] 56 (0, 0)) := (Below.heap_setCell _ _ _ _ (fun e => HG3.out e.symm)).trans HK4.out
    rw [← e5] at hB5 hK5
    rw [← e5]
    have HB5 := Lib.hid hB5
    have HK5 := Lib.hid hK5
    clear q0 q1 q2 y0 y1 x0 hB5 hK5 e5 HB4 HK4 hns
    have q0 := (blk_cell HK5.out 0).trans rfl
    have q1 := (blk_cell HK5.out 1).trans rfl
    have q2 := (blk_cell HK5.out 2).trans rfl
    obtain ⟨m, hm⟩ : ∃ m : Nat, (m : Int) = (S.length : Int) - nn := ⟨((S.length : Int) - nn).toNat, by have := HNS.out; omega⟩
    have HM := Lib.hid hm
    have HSL := Lib.hid (show S.length ≤ 1024 by have := HI.out.2.1; have := HN.out; have := HLI.out; omega)
    have hwm : wrap64 ((S.length : Int) - nn) = (m : Int) := by rw [hm, w64s (by have := HNS.out; have := HNN.out; have := HSL.out; omega) (by have := HNS.out; have := HNN.out; have := HSL.out; omega)]
    have hwm2 : IntKind.i64.wrap ((S.length : Int) - nn) = (m : Int) := by rw [i64_w]; exact hwm
    have hms : m ≤ S.length := by have := HNN.out; omega
    have HMS := Lib.hid hms
    have hmd : (m : Int) ≤ (d7 : Int) := by have := (Kd.R_reads' HB5.out.s).2.1; omega
    have m0 : (0 : Int) ≤ (m : Int) := Int.natCast_nonneg m
    clear hm hms
    by_cases hz : nn > 0
    rotate_left
    · have hz' : decide (0 < nn) = false := decide_eq_false hz
      go_wp2_with fail
      obtain ⟨x1, y0, y1⟩ := HB5.out.cell i HLI.out
      have HXP := Lib.hid (HB5.out.pop m HMS.out)
      have HTL := Lib.hid (show (S.take m).length = m by rw [List.length_take]; have := HMS.out; omega)
      have hrow : (w5.alloc (.cells #[.int .i64 x1] 3)).ownsRow w.heap.size 3 1 (.slice B7 m d7) m ((S.take m).map (Value.int .i64)) := by
        have := Kd.own_of_R (Kd.R_alloc HXP.out.s (.cells #[.int .i64 x1] 3))
        rw [HTL.out] at this
        exact this
      have HRW := Lib.hid hrow
      have HNW := Lib.hid (World.news_of_block (blk_new w5 (.cells #[.int .i64 x1] 3)))
      have HQB := Lib.hid (show m + 1 ≤ maxLen ∧ (m + 1) * 8 ≤ 140737488355328 ∧ w.heap.size ≤ (w5.alloc (.cells #[.int .i64 x1] 3)).heap.size from ⟨by have := HMS.out; have := HSL.out; unfold maxLen; omega, by have := HMS.out; have := HSL.out; omega, by rw [World.size_alloc]; have := HXP.out.bel.size; omega⟩)
      have hbl : bx < w5.heap.size := blk_lt HK5.out
      have hgl : gf < w5.heap.size := HXP.out.glt
      obtain ⟨i0', hi, hz0, hz1, hz2⟩ := info_parts info3
      have HIF := Lib.hid (And.intro hi (And.intro hz0 (And.intro hz1 hz2)))
      clear hi hz0 hz1 hz2 hrow q0 q2 y1
      go_region_law (refine step_append_lies _ rfl (.tmp 53) (.tmp 58) 51 rfl w.heap.size 3 i0' (.int .i64 0) 1 8 Tryd.underlying51 HIF.out.1 HIF.out.2.1 HIF.out.2.2.1 HIF.out.2.2.2 rfl (by decide) (.slice B7 m d7) m ((S.take m).map (Value.int .i64)) rfl HRW.out ⟨w5.heap.size, 0, none⟩ 1 1 [.int .i64 x1] rfl rfl HNW.out (by simp [Value.oneCell']) (by decide) HQB.out.1 HQB.out.2.1 HQB.out.2.2 _ rfl ?_; intro g cap' w7 hown hgrow hat hlt1; have HG := Lib.hid (And.intro hown (And.intro (show (w5.alloc (.cells #[.int .i64 x1] 3)).grownBy w7 (Value.slice B7 m d7).ownBlock from ⟨hgrow.os, hgrow.tape, hgrow.output, hgrow.size, hgrow.block⟩) hat)); clear hown hgrow hat hlt1)
      all_goals
        have HB10 := Lib.hid (show BI w w7 gf f.length capf (.slice (some ⟨g, 0, none⟩) (m + 1) cap') (S.take m ++ [x1]) from by
          have hA := HXP.out.below (below_alloc (Below.refl w5.heap.size w5) (.cells #[.int .i64 x1] 3))
          refine hA.app ?_ (Below.grown hA.bel HG.out.2.1 hA.bel.size (fun k hk => Kd.R_base hA.s k hk)) HG.out.2.1
          have h1 := HG.out.1
          have e1 : m + 1 = (S.take m ++ [x1]).length := by rw [List.length_append, HTL.out]; rfl
          have e2 : (S.take m).map (Value.int .i64) ++ [Value.int .i64 x1] = encs (Value.int .i64) (S.take m ++ [x1]) := by rw [encs_append]; rfl
          rw [e2] at h1
          rw [e1] at h1 ⊢
          refine Kd.R_of_own h1 (fun k hk => ?_)
          have hk' : g = k := by injection hk
          subst hk'
          rcases HG.out.2.2 with q | q
          · exact HXP.out.s.1 g q
          · have := HXP.out.glt
            have q' : g = (w5.alloc (.cells #[.int .i64 x1] 3)).heap.size := q
            rw [World.size_alloc] at q'
            omega)
        clear HG HRW HNW HQB HIF hbl hgl q1 y0
        (try go_wp2_with fail)
        go_roundg (f.length - (i + 1))
        case measure => exact Nat.sub_lt_sub_left HLI.out (Nat.lt_succ_self _)
        case rel => exact ⟨i + 1, S.take m ++ [x1], by first | rfl | rw [hwi], rfl, Lib.hid ⟨HLI.out, by rw [List.length_append, HTL.out]; have := HM.out; have := HNN.out; have := HI.out.2.1; simp; omega, by rw [List.length_append, HTL.out]; have h5 := HNX.out; rw [show ((m + [x1].length : Nat) : Int) = (S.length : Int) - nn + 1 from by have := HM.out; simp; omega]; exact h5.symm⟩, HB10⟩
    · have hz' : decide (0 < nn) = true := decide_eq_true hz
      have hm1 : (m : Int) < (S.length : Int) := by have := HM.out; omega
      obtain ⟨ae, eas, qs⟩ := Kd.at_int (Kd.R_reads' HB5.out.s).2.2 (m : Int) m0 hm1
      subst eas
      rw [Int.toNat_natCast] at qs
      obtain ⟨x0, y0, y1⟩ := HB5.out.cell i HLI.out
      go_upto_region 10 with fail
      obtain ⟨w6, e6⟩ : ∃ w6, w6 = w5.setCell ⟨gf, i, none⟩ (.int .i64 (rd S (m : Int))) := ⟨_, rfl⟩
      have hB6 := HB5.out.put i (rd S (m : Int))
      have hK6 : (w5.setCell ⟨gf, i, none⟩ (.int .i64 (rd S (m : Int)))).heap[bx]? = some (.cells #[.int .i64 k, .int .i64 nn, .string t] 56 (0, 0)) := (Below.heap_setCell _ _ _ _ (fun e => HG3.out e.symm)).trans HK5.out
      rw [← e6] at hB6 hK6
      rw [← e6]
      have HB6 := Lib.hid hB6
      have HK6 := Lib.hid hK6
      clear q0 q1 q2 y0 y1 x0 hB6 hK6 e6 qs HB5 HK5
      have q0 := (blk_cell HK6.out 0).trans rfl
      have q1 := (blk_cell HK6.out 1).trans rfl
      have q2 := (blk_cell HK6.out 2).trans rfl
      go_wp2_with fail
      obtain ⟨x1, y0, y1⟩ := HB6.out.cell i HLI.out
      have HXP := Lib.hid (HB6.out.pop m HMS.out)
      have HTL := Lib.hid (show (S.take m).length = m by rw [List.length_take]; have := HMS.out; omega)
      have hrow : (w6.alloc (.cells #[.int .i64 x1] 3)).ownsRow w.heap.size 3 1 (.slice (some ae) m d7) m ((S.take m).map (Value.int .i64)) := by
        have := Kd.own_of_R (Kd.R_alloc HXP.out.s (.cells #[.int .i64 x1] 3))
        rw [HTL.out] at this
        exact this
      have HRW := Lib.hid hrow
      have HNW := Lib.hid (World.news_of_block (blk_new w6 (.cells #[.int .i64 x1] 3)))
      have HQB := Lib.hid (show m + 1 ≤ maxLen ∧ (m + 1) * 8 ≤ 140737488355328 ∧ w.heap.size ≤ (w6.alloc (.cells #[.int .i64 x1] 3)).heap.size from ⟨by have := HMS.out; have := HSL.out; unfold maxLen; omega, by have := HMS.out; have := HSL.out; omega, by rw [World.size_alloc]; have := HXP.out.bel.size; omega⟩)
      have hbl : bx < w6.heap.size := blk_lt HK6.out
      have hgl : gf < w6.heap.size := HXP.out.glt
      obtain ⟨i0', hi, hz0, hz1, hz2⟩ := info_parts info3
      have HIF := Lib.hid (And.intro hi (And.intro hz0 (And.intro hz1 hz2)))
      clear hi hz0 hz1 hz2 hrow q0 q2 y1
      go_region_law (refine step_append_lies _ rfl (.tmp 53) (.tmp 58) 51 rfl w.heap.size 3 i0' (.int .i64 0) 1 8 Tryd.underlying51 HIF.out.1 HIF.out.2.1 HIF.out.2.2.1 HIF.out.2.2.2 rfl (by decide) (.slice (some ae) m d7) m ((S.take m).map (Value.int .i64)) rfl HRW.out ⟨w6.heap.size, 0, none⟩ 1 1 [.int .i64 x1] rfl rfl HNW.out (by simp [Value.oneCell']) (by decide) HQB.out.1 HQB.out.2.1 HQB.out.2.2 _ rfl ?_; intro g cap' w7 hown hgrow hat hlt1; have HG := Lib.hid (And.intro hown (And.intro (show (w6.alloc (.cells #[.int .i64 x1] 3)).grownBy w7 (Value.slice (some ae) m d7).ownBlock from ⟨hgrow.os, hgrow.tape, hgrow.output, hgrow.size, hgrow.block⟩) hat)); clear hown hgrow hat hlt1)
      all_goals
        have HB10 := Lib.hid (show BI w w7 gf f.length capf (.slice (some ⟨g, 0, none⟩) (m + 1) cap') (S.take m ++ [x1]) from by
          have hA := HXP.out.below (below_alloc (Below.refl w6.heap.size w6) (.cells #[.int .i64 x1] 3))
          refine hA.app ?_ (Below.grown hA.bel HG.out.2.1 hA.bel.size (fun k hk => Kd.R_base hA.s k hk)) HG.out.2.1
          have h1 := HG.out.1
          have e1 : m + 1 = (S.take m ++ [x1]).length := by rw [List.length_append, HTL.out]; rfl
          have e2 : (S.take m).map (Value.int .i64) ++ [Value.int .i64 x1] = encs (Value.int .i64) (S.take m ++ [x1]) := by rw [encs_append]; rfl
          rw [e2] at h1
          rw [e1] at h1 ⊢
          refine Kd.R_of_own h1 (fun k hk => ?_)
          have hk' : g = k := by injection hk
          subst hk'
          rcases HG.out.2.2 with q | q
          · exact HXP.out.s.1 g q
          · have := HXP.out.glt
            have q' : g = (w6.alloc (.cells #[.int .i64 x1] 3)).heap.size := q
            rw [World.size_alloc] at q'
            omega)
        clear HG HRW HNW HQB HIF hbl hgl q1 y0
        (try go_wp2_with fail)
        go_roundg (f.length - (i + 1))
        case measure => exact Nat.sub_lt_sub_left HLI.out (Nat.lt_succ_self _)
        case rel => exact ⟨i + 1, S.take m ++ [x1], by first | rfl | rw [hwi], rfl, Lib.hid ⟨HLI.out, by rw [List.length_append, HTL.out]; have := HM.out; have := HNN.out; have := HI.out.2.1; simp; omega, by rw [List.length_append, HTL.out]; have h5 := HNX.out; rw [show ((m + [x1].length : Nat) : Int) = (S.length : Int) - nn + 1 from by have := HM.out; simp; omega]; exact h5.symm⟩, HB10⟩
set_option maxHeartbeats 4000000 in
theorem fcheck_is (w : World) (A : Option Addr) (c : Nat) (f : List S56) (hla : LaidF w) (hl : Kd.C k56 w A f.length f) :
    Calls Tryd.prog 39 #[.slice A f.length c] w fun e w' => e = .returned (.int .i64 (checkF f)) ∧ Below w.heap.size w w' := by
  by_cases h : f.length > 1024
  · have HE := Lib.hid (show checkF f = 3 by unfold checkF; rw [if_pos h])
    have h1 : (1024 : Int) < (f.length : Int) := by omega
    have h2 : decide ((1024 : Int) < (f.length : Int)) = true := decide_eq_true h1
    clear h hla hl
    go_enter Tryd.func39, Tryd.ntmps39
    go_wp2_with fail
    go_ret
    exact ⟨by rw [HE.out]; rfl, Below.refl _ _⟩
  have HB := Lib.hid (begins_is w A c f hla hl (by omega))
  have hn : ¬ (1024 : Int) < (f.length : Int) := by omega
  have hn2 : decide ((1024 : Int) < (f.length : Int)) = false := decide_eq_false hn
  have HE := Lib.hid (show checkF f = if beginsB f = true then 0 else 5 by unfold checkF; rw [if_neg h])
  clear hla hl h
  cases hb : beginsB f with
  | true =>
    rw [hb] at HB HE
    go_enter Tryd.func39, Tryd.ntmps39
    go_wp2_with fail
    refine HB.out.mono ?_
    rintro _ w2 ⟨v, rfl, hb2⟩
    have HB2 := Lib.hid hb2
    clear hb2 HB hb
    go_wp2_with fail
    go_ret
    exact ⟨by rw [HE.out]; rfl, HB2.out⟩
  | false =>
    rw [hb] at HB HE
    go_enter Tryd.func39, Tryd.ntmps39
    go_wp2_with fail
    refine HB.out.mono ?_
    rintro _ w2 ⟨v, rfl, hb2⟩
    have HB2 := Lib.hid hb2
    clear hb2 HB hb
    go_wp2_with fail
    go_ret
    exact ⟨by rw [HE.out]; rfl, HB2.out⟩
end Go.Proofs.YtdnkedifjaccoaaDoor.Ce
