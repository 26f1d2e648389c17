/- reached, under: turned from what print.sh wrote for a law of this seat. -/
import Derived.Test.YtccjclmjoegibaaDoorQ0
import Derived.Test.YtccjclmjoegibaaDoorQ2
namespace Go.Proofs.YtccjclmjoegibaaDoor.PCloserOrders
open Go.RowKit Go.Proofs.YtccjclmjoegibaaDoorW.PrintWords Go.Proofs.YtccjclmjoegibaaDoorW.PrintLast Go.Proofs.YtccjclmjoegibaaDoorW.PrintMore
attribute [local go_sem] max2_int min2_int max_two min_two max_three min_three max_four min_four   -- for this text's walks alone
set_option linter.unusedVariables false
set_option linter.unusedSimpArgs false
/-! ### onceweblaw19_reached: function 10 -/
mutual
def onceweblaw19_reached.l0 : Nat → List (S33) → List (List Bool) → Int → Option ((List (List Bool)))
 | 0, _, _, _ => none
 | k + 1, x0, x3, x4 => if x4 < (x0.length : Int) then (if 0 ≤ (x0.length : Int) then (if ((x0.length : Int) : Int).toNat ≤ 281474976710656 then (if 0 ≤ x4 then ((oncewebbase_CopyInts.f ((rd_T33 x0 x4).f4)).bind fun t178 => (onceweblaw19_reached.l1 k x0 x3 x4 (List.replicate ((x0.length : Int) : Int).toNat false) t178)) else (none)) else (none)) else (none)) else (some x3)
def onceweblaw19_reached.l1 : Nat → List (S33) → List (List Bool) → Int → List Bool → List Int → Option ((List (List Bool)))
 | 0, _, _, _, _, _ => none
 | k + 1, x0, x3, x4, x5, x6 => if (x6.length : Int) > 0 then (if 0 ≤ (wrap64 ((x6.length : Int) - 1)) then (if (wrap64 ((x6.length : Int) - 1)) < (x6.length : Int) then (if (wrap64 ((x6.length : Int) - 1)) ≤ (x6.length : Int) then ((some (x6.take ((wrap64 ((x6.length : Int) - 1)) : Int).toNat : List Int)).bind fun y182 => (if (rd x6 (wrap64 ((x6.length : Int) - 1))) ≥ 0 then (if (rd x6 (wrap64 ((x6.length : Int) - 1))) < (x0.length : Int) then (if 0 ≤ (rd x6 (wrap64 ((x6.length : Int) - 1))) then (if (rd x6 (wrap64 ((x6.length : Int) - 1))) < (x5.length : Int) then (if (rdOf false x5 (rd x6 (wrap64 ((x6.length : Int) - 1))) = true) then (onceweblaw19_reached.l1 k x0 x3 x4 x5 y182) else (if y182.length + ((rd_T33 x0 (rd x6 (wrap64 ((x6.length : Int) - 1)))).f4).length < 17592186044416 then (onceweblaw19_reached.l1 k x0 x3 x4 (x5.set ((rd x6 (wrap64 ((x6.length : Int) - 1))) : Int).toNat true) (y182 ++ ((rd_T33 x0 (rd x6 (wrap64 ((x6.length : Int) - 1)))).f4))) else (none))) else (none)) else (none)) else (onceweblaw19_reached.l1 k x0 x3 x4 x5 y182)) else (onceweblaw19_reached.l1 k x0 x3 x4 x5 y182))) else (none)) else (none)) else (none)) else (if x3.length < 5864062014805 then (onceweblaw19_reached.l0 k x0 (x3 ++ [x5]) (wrap64 (x4 + 1))) else (none))
end
def onceweblaw19_reached.f (k : Nat) (l0 : List (S33)) : Option ((List (List Bool))) := onceweblaw19_reached.l0 k l0 (([] : List (List Bool))) 0
set_option maxHeartbeats 8000000 in
set_option maxRecDepth 100000 in
theorem onceweblaw19_reached.calls (k : Nat) (A0 : Option Addr) (c0 : Nat) (l0 : List (S33)) (r : List (List Bool)) (w : World) (hr0 : Kd.C k33 w A0 l0.length l0) (hc0 : l0.length ≤ c0) (h : onceweblaw19_reached.f k l0 = some r) :
  Calls Tryd.prog 10 #[.slice A0 l0.length c0] w fun e w' => ∃ v0_ : Value, e = .returned (v0_) ∧ Kd.S (Kd.slice 4 Kd.bool) 34 w' w.heap.size (fun _ => True) v0_ r ∧ Below w.heap.size w w' := by
 have HR0 := Aside0.mk hr0
 have HC0 := Aside0.mk hc0
 clear hr0 hc0
 have HB := Aside0.mk (Below.refl w.heap.size w)
 have H : (onceweblaw19_reached.l0 k l0 (([] : List (List Bool))) 0) = some r := h
 clear h
 obtain ⟨y171, hy171⟩ : ∃ y_ : List (List Bool), y_ = (([] : List (List Bool))) := ⟨_, rfl⟩
 replace H : (onceweblaw19_reached.l0 k l0 y171 0) = some r := by first | (rw [hy171]; with_reducible exact H) | (have H2_ := (Option.bind_some _ _).symm.trans H; rw [hy171]; with_reducible exact H2_) | (have H2_ := (Option.bind_some _ _).symm.trans H; with_reducible exact H2_) | with_reducible exact H | (rw [hy171]; exact H) | exact H
 have Ny171 := Aside0.mk hy171
 clear hy171
 have H' := Aside0.mk H
 clear H
 go_enter Tryd.func10, Tryd.ntmps10
 go_wp2_with (first | ((with_reducible refine gate_dst (N := 8) rfl ?_); (try (refine gate_guard (by rfl) ?_; dsimp only)); refine Kd.S_lit (Kd.slice 4 Kd.bool) _ 34 ?hg (N := 8) ?hd (xs := ([] : List (List Bool))) (inner := []) (ok := fun _ => True) (okp := fun _ => True) ?hr ?hp (fun _ hk => hk) trivial (Below.refl _ _) (Nat.le_refl _) (by simp) ?_; (case hd => rfl); (case hg => rfl); (case hr => first | (go_simp; done) | (go_simp; rfl)); (case hp => exact (Reps.none _ _)); intro v172 w2 ho3 hb hg_ hnew_; clear hg_ hnew_; (first | rw [← Ny171.out] at ho3 | (simp only [Int.reduceToNat] at ho3; rw [← Ny171.out] at ho3)); have n0_ := Aside0.mk (Kd.S_lower ho3 (below_size (by repeat (first | (with_reducible first | exact HB.out | apply below_alloc | apply pw_below_drewN | apply below_drew1) | exact HB.out)))); have n1_ := Aside0.mk (below_step (by repeat (first | (with_reducible first | exact HB.out | apply below_alloc | apply pw_below_drewN | apply below_drew1) | exact HB.out)) hb); clear HB; have HO173 := n0_; have HB := n1_; clear n0_ n1_; clear hb ho3))
 go_loopg [3, 4] k (fun kq v3 v4 w' => ∃ (x3_1 : List (List Bool)) (x4_1 : Int), v4 = .int .i64 x4_1 ∧ Aside0 (onceweblaw19_reached.l0 kq l0 x3_1 x4_1 = some r) ∧ Aside0 (kq ≤ k) ∧ Aside0 (Kd.S (Kd.slice 4 Kd.bool) 34 w' w.heap.size (fun _ => True) v3 x3_1) ∧ Aside0 (Below w.heap.size w w'))
 case atStart => exact ⟨(y171), (0), (by first | rfl | (simp; done) | (simp [*]; done)), H', ⟨Nat.le_refl _⟩, ⟨by (with_reducible repeat (first | apply Kd.S_alloc | apply Kd.S_drewN | apply Kd.S_drew)); exact HO173.out⟩, ⟨by repeat (first | (with_reducible first | exact HB.out | apply below_alloc | apply pw_below_drewN | apply below_drew1) | exact HB.out)⟩⟩
 case round =>
  clear H'
  try clear c1
  try clear p2
  obtain ⟨x3_1, x4_1, rfl, HA, HK1, HO_3, HB⟩ := hrel
  cases gk with
  | zero => exact absurd HA.out (by simp [onceweblaw19_reached.l0])
  | succ k1 =>
   have H := HA.out
   clear HA
   simp only [onceweblaw19_reached.l0] at H
   by_cases c4 : x4_1 < (l0.length : Int)
   ·rw [if_pos c4] at H
    have c4b0 : decide (x4_1 < (l0.length : Int)) = true := decide_eq_true c4
    clear c4
    by_cases c5 : 0 ≤ (l0.length : Int)
    ·rw [if_pos c5] at H
     have c5b0 := eq_true c5
     have c5b1 : decide (0 ≤ (l0.length : Int)) = true := decide_eq_true c5
     clear c5
     by_cases c6 : ((l0.length : Int) : Int).toNat ≤ 281474976710656
     ·rw [if_pos c6] at H
      have c6b0 := eq_true c6
      have c6b1 : decide (((l0.length : Int) : Int).toNat ≤ 281474976710656) = true := decide_eq_true c6
      clear c6
      obtain ⟨y174, hy174⟩ : ∃ y_ : List Bool, y_ = (List.replicate ((l0.length : Int) : Int).toNat false) := ⟨_, rfl⟩
      replace H : (if 0 ≤ x4_1 then ((oncewebbase_CopyInts.f ((rd_T33 l0 x4_1).f4)).bind fun t178 => (onceweblaw19_reached.l1 k1 l0 x3_1 x4_1 y174 t178)) else (none)) = some r := by first | (rw [hy174]; with_reducible exact H) | (have H2_ := (Option.bind_some _ _).symm.trans H; rw [hy174]; with_reducible exact H2_) | (have H2_ := (Option.bind_some _ _).symm.trans H; with_reducible exact H2_) | with_reducible exact H | (rw [hy174]; exact H) | exact H
      have Ny174 := Aside0.mk hy174
      clear hy174
      by_cases c7 : 0 ≤ x4_1
      ·rw [if_pos c7] at H
       have c7b0 : decide (0 ≤ x4_1) = true := decide_eq_true c7
       clear c7
       replace H := Option.bind_eq_some_iff.mp H
       obtain ⟨t178, A80, H⟩ := H
       replace H : (onceweblaw19_reached.l1 k1 l0 x3_1 x4_1 y174 t178) = some r := H
       have A8 := Aside0.mk A80
       clear A80
       have H' := Aside0.mk H
       clear H
       go_wp2_with (first | ((with_reducible refine gate_dst (N := 17) rfl ?_); (try (refine gate_guard (by rfl) ?_; dsimp only)); refine Kd.R_make Kd.bool _ 4 rfl (N := 17) rfl 34 _ _ rfl (l0.length : Int) rfl rfl Tryd.underlying34 (.bool false) 1 info4 rfl (by decide) (by omega) false (ok := fun _ => True) (okp := fun _ => True) rfl (fun _ hk => hk) trivial (of_decide_eq_true (by first | (with_reducible assumption) | assumption)) (Nat.le_trans (Nat.mul_le_mul_right _ (of_decide_eq_true (by first | (with_reducible assumption) | assumption) : (l0.length : Int).toNat ≤ 281474976710656)) (by omega)) (Below.refl _ _) (Nat.le_refl _) ?_; intro v175 w9 ho10 hb hg_ hnew_; clear hg_ hnew_; (first | rw [← Ny174.out] at ho10 | (simp only [Int.reduceToNat] at ho10; rw [← Ny174.out] at ho10)); have n0_ := Aside0.mk (Kd.S_elder' (by (with_reducible repeat (first | apply Kd.S_alloc | apply Kd.S_drewN | apply Kd.S_drew)); exact HO_3.out) (Kd.R_base ho10) hb); have n1_ := Aside0.mk (Kd.R_lower ho10 (below_size (by repeat (first | (with_reducible first | exact HB.out | apply below_alloc | apply pw_below_drewN | apply below_drew1) | exact HB.out)))); have n2_ := Aside0.mk (below_step (by repeat (first | (with_reducible first | exact HB.out | apply below_alloc | apply pw_below_drewN | apply below_drew1) | exact HB.out)) hb); clear HO_3; clear HB; have HO_3 := n0_; have HO176 := n1_; have HB := n2_; clear n0_ n1_ n2_; clear hb ho10; have p177 : 0 ≤ (x4_1 : Int) := of_decide_eq_true (by first | (with_reducible assumption) | assumption); have q177 : x4_1 < (l0.length : Int) := of_decide_eq_true (by first | (with_reducible assumption) | assumption); obtain ⟨ad177, A177_4, c177_4, e177, hx177_0, hx177_1, hx177_2, hx177_3, hx177_4, hx177_5, hx177_6, hl177_4, hi177_4⟩ := at_T33 HR0.out x4_1 p177 q177; cases e177; replace hx177_0 := (HB.out.cell (World.block_lt_of_cell? w _ hx177_0)).trans hx177_0; replace hx177_1 := (HB.out.cell (World.block_lt_of_cell? w _ hx177_1)).trans hx177_1; replace hx177_2 := (HB.out.cell (World.block_lt_of_cell? w _ hx177_2)).trans hx177_2; replace hx177_3 := (HB.out.cell (World.block_lt_of_cell? w _ hx177_3)).trans hx177_3; replace hx177_4 := (HB.out.cell (World.block_lt_of_cell? w _ hx177_4)).trans hx177_4; replace hx177_5 := (HB.out.cell (World.block_lt_of_cell? w _ hx177_5)).trans hx177_5; replace hx177_6 := (HB.out.cell (World.block_lt_of_cell? w _ hx177_6)).trans hx177_6; have HR177_4 := Aside0.mk hi177_4; have HC177_4 := Aside0.mk hl177_4; clear hi177_4 hl177_4; replace p177 := eq_true p177; replace q177 := eq_true q177) | ((with_reducible refine gate_callee (f := 12) rfl ?_); refine goesL_ (some 23) rfl rfl Tryd.func12 (by kernel_rfl) rfl #[.slice A177_4 ((rd_T33 l0 x4_1).f4).length c177_4] rfl (by (try simp only [List.map_toArray, List.map_cons, List.map_nil]); first | done | rfl | (simp only [List.length_drop, List.length_take]; rfl)) ?_; (with_reducible refine (oncewebbase_CopyInts.calls _ _ ((rd_T33 l0 x4_1).f4) t178 _ ?side1 ?side2 A8.out).mono ?_); (case side1 => repeat (first | exact (Kd.C_below HR177_4.out HB.out) | (with_reducible refine Kd.C_alloc ?_ _) | (with_reducible refine Kd.C_drewN ?_ _) | (with_reducible refine Kd.C_drew ?_))); (case side2 => exact HC177_4.out); rintro e w11 ⟨v179, rfl, ho0, hb⟩; refine ⟨_, rfl, ?_⟩; have n0_ := Aside0.mk (Kd.S_below (by (with_reducible repeat (first | apply Kd.S_alloc | apply Kd.S_drewN | apply Kd.S_drew)); exact HO_3.out) hb); have n1_ := Aside0.mk (Kd.R_below (by (with_reducible repeat (first | apply Kd.R_alloc | apply Kd.R_drewN | apply Kd.R_drew)); exact HO176.out) hb); have n2_ := Aside0.mk (Kd.R_lower ho0 (below_size (by repeat (first | (with_reducible first | exact HB.out | apply below_alloc | apply pw_below_drewN | apply below_drew1) | exact HB.out)))); have n3_ := Aside0.mk (below_step (by repeat (first | (with_reducible first | exact HB.out | apply below_alloc | apply pw_below_drewN | apply below_drew1) | exact HB.out)) hb); clear HO_3; clear HO176; clear HB; have HO_3 := n0_; have HO176 := n1_; have HO180 := n2_; have HB := n3_; clear n0_ n1_ n2_ n3_; (try clear hb); (try clear hb2); (try clear hk); (try clear hi); (try clear ho0)))
       go_loopg [6] k1 (fun kq v6 w' => ∃ (x5_2 : List Bool) (x6_2 : List Int), Aside0 (onceweblaw19_reached.l1 kq l0 x3_1 x4_1 x5_2 x6_2 = some r) ∧ Aside0 (kq ≤ k1) ∧ Aside0 (Kd.S (Kd.slice 4 Kd.bool) 34 w' w.heap.size (fun k_ => some k_ ≠ (v175 : Value).ownBlock) u3 x3_1) ∧ Aside0 (Kd.R Kd.bool 4 w' w.heap.size (fun _ => True) v175 x5_2) ∧ Aside0 (Kd.R (Kd.int .i64) 3 w' w.heap.size (fun _ => True) v6 x6_2) ∧ Aside0 (Below w.heap.size w w'))
       case atStart => exact ⟨(y174), (t178), H', ⟨Nat.le_refl _⟩, ⟨by (with_reducible repeat (first | apply Kd.S_alloc | apply Kd.S_drewN | apply Kd.S_drew)); exact Kd.S_mono HO_3.out (fun _ hk => hk.2)⟩, ⟨by (with_reducible repeat (first | apply Kd.R_alloc | apply Kd.R_drewN | apply Kd.R_drew)); exact HO176.out⟩, ⟨by (with_reducible repeat (first | apply Kd.R_alloc | apply Kd.R_drewN | apply Kd.R_drew)); exact HO180.out⟩, ⟨by repeat (first | (with_reducible first | exact HB.out | apply below_alloc | apply pw_below_drewN | apply below_drew1) | exact HB.out)⟩⟩
       case round =>
        clear H'
        try clear c1
        try clear p1
        try clear q1
        try clear hx1
        try clear p2
        try clear c4
        try clear c4b0
        try clear c5
        try clear c5b0
        try clear c5b1
        try clear c6
        try clear c6b0
        try clear c6b1
        try clear c7
        try clear c7b0
        try clear c10
        try clear hx177_0
        try clear hx177_1
        try clear hx177_2
        try clear hx177_3
        try clear hx177_4
        try clear hx177_5
        try clear hx177_6
        try clear p177
        try clear p2
        try clear q177
        obtain ⟨x5_2, x6_2, HA, HK2, HO_3, HO_5, HO_6, HB⟩ := hrel
        cases gk with
        | zero => exact absurd HA.out (by simp [onceweblaw19_reached.l1])
        | succ k2 =>
         have H := HA.out
         clear HA
         simp only [onceweblaw19_reached.l1] at H
         by_cases c12 : (x6_2.length : Int) > 0
         ·rw [if_pos c12] at H
          have c12b0 : decide (0 < (x6_2.length : Int)) = true := decide_eq_true c12
          have c12b1 : decide (0 < x6_2.length) = true := decide_eq_true (by omega)
          clear c12
          obtain ⟨ji13, hji13⟩ : ∃ j_ : Int, (wrap64 ((x6_2.length : Int) - 1)) = j_ := ⟨_, rfl⟩
          replace H : (if 0 ≤ (ji13) then (if (ji13) < (x6_2.length : Int) then (if (ji13) ≤ (x6_2.length : Int) then ((some (x6_2.take ((ji13) : Int).toNat : List Int)).bind fun y182 => (if (rd x6_2 (ji13)) ≥ 0 then (if (rd x6_2 (ji13)) < (l0.length : Int) then (if 0 ≤ (rd x6_2 (ji13)) then (if (rd x6_2 (ji13)) < (x5_2.length : Int) then (if (rdOf false x5_2 (rd x6_2 (ji13)) = true) then (onceweblaw19_reached.l1 k2 l0 x3_1 x4_1 x5_2 y182) else (if y182.length + ((rd_T33 l0 (rd x6_2 (ji13))).f4).length < 17592186044416 then (onceweblaw19_reached.l1 k2 l0 x3_1 x4_1 (x5_2.set ((rd x6_2 (ji13)) : Int).toNat true) (y182 ++ ((rd_T33 l0 (rd x6_2 (ji13))).f4))) else (none))) else (none)) else (none)) else (onceweblaw19_reached.l1 k2 l0 x3_1 x4_1 x5_2 y182)) else (onceweblaw19_reached.l1 k2 l0 x3_1 x4_1 x5_2 y182))) else (none)) else (none)) else (none)) = some r := by first | (rw [hji13] at H; exact H) | (simp only [hji13] at H ⊢; exact H)
          have hji13w : (IntKind.i64.wrap ((x6_2.length : Int) - 1)) = ji13 := (i64_w _).trans hji13
          by_cases c14 : 0 ≤ (ji13)
          ·rw [if_pos c14] at H
           have c14b0 : decide (0 ≤ (ji13)) = true := decide_eq_true c14
           clear c14
           by_cases c15 : (ji13) < (x6_2.length : Int)
           ·rw [if_pos c15] at H
            have c15b0 : decide ((ji13) < (x6_2.length : Int)) = true := decide_eq_true c15
            clear c15
            by_cases c16 : (ji13) ≤ (x6_2.length : Int)
            ·rw [if_pos c16] at H
             have c16b0 := eq_true c16
             have c16b1 : decide ((ji13) ≤ (x6_2.length : Int)) = true := decide_eq_true c16
             clear c16
             obtain ⟨y182, hy182⟩ : ∃ y_ : List Int, y_ = (x6_2.take ((ji13) : Int).toNat) := ⟨_, rfl⟩
             replace H : (if (rd x6_2 (ji13)) ≥ 0 then (if (rd x6_2 (ji13)) < (l0.length : Int) then (if 0 ≤ (rd x6_2 (ji13)) then (if (rd x6_2 (ji13)) < (x5_2.length : Int) then (if (rdOf false x5_2 (rd x6_2 (ji13)) = true) then (onceweblaw19_reached.l1 k2 l0 x3_1 x4_1 x5_2 y182) else (if y182.length + ((rd_T33 l0 (rd x6_2 (ji13))).f4).length < 17592186044416 then (onceweblaw19_reached.l1 k2 l0 x3_1 x4_1 (x5_2.set ((rd x6_2 (ji13)) : Int).toNat true) (y182 ++ ((rd_T33 l0 (rd x6_2 (ji13))).f4))) else (none))) else (none)) else (none)) else (onceweblaw19_reached.l1 k2 l0 x3_1 x4_1 x5_2 y182)) else (onceweblaw19_reached.l1 k2 l0 x3_1 x4_1 x5_2 y182)) = some r := by first | (rw [hy182]; with_reducible exact H) | (have H2_ := (Option.bind_some _ _).symm.trans H; rw [hy182]; with_reducible exact H2_) | (have H2_ := (Option.bind_some _ _).symm.trans H; with_reducible exact H2_) | with_reducible exact H | (rw [hy182]; exact H) | exact H
             have Ny182 := Aside0.mk hy182
             clear hy182
             by_cases c17 : (rd x6_2 (ji13)) ≥ 0
             ·rw [if_pos c17] at H
              have c17b0 : decide (0 ≤ (rd x6_2 (ji13))) = true := decide_eq_true c17
              clear c17
              by_cases c18 : (rd x6_2 (ji13)) < (l0.length : Int)
              ·rw [if_pos c18] at H
               have c18b0 : decide ((rd x6_2 (ji13)) < (l0.length : Int)) = true := decide_eq_true c18
               clear c18
               by_cases c19 : 0 ≤ (rd x6_2 (ji13))
               ·rw [if_pos c19] at H
                have c19b0 : decide (0 ≤ (rd x6_2 (ji13))) = true := decide_eq_true c19
                clear c19
                by_cases c20 : (rd x6_2 (ji13)) < (x5_2.length : Int)
                ·rw [if_pos c20] at H
                 have c20b0 : decide ((rd x6_2 (ji13)) < (x5_2.length : Int)) = true := decide_eq_true c20
                 clear c20
                 obtain ⟨bq21, hbq21⟩ : ∃ b_ : Bool, b_ = (rdOf false x5_2 (rd x6_2 (ji13))) := ⟨_, rfl⟩
                 replace H : (if (bq21 = true) then (onceweblaw19_reached.l1 k2 l0 x3_1 x4_1 x5_2 y182) else (if y182.length + ((rd_T33 l0 (rd x6_2 (ji13))).f4).length < 17592186044416 then (onceweblaw19_reached.l1 k2 l0 x3_1 x4_1 (x5_2.set ((rd x6_2 (ji13)) : Int).toNat true) (y182 ++ ((rd_T33 l0 (rd x6_2 (ji13))).f4))) else (none))) = some r := by rw [← hbq21] at H; exact H
                 have Nbq21 := Aside0.mk hbq21
                 clear hbq21
                 by_cases c22 : (bq21 = true)
                 ·subst c22
                  have H1 : (onceweblaw19_reached.l1 k2 l0 x3_1 x4_1 x5_2 y182) = some r := by rw [if_pos rfl] at H; exact H
                  clear H
                  have H := H1
                  clear H1
                  have H' := Aside0.mk H
                  clear H
                  obtain ⟨Ao23, co23, eo23⟩ := Kd.R_slice HO_6.out
                  subst eo23
                  have p181 : 0 ≤ ((ji13) : Int) := of_decide_eq_true (by first | (with_reducible assumption) | assumption)
                  have q181 : (ji13) < (x6_2.length : Int) := of_decide_eq_true (by first | (with_reducible assumption) | assumption)
                  obtain ⟨ad181, e181, hx181_0⟩ := Kd.at_int (Kd.R_reads' HO_6.out).2.2 (ji13) p181 q181
                  cases e181
                  replace p181 := eq_true p181
                  replace q181 := eq_true q181
                  have q24 : ((ji13) : Int) ≤ ((x6_2.length : Int) : Int) := of_decide_eq_true (by first | (with_reducible assumption) | assumption)
                  obtain ⟨i024, hi024, _, hsz24, _⟩ := info_parts info3
                  have hcut24 := cut_to (P := Tryd.prog) 22 3 .i64 Tryd.underlying22 hi024 (some ad181) x6_2.length co23 (ji13) (of_decide_eq_true (by first | (with_reducible assumption) | assumption)) q24 (Kd.R_reads' HO_6.out).2.1
                  have hr24 := Kd.R_take (m := ((ji13) : Int).toNat) HO_6.out (by omega)
                  have hy24 : y182.length = ((ji13) : Int).toNat := (by rw [Ny182.out, List.length_take]; omega)
                  rw [← Ny182.out] at hr24
                  rw [← hy24] at hr24 hcut24
                  clear hy24 hi024 hsz24 HO_6
                  have HO184 := Aside0.mk hr24
                  clear hr24
                  replace q24 := eq_true q24
                  obtain ⟨Ao25, co25, eo25⟩ := Kd.R_slice HO_5.out
                  subst eo25
                  have p185 : 0 ≤ ((rd x6_2 (ji13)) : Int) := of_decide_eq_true (by first | (with_reducible assumption) | assumption)
                  have q185 : (rd x6_2 (ji13)) < (x5_2.length : Int) := of_decide_eq_true (by first | (with_reducible assumption) | assumption)
                  obtain ⟨ad185, e185, hx185_0⟩ := Kd.at_bool (Kd.R_reads' HO_5.out).2.2 (rd x6_2 (ji13)) p185 q185
                  (try rw [← Nbq21.out] at hx185_0)
                  cases e185
                  replace p185 := eq_true p185
                  replace q185 := eq_true q185
                  go_wp2
                  go_roundg k2
                  case measure => have := HK1.out; have := HK2.out; omega
                  case rel => exact ⟨(x5_2), (y182), H', ⟨by have := HK1.out; have := HK2.out; omega⟩, ⟨by (with_reducible repeat (first | apply Kd.S_alloc | apply Kd.S_drewN | apply Kd.S_drew)); exact HO_3.out⟩, ⟨by (with_reducible repeat (first | apply Kd.R_alloc | apply Kd.R_drewN | apply Kd.R_drew)); exact HO_5.out⟩, ⟨by (with_reducible repeat (first | apply Kd.R_alloc | apply Kd.R_drewN | apply Kd.R_drew)); exact HO184.out⟩, ⟨by repeat (first | (with_reducible first | exact HB.out | apply below_alloc | apply pw_below_drewN | apply below_drew1) | exact HB.out)⟩⟩
                 ·replace c22 := Bool.eq_false_iff.mpr c22
                  subst c22
                  have H1 : (if y182.length + ((rd_T33 l0 (rd x6_2 (ji13))).f4).length < 17592186044416 then (onceweblaw19_reached.l1 k2 l0 x3_1 x4_1 (x5_2.set ((rd x6_2 (ji13)) : Int).toNat true) (y182 ++ ((rd_T33 l0 (rd x6_2 (ji13))).f4))) else (none)) = some r := by rw [if_neg (show ¬ (false = true) by decide)] at H; exact H
                  clear H
                  have H := H1
                  clear H1
                  obtain ⟨y186, hy186⟩ : ∃ y_ : List Bool, y_ = (x5_2.set ((rd x6_2 (ji13)) : Int).toNat true) := ⟨_, rfl⟩
                  replace H : (if y182.length + ((rd_T33 l0 (rd x6_2 (ji13))).f4).length < 17592186044416 then (onceweblaw19_reached.l1 k2 l0 x3_1 x4_1 y186 (y182 ++ ((rd_T33 l0 (rd x6_2 (ji13))).f4))) else (none)) = some r := by first | (rw [hy186]; with_reducible exact H) | (have H2_ := (Option.bind_some _ _).symm.trans H; rw [hy186]; with_reducible exact H2_) | (have H2_ := (Option.bind_some _ _).symm.trans H; with_reducible exact H2_) | with_reducible exact H | (rw [hy186]; exact H) | exact H
                  have Ny186 := Aside0.mk hy186
                  clear hy186
                  by_cases c27 : y182.length + ((rd_T33 l0 (rd x6_2 (ji13))).f4).length < 17592186044416
                  ·rw [if_pos c27] at H
                   have LMc27 := Aside0.mk c27
                   clear c27
                   obtain ⟨y188, hy188⟩ : ∃ y_ : List Int, y_ = (y182 ++ ((rd_T33 l0 (rd x6_2 (ji13))).f4)) := ⟨_, rfl⟩
                   replace H : (onceweblaw19_reached.l1 k2 l0 x3_1 x4_1 y186 y188) = some r := by first | (rw [hy188]; with_reducible exact H) | (have H2_ := (Option.bind_some _ _).symm.trans H; rw [hy188]; with_reducible exact H2_) | (have H2_ := (Option.bind_some _ _).symm.trans H; with_reducible exact H2_) | with_reducible exact H | (rw [hy188]; exact H) | exact H
                   have Ny188 := Aside0.mk hy188
                   clear hy188
                   have H' := Aside0.mk H
                   clear H
                   obtain ⟨Ao28, co28, eo28⟩ := Kd.R_slice HO_6.out
                   subst eo28
                   have p181 : 0 ≤ ((ji13) : Int) := of_decide_eq_true (by first | (with_reducible assumption) | assumption)
                   have q181 : (ji13) < (x6_2.length : Int) := of_decide_eq_true (by first | (with_reducible assumption) | assumption)
                   obtain ⟨ad181, e181, hx181_0⟩ := Kd.at_int (Kd.R_reads' HO_6.out).2.2 (ji13) p181 q181
                   cases e181
                   replace p181 := eq_true p181
                   replace q181 := eq_true q181
                   have q29 : ((ji13) : Int) ≤ ((x6_2.length : Int) : Int) := of_decide_eq_true (by first | (with_reducible assumption) | assumption)
                   obtain ⟨i029, hi029, _, hsz29, _⟩ := info_parts info3
                   have hcut29 := cut_to (P := Tryd.prog) 22 3 .i64 Tryd.underlying22 hi029 (some ad181) x6_2.length co28 (ji13) (of_decide_eq_true (by first | (with_reducible assumption) | assumption)) q29 (Kd.R_reads' HO_6.out).2.1
                   have hr29 := Kd.R_take (m := ((ji13) : Int).toNat) HO_6.out (by omega)
                   have hy29 : y182.length = ((ji13) : Int).toNat := (by rw [Ny182.out, List.length_take]; omega)
                   rw [← Ny182.out] at hr29
                   rw [← hy29] at hr29 hcut29
                   clear hy29 hi029 hsz29 HO_6
                   have HO184 := Aside0.mk hr29
                   clear hr29
                   replace q29 := eq_true q29
                   obtain ⟨Ao30, co30, eo30⟩ := Kd.R_slice HO_5.out
                   subst eo30
                   have p185 : 0 ≤ ((rd x6_2 (ji13)) : Int) := of_decide_eq_true (by first | (with_reducible assumption) | assumption)
                   have q185 : (rd x6_2 (ji13)) < (x5_2.length : Int) := of_decide_eq_true (by first | (with_reducible assumption) | assumption)
                   obtain ⟨ad185, e185, hx185_0⟩ := Kd.at_bool (Kd.R_reads' HO_5.out).2.2 (rd x6_2 (ji13)) p185 q185
                   (try rw [← Nbq21.out] at hx185_0)
                   cases e185
                   replace p185 := eq_true p185
                   replace q185 := eq_true q185
                   have p26 : 0 ≤ ((rd x6_2 (ji13)) : Int) := of_decide_eq_true (by first | (with_reducible assumption) | assumption)
                   have q26 : ((rd x6_2 (ji13)) : Int) < ((x5_2.length : Int) : Int) := of_decide_eq_true (by first | (with_reducible assumption) | assumption)
                   obtain ⟨go26, co26, eo26, gb26, gl26, cl26, HG26⟩ := Kd.R_form HO_5.out (by omega)
                   (first | cases eo26 | (injection eo26 with ea_ en_ ec_; (first | subst ea_ | (injection ea_ with ea_; subst ea_)); subst ec_; clear en_))
                   have GB26 := Aside0.mk gb26
                   have GG26 := Aside0.mk HG26
                   clear gb26 gl26 HG26
                   (first | simp only [add_plain] at hx185_0 | skip)
                   obtain ⟨hx26_0, hf26_0⟩ := Kd.R_celln false HO_5.out ((rd x6_2 (ji13)) : Int) p26 q26
                   replace p26 := eq_true p26
                   replace q26 := eq_true q26
                   have HP31 := Kd.R_putg HO_5.out ((rd x6_2 (ji13)) : Int) true
                   go_wp2_with (first | ((with_reducible refine gate_store (t := 4) (p := 55) rfl ?_); refine store_event (t := 4) (p := 55) (v := ?vo_w32) (w1 := (wr.setCell ⟨go26, ((rd x6_2 (ji13)) : Int).toNat, none⟩ (.bool true))) ?hg ?ho ?hn ?hr ?_; (case ho => rfl); (case hg => rfl); (case hn => rfl); (case hr => first | (go_simp; done) | (go_simp; rfl)); intro w32 hw; have hg : wr.grownBy w32 (some go26) := (by rw [hw]; exact HP31.2); have hp_ : Kd.R Kd.bool 4 w32 w.heap.size (fun _ => True) (.slice (some ⟨go26, 0, none⟩) x5_2.length co30) y186 := (by rw [hw, Ny186.out]; exact HP31.1); clear HP31; have n0_ := Aside0.mk (Kd.S_after (v := (.slice (some ⟨go26, 0, none⟩) x5_2.length co30)) (v1 := (.slice (some ⟨go26, 0, none⟩) x5_2.length co30)) (ok := (fun _ => True)) (by (with_reducible repeat (first | apply Kd.S_alloc | apply Kd.S_drewN | apply Kd.S_drew)); exact Kd.S_mono HO_3.out (fun _ hk => ⟨trivial, hk⟩)) hg (.inl rfl)); have n1_ := Aside0.mk (hp_); have n2_ := Aside0.mk (Kd.R_over' (v := (.slice (some ⟨go26, 0, none⟩) x5_2.length co30)) (by (with_reducible repeat (first | apply Kd.R_alloc | apply Kd.R_drewN | apply Kd.R_drew)); exact HO184.out) (Kd.R_typed HO_5.out) (by decide) hg); have n3_ := Aside0.mk ((by rw [hw]; exact below_set (HB.out) GB26.out : Below w.heap.size w w32)); clear HO_3; clear HO_5; clear HO184; clear HB; have HO_3 := n0_; have HO_5 := n1_; have HO184 := n2_; have HB := n3_; clear n0_ n1_ n2_ n3_; clear hg hw hp_; have p187 : 0 ≤ ((rd x6_2 (ji13)) : Int) := of_decide_eq_true (by first | (with_reducible assumption) | assumption); have q187 : (rd x6_2 (ji13)) < (l0.length : Int) := of_decide_eq_true (by first | (with_reducible assumption) | assumption); obtain ⟨ad187, A187_4, c187_4, e187, hx187_0, hx187_1, hx187_2, hx187_3, hx187_4, hx187_5, hx187_6, hl187_4, hi187_4⟩ := at_T33 HR0.out (rd x6_2 (ji13)) p187 q187; (try rw [← Nbq21.out] at hx187_2); obtain rfl : ad177 = ad187 := (by injection e187); replace hx187_0 := (HB.out.cell (World.block_lt_of_cell? w _ hx187_0)).trans hx187_0; replace hx187_1 := (HB.out.cell (World.block_lt_of_cell? w _ hx187_1)).trans hx187_1; replace hx187_2 := (HB.out.cell (World.block_lt_of_cell? w _ hx187_2)).trans hx187_2; replace hx187_3 := (HB.out.cell (World.block_lt_of_cell? w _ hx187_3)).trans hx187_3; replace hx187_4 := (HB.out.cell (World.block_lt_of_cell? w _ hx187_4)).trans hx187_4; replace hx187_5 := (HB.out.cell (World.block_lt_of_cell? w _ hx187_5)).trans hx187_5; replace hx187_6 := (HB.out.cell (World.block_lt_of_cell? w _ hx187_6)).trans hx187_6; have HR187_4 := Aside0.mk hi187_4; have HC187_4 := Aside0.mk hl187_4; clear hi187_4 hl187_4; replace p187 := eq_true p187; replace q187 := eq_true q187) | ((with_reducible refine gate_builtin (b := .append) (xs := #[.tmp 56, .tmp 61]) rfl ?_); (try (refine gate_guard (by rfl) ?_; dsimp only)); at_builtin; refine Kd.R_append_rows (Kd.int .i64) (w0 := w) w.heap.size rfl (.tmp 56) (.tmp 61) 22 3 (.int .i64 0) 8 rfl Tryd.underlying22 info3 rfl (by decide) (by omega) (.slice (some ad181) y182.length co28) y182 ((rd_T33 l0 (rd x6_2 (ji13))).f4) _ _ _ (fun _ => True) (fun _ => False) rfl rfl ?aO ?aR (fun _ _ h => h) (fun _ h => h.elim) ?aF ?aB ?aS ?aL ?_; (case aR => repeat (first | exact (Kd.C_below HR187_4.out HB.out) | (with_reducible refine Kd.C_alloc ?_ _) | (with_reducible refine Kd.C_drewN ?_ _) | (with_reducible refine Kd.C_drew ?_))); (case aB => exact (by repeat (first | (with_reducible first | exact HB.out | apply below_alloc | apply pw_below_drewN | apply below_drew1) | exact HB.out))); (case aF => exact (fun _ _ => trivial)); (case aO => exact (by (with_reducible repeat (first | apply Kd.R_alloc | apply Kd.R_drewN | apply Kd.R_drew)); exact HO184.out)); (case aS => exact (below_size (by repeat (first | (with_reducible first | exact HB.out | apply below_alloc | apply pw_below_drewN | apply below_drew1) | exact HB.out)))); (case aL => have := LMc27.out; omega); intro v189 w33 ho hb hg hat; rw [← Ny188.out] at ho; have n0_ := Aside0.mk (Kd.S_over' (by (with_reducible repeat (first | apply Kd.S_alloc | apply Kd.S_drewN | apply Kd.S_drew)); exact HO_3.out) (Kd.R_typed (by (with_reducible repeat (first | apply Kd.R_alloc | apply Kd.R_drewN | apply Kd.R_drew)); exact HO184.out)) (by decide) hg); have n1_ := Aside0.mk (Kd.R_over' (by (with_reducible repeat (first | apply Kd.R_alloc | apply Kd.R_drewN | apply Kd.R_drew)); exact HO_5.out) (Kd.R_typed (by (with_reducible repeat (first | apply Kd.R_alloc | apply Kd.R_drewN | apply Kd.R_drew)); exact HO184.out)) (by decide) hg); have n2_ := Aside0.mk (hb); have n3_ := Aside0.mk (ho); clear HO_3; clear HO_5; clear HB; clear HO184; have HO_3 := n0_; have HO_5 := n1_; have HB := n2_; have HO190 := n3_; clear n0_ n1_ n2_ n3_; clear ho hb hg hat))
                   go_roundg k2
                   case measure => have := HK1.out; have := HK2.out; omega
                   case rel => exact ⟨(y186), (y188), H', ⟨by have := HK1.out; have := HK2.out; omega⟩, ⟨by (with_reducible repeat (first | apply Kd.S_alloc | apply Kd.S_drewN | apply Kd.S_drew)); exact Kd.S_mono HO_3.out (fun _ hk => hk.2)⟩, ⟨by (with_reducible repeat (first | apply Kd.R_alloc | apply Kd.R_drewN | apply Kd.R_drew)); exact HO_5.out⟩, ⟨by (with_reducible repeat (first | apply Kd.R_alloc | apply Kd.R_drewN | apply Kd.R_drew)); exact HO190.out⟩, ⟨by repeat (first | (with_reducible first | exact HB.out | apply below_alloc | apply pw_below_drewN | apply below_drew1) | exact HB.out)⟩⟩
                  ·rw [if_neg c27] at H
                   exact absurd H (by simp)
                ·rw [if_neg c20] at H
                 exact absurd H (by simp)
               ·rw [if_neg c19] at H
                exact absurd H (by simp)
              ·rw [if_neg c18] at H
               have c18b0 : decide ((rd x6_2 (ji13)) < (l0.length : Int)) = false := decide_eq_false c18
               clear c18
               have H' := Aside0.mk H
               clear H
               obtain ⟨Ao34, co34, eo34⟩ := Kd.R_slice HO_6.out
               subst eo34
               have p181 : 0 ≤ ((ji13) : Int) := of_decide_eq_true (by first | (with_reducible assumption) | assumption)
               have q181 : (ji13) < (x6_2.length : Int) := of_decide_eq_true (by first | (with_reducible assumption) | assumption)
               obtain ⟨ad181, e181, hx181_0⟩ := Kd.at_int (Kd.R_reads' HO_6.out).2.2 (ji13) p181 q181
               cases e181
               replace p181 := eq_true p181
               replace q181 := eq_true q181
               have q35 : ((ji13) : Int) ≤ ((x6_2.length : Int) : Int) := of_decide_eq_true (by first | (with_reducible assumption) | assumption)
               obtain ⟨i035, hi035, _, hsz35, _⟩ := info_parts info3
               have hcut35 := cut_to (P := Tryd.prog) 22 3 .i64 Tryd.underlying22 hi035 (some ad181) x6_2.length co34 (ji13) (of_decide_eq_true (by first | (with_reducible assumption) | assumption)) q35 (Kd.R_reads' HO_6.out).2.1
               have hr35 := Kd.R_take (m := ((ji13) : Int).toNat) HO_6.out (by omega)
               have hy35 : y182.length = ((ji13) : Int).toNat := (by rw [Ny182.out, List.length_take]; omega)
               rw [← Ny182.out] at hr35
               rw [← hy35] at hr35 hcut35
               clear hy35 hi035 hsz35 HO_6
               have HO184 := Aside0.mk hr35
               clear hr35
               replace q35 := eq_true q35
               go_wp2
               go_roundg k2
               case measure => have := HK1.out; have := HK2.out; omega
               case rel => exact ⟨(x5_2), (y182), H', ⟨by have := HK1.out; have := HK2.out; omega⟩, ⟨by (with_reducible repeat (first | apply Kd.S_alloc | apply Kd.S_drewN | apply Kd.S_drew)); exact HO_3.out⟩, ⟨by (with_reducible repeat (first | apply Kd.R_alloc | apply Kd.R_drewN | apply Kd.R_drew)); exact HO_5.out⟩, ⟨by (with_reducible repeat (first | apply Kd.R_alloc | apply Kd.R_drewN | apply Kd.R_drew)); exact HO184.out⟩, ⟨by repeat (first | (with_reducible first | exact HB.out | apply below_alloc | apply pw_below_drewN | apply below_drew1) | exact HB.out)⟩⟩
             ·rw [if_neg c17] at H
              have c17b0 : decide (0 ≤ (rd x6_2 (ji13))) = false := decide_eq_false c17
              clear c17
              have H' := Aside0.mk H
              clear H
              obtain ⟨Ao36, co36, eo36⟩ := Kd.R_slice HO_6.out
              subst eo36
              have p181 : 0 ≤ ((ji13) : Int) := of_decide_eq_true (by first | (with_reducible assumption) | assumption)
              have q181 : (ji13) < (x6_2.length : Int) := of_decide_eq_true (by first | (with_reducible assumption) | assumption)
              obtain ⟨ad181, e181, hx181_0⟩ := Kd.at_int (Kd.R_reads' HO_6.out).2.2 (ji13) p181 q181
              cases e181
              replace p181 := eq_true p181
              replace q181 := eq_true q181
              have q37 : ((ji13) : Int) ≤ ((x6_2.length : Int) : Int) := of_decide_eq_true (by first | (with_reducible assumption) | assumption)
              obtain ⟨i037, hi037, _, hsz37, _⟩ := info_parts info3
              have hcut37 := cut_to (P := Tryd.prog) 22 3 .i64 Tryd.underlying22 hi037 (some ad181) x6_2.length co36 (ji13) (of_decide_eq_true (by first | (with_reducible assumption) | assumption)) q37 (Kd.R_reads' HO_6.out).2.1
              have hr37 := Kd.R_take (m := ((ji13) : Int).toNat) HO_6.out (by omega)
              have hy37 : y182.length = ((ji13) : Int).toNat := (by rw [Ny182.out, List.length_take]; omega)
              rw [← Ny182.out] at hr37
              rw [← hy37] at hr37 hcut37
              clear hy37 hi037 hsz37 HO_6
              have HO184 := Aside0.mk hr37
              clear hr37
              replace q37 := eq_true q37
              go_wp2
              go_roundg k2
              case measure => have := HK1.out; have := HK2.out; omega
              case rel => exact ⟨(x5_2), (y182), H', ⟨by have := HK1.out; have := HK2.out; omega⟩, ⟨by (with_reducible repeat (first | apply Kd.S_alloc | apply Kd.S_drewN | apply Kd.S_drew)); exact HO_3.out⟩, ⟨by (with_reducible repeat (first | apply Kd.R_alloc | apply Kd.R_drewN | apply Kd.R_drew)); exact HO_5.out⟩, ⟨by (with_reducible repeat (first | apply Kd.R_alloc | apply Kd.R_drewN | apply Kd.R_drew)); exact HO184.out⟩, ⟨by repeat (first | (with_reducible first | exact HB.out | apply below_alloc | apply pw_below_drewN | apply below_drew1) | exact HB.out)⟩⟩
            ·rw [if_neg c16] at H
             exact absurd H (by simp)
           ·rw [if_neg c15] at H
            exact absurd H (by simp)
          ·rw [if_neg c14] at H
           exact absurd H (by simp)
         ·rw [if_neg c12] at H
          have c12b0 : decide (0 < (x6_2.length : Int)) = false := decide_eq_false c12
          have c12b1 : decide (0 < x6_2.length) = false := decide_eq_false (by omega)
          clear c12
          by_cases c38 : x3_1.length < 5864062014805
          ·rw [if_pos c38] at H
           have LMc38 := Aside0.mk c38
           clear c38
           obtain ⟨y191, hy191⟩ : ∃ y_ : List (List Bool), y_ = (x3_1 ++ [x5_2]) := ⟨_, rfl⟩
           replace H : (onceweblaw19_reached.l0 k2 l0 y191 (wrap64 (x4_1 + 1))) = some r := by first | (rw [hy191]; with_reducible exact H) | (have H2_ := (Option.bind_some _ _).symm.trans H; rw [hy191]; with_reducible exact H2_) | (have H2_ := (Option.bind_some _ _).symm.trans H; with_reducible exact H2_) | with_reducible exact H | (rw [hy191]; exact H) | exact H
           have Ny191 := Aside0.mk hy191
           clear hy191
           have H' := Aside0.mk H
           clear H
           obtain ⟨Ao39, co39, eo39⟩ := Kd.R_slice HO_6.out
           subst eo39
           obtain ⟨Ao41, co41, eo41⟩ := Kd.R_slice HO_5.out
           subst eo41
           go_wp2_with (first | ((with_reducible refine gate_builtin (b := .append) (xs := #[.tmp 63, .tmp 65]) rfl ?_); (try (refine gate_guard (by rfl) ?_; dsimp only)); at_builtin; refine Kd.S_append (Kd.slice 4 Kd.bool) (w0 := w) w.heap.size rfl (.tmp 63) (.tmp 65) 28 34 (.slice none 0 0) 24 rfl Tryd.underlying28 info34 rfl (by decide) (by omega) u3 x3_1 x5_2 [.slice Ao41 x5_2.length co41] (fun _ => True) (fun k_ => some k_ = (.slice Ao41 x5_2.length co41 : Value).ownBlock) rfl rfl ?aP (fun k_ hk_ => ((Kd.R_mono (ok' := fun k_ => ((fun _ => True)) k_ ∧ some k_ ≠ (u3 : Value).ownBlock) (Kd.R_apart' (HO_5.out) (Kd.S_typed HO_3.out) (by decide)) (fun k_ hk => ⟨trivial, hk.2⟩))).1 k_ hk_.symm) ?aF ?aO ?aB ?aS ?aL ?_; (case aP => exact Kd.M_row (Kd.R_mono (Kd.R_tight rfl (Kd.R_mono (ok' := fun k_ => ((fun _ => True)) k_ ∧ some k_ ≠ (u3 : Value).ownBlock) (Kd.R_apart' (HO_5.out) (Kd.S_typed HO_3.out) (by decide)) (fun k_ hk => ⟨trivial, hk.2⟩))) (fun _ h_ => h_))); (case aB => exact (by repeat (first | (with_reducible first | exact HB.out | apply below_alloc | apply pw_below_drewN | apply below_drew1) | exact HB.out))); (case aF => exact (fun _ _ => trivial)); (case aO => exact (by (with_reducible repeat (first | apply Kd.S_alloc | apply Kd.S_drewN | apply Kd.S_drew)); exact Kd.S_mono HO_3.out (fun k_ hk => ⟨trivial, fun e_ => hk e_⟩))); (case aS => exact (below_size (by repeat (first | (with_reducible first | exact HB.out | apply below_alloc | apply pw_below_drewN | apply below_drew1) | exact HB.out)))); (case aL => have := LMc38.out; omega); intro v192 w40 ho hb hg hat; rw [← Ny191.out] at ho; have n0_ := Aside0.mk (Kd.R_over' (by (with_reducible repeat (first | apply Kd.R_alloc | apply Kd.R_drewN | apply Kd.R_drew)); exact HO_6.out) (Kd.S_typed (by (with_reducible repeat (first | apply Kd.S_alloc | apply Kd.S_drewN | apply Kd.S_drew)); exact HO_3.out)) (by decide) hg); have n1_ := Aside0.mk (hb); have n2_ := Aside0.mk (ho); clear HO_6; clear HB; clear HO_3; clear HO_5; have HO_6 := n0_; have HB := n1_; have HO193 := n2_; clear n0_ n1_ n2_; clear ho hb hg hat))
           go_roundg k2
           case measure => have := HK1.out; have := HK2.out; omega
           case rel => exact ⟨(y191), (wrap64 (x4_1 + 1)), (by first | rfl | (simp; done) | (simp [*]; done)), H', ⟨by have := HK1.out; have := HK2.out; omega⟩, ⟨by (with_reducible repeat (first | apply Kd.S_alloc | apply Kd.S_drewN | apply Kd.S_drew)); exact HO193.out⟩, ⟨by repeat (first | (with_reducible first | exact HB.out | apply below_alloc | apply pw_below_drewN | apply below_drew1) | exact HB.out)⟩⟩
          ·rw [if_neg c38] at H
           exact absurd H (by simp)
      ·rw [if_neg c7] at H
       exact absurd H (by simp)
     ·rw [if_neg c6] at H
      exact absurd H (by simp)
    ·rw [if_neg c5] at H
     exact absurd H (by simp)
   ·rw [if_neg c4] at H
    have c4b0 : decide (x4_1 < (l0.length : Int)) = false := decide_eq_false c4
    clear c4
    obtain rfl := Option.some.inj H
    go_wp2
    go_ret
    exact ⟨_, by first | rfl | (simp [errW_none, errW_some] <;> rfl) | (simp [*, errW_none, errW_some] <;> rfl), by (with_reducible repeat (first | apply Kd.S_alloc | apply Kd.S_drewN | apply Kd.S_drew)); exact HO_3.out, by repeat (first | (with_reducible first | exact HB.out | apply below_alloc | apply pw_below_drewN | apply below_drew1) | exact HB.out)⟩
/-! ### onceweblaw19_under: function 11 -/
mutual
def onceweblaw19_under.l0 : Nat → List Int → Int → Int → Int → Option (Bool)
 | 0, _, _, _, _ => none
 | k + 1, x0, x1, x2, x7 => if x7 ≤ (x0.length : Int) then (if x1 ≥ 0 then (onceweblaw19_under.j1 k x0 x1 x2 x7 (decide (x1 < (x0.length : Int)))) else (onceweblaw19_under.j1 k x0 x1 x2 x7 false)) else (onceweblaw19_under.j1 k x0 x1 x2 x7 false)
def onceweblaw19_under.j1 : Nat → List Int → Int → Int → Int → Bool → Option (Bool)
 | 0, _, _, _, _, _ => none
 | k + 1, x0, x1, x2, x7, x21 => if x21 = true then (if x1 = x2 then (some true) else (if 0 ≤ x1 then (if x1 < (x0.length : Int) then (onceweblaw19_under.l0 k x0 (rd x0 x1) x2 (wrap64 (x7 + 1))) else (none)) else (none))) else (some false)
end
def onceweblaw19_under.f (k : Nat) (l0 : List Int) (a1 : Int) (a2 : Int) : Option (Bool) := onceweblaw19_under.l0 k l0 a1 a2 0
set_option maxHeartbeats 8000000 in
set_option maxRecDepth 100000 in
theorem onceweblaw19_under.calls (k : Nat) (A0 : Option Addr) (c0 : Nat) (l0 : List Int) (a1 : Int) (a2 : Int) (r : Bool) (w : World) (hr0 : Kd.C (Kd.int .i64) w A0 l0.length l0) (hc0 : l0.length ≤ c0) (h : onceweblaw19_under.f k l0 a1 a2 = some r) :
  Calls Tryd.prog 11 #[.slice A0 l0.length c0, .int .i64 a1, .int .i64 a2] w fun e w' => e = .returned (.bool r) ∧ Drawn0 w w' := by
 have HR0 := Aside0.mk hr0
 have HC0 := Aside0.mk hc0
 clear hr0 hc0
 have H : (onceweblaw19_under.l0 k l0 a1 a2 0) = some r := h
 clear h
 have H' := Aside0.mk H
 clear H
 go_enter Tryd.func11, Tryd.ntmps11
 go_wp2
 go_loopg [1, 7] k (fun kq v1 v7 w' => ∃ (x1_1 : Int) (x7_1 : Int), v1 = .int .i64 x1_1 ∧ v7 = .int .i64 x7_1 ∧ Aside0 (onceweblaw19_under.l0 kq l0 x1_1 a2 x7_1 = some r) ∧ Aside0 (kq ≤ k) ∧ Drawn0 w w')
 case atStart => exact ⟨(a1), (0), (by first | rfl | (simp; done) | (simp [*]; done)), (by first | rfl | (simp; done) | (simp [*]; done)), H', ⟨Nat.le_refl _⟩, by repeat (first | exact Drawn0.refl _ | apply Drawn0.step)⟩
 case round =>
  clear H'
  try clear c1
  try clear p2
  obtain ⟨x1_1, x7_1, rfl, rfl, HA, HK1, ⟨m1, rfl⟩⟩ := hrel
  cases gk with
  | zero => exact absurd HA.out (by simp [onceweblaw19_under.l0])
  | succ k1 =>
   have H := HA.out
   clear HA
   simp only [onceweblaw19_under.l0] at H
   have HC4 := Aside0.mk H
   clear H
   go_upto_region 2 with (fail)
   go_cut [21] (fun v21 wc => ∃ (kq : Nat) (x21_3 : Bool), v21 = .bool x21_3 ∧ Aside0 (onceweblaw19_under.j1 kq l0 x1_1 a2 x7_1 x21_3 = some r) ∧ Aside0 (kq ≤ k1) ∧ Drawn0 w wc)
   case first =>
    have H := HC4.out
    clear HC4
    by_cases c5 : x7_1 ≤ (l0.length : Int)
    ·rw [if_pos c5] at H
     have c5b0 : decide (x7_1 ≤ (l0.length : Int)) = true := decide_eq_true c5
     clear c5
     (first | rw [c5b0] | (simp only [i64_w, i32_w]; rw [c5b0]) | skip)
     by_cases c6 : x1_1 ≥ 0
     ·rw [if_pos c6] at H
      have c6b0 : decide (0 ≤ x1_1) = true := decide_eq_true c6
      clear c6
      have H' := Aside0.mk H
      clear H
      go_wp2
      go_meet
      case rel => exact ⟨_, (decide (x1_1 < (l0.length : Int))), (by first | rfl | (simp; done) | (simp [*]; done)), H', ⟨by have := HK1.out; first | omega | exact Nat.le_refl _⟩, by repeat (first | exact Drawn0.refl _ | apply Drawn0.step)⟩
     ·rw [if_neg c6] at H
      have c6b0 : decide (0 ≤ x1_1) = false := decide_eq_false c6
      clear c6
      have H' := Aside0.mk H
      clear H
      go_wp2
      go_meet
      case rel => exact ⟨_, (false), (by first | rfl | (simp; done) | (simp [*]; done)), H', ⟨by have := HK1.out; first | omega | exact Nat.le_refl _⟩, by repeat (first | exact Drawn0.refl _ | apply Drawn0.step)⟩
    ·rw [if_neg c5] at H
     have c5b0 : decide (x7_1 ≤ (l0.length : Int)) = false := decide_eq_false c5
     clear c5
     (first | rw [c5b0] | (simp only [i64_w, i32_w]; rw [c5b0]) | skip)
     have H' := Aside0.mk H
     clear H
     go_wp2
     go_meet
     case rel => exact ⟨_, (false), (by first | rfl | (simp; done) | (simp [*]; done)), H', ⟨by have := HK1.out; first | omega | exact Nat.le_refl _⟩, by repeat (first | exact Drawn0.refl _ | apply Drawn0.step)⟩
   case rest =>
    clear HC4
    try clear c1
    try clear p2
    try clear c5
    try clear c5b0
    try clear c6
    try clear c6b0
    try clear p2
    obtain ⟨kq, x21_3, rfl, HA, HJ3, ⟨mc3, rfl⟩⟩ := hcut
    cases kq with
    | zero => exact absurd HA.out (by simp [onceweblaw19_under.j1])
    | succ kj3 =>
     have H := HA.out
     clear HA
     simp only [onceweblaw19_under.j1] at H
     by_cases c7 : x21_3 = true
     ·subst c7
      have H1 : (if x1_1 = a2 then (some true) else (if 0 ≤ x1_1 then (if x1_1 < (l0.length : Int) then (onceweblaw19_under.l0 kj3 l0 (rd l0 x1_1) a2 (wrap64 (x7_1 + 1))) else (none)) else (none))) = some r := by rw [if_pos rfl] at H; exact H
      clear H
      have H := H1
      clear H1
      by_cases c8 : x1_1 = a2
      ·rw [if_pos c8] at H
       have c8b0 : (x1_1 == a2) = true := beq_iff_eq.mpr c8
       have c8b1 : (x1_1 != a2) = false := bne_eq_false_iff_eq.mpr c8
       clear c8
       obtain rfl := Option.some.inj H
       go_wp2
       go_ret
       exact ⟨by first | rfl | (simp; done) | (simp [*]; done), by repeat (first | exact Drawn0.refl _ | apply Drawn0.step)⟩
      ·rw [if_neg c8] at H
       have c8b0 : (x1_1 == a2) = false := beq_eq_false_iff_ne.mpr c8
       have c8b1 : (x1_1 != a2) = true := bne_iff_ne.mpr c8
       by_cases c9 : 0 ≤ x1_1
       ·rw [if_pos c9] at H
        have c9b0 : decide (0 ≤ x1_1) = true := decide_eq_true c9
        clear c9
        by_cases c10 : x1_1 < (l0.length : Int)
        ·rw [if_pos c10] at H
         have c10b0 : decide (x1_1 < (l0.length : Int)) = true := decide_eq_true c10
         clear c10
         have H' := Aside0.mk H
         clear H
         have p194 : 0 ≤ (x1_1 : Int) := of_decide_eq_true (by first | (with_reducible assumption) | assumption)
         have q194 : x1_1 < (l0.length : Int) := of_decide_eq_true (by first | (with_reducible assumption) | assumption)
         obtain ⟨ad194, e194, hx194_0⟩ := Kd.at_int HR0.out x1_1 p194 q194
         cases e194
         replace p194 := eq_true p194
         replace q194 := eq_true q194
         go_wp2
         go_roundg kj3
         case measure => have := HK1.out; have := HJ3.out; omega
         case rel => exact ⟨(rd l0 x1_1), (wrap64 (x7_1 + 1)), (by first | rfl | (simp; done) | (simp [*]; done)), (by first | rfl | (simp; done) | (simp [*]; done)), H', ⟨by have := HK1.out; have := HJ3.out; omega⟩, by repeat (first | exact Drawn0.refl _ | apply Drawn0.step)⟩
        ·rw [if_neg c10] at H
         exact absurd H (by simp)
       ·rw [if_neg c9] at H
        exact absurd H (by simp)
     ·replace c7 := Bool.eq_false_iff.mpr c7
      subst c7
      have H1 : (some false) = some r := by rw [if_neg (show ¬ (false = true) by decide)] at H; exact H
      clear H
      have H := H1
      clear H1
      obtain rfl := Option.some.inj H
      go_wp2
      go_ret
      exact ⟨by first | rfl | (simp; done) | (simp [*]; done), by repeat (first | exact Drawn0.refl _ | apply Drawn0.step)⟩
end Go.Proofs.YtccjclmjoegibaaDoor.PCloserOrders
