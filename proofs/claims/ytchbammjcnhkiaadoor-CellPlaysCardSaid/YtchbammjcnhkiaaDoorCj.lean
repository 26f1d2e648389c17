/- Whether an outcome is right; the wait behind failures. -/
import Derived.Test.YtchbammjcnhkiaaDoorCi
namespace Go.Proofs.YtchbammjcnhkiaaDoor.Ce
open Go.RowKit Go.Maps Go.Proofs.YtchbammjcnhkiaaDoor Go.Proofs.YtchbammjcnhkiaaDoorW.PrintWords Go.Proofs.YtchbammjcnhkiaaDoorW.PrintLast Go.Proofs.YtchbammjcnhkiaaDoorW.PrintMore PCellPlays
attribute [local go_sem] max2_int min2_int max_two min_two max_three min_three
def rightB (k : Int) (l : List S80) (m : List S64) : Bool :=
  if k = 1 then vErr l == 0 && m.length == 0
  else if k = 2 then fErr m == 0 && l.length == 0
  else if k = 3 then fErr m == 0 && l.length == 0 && (rd_T64 m (m.length - 1)).f0 == 2
  else false
theorem vcheck_be (w : World) (A : Option Addr) (c : Nat) (l : List S80) (hr : Kd.C k80 w A l.length l) (hc : l.length ≤ c) {r : Int} (h : vErr l = r) :
    Calls Tryd.prog 42 #[.slice A l.length c] w fun e w' => e = .returned (.int .i64 r) ∧ Below w.heap.size w w' := h ▸ vcheck_is w A c l hr hc
theorem fcheck_be (w : World) (A : Option Addr) (c : Nat) (l : List S64) (hr : Kd.C k64 w A l.length l) (hc : l.length ≤ c) (hla : Laid w) {r : Int} (h : fErr l = r) :
    Calls Tryd.prog 43 #[.slice A l.length c] w fun e w' => e = .returned (.int .i64 r) ∧ Below w.heap.size w w' := h ▸ fcheck_is w A c l hr hc hla
theorem fErr_ne {l : List S64} (h : fErr l = 0) : 0 < l.length := by
  unfold fErr at h
  split at h
  · split at h
    · rename_i h1
      exact List.length_pos_iff.2 (fWhole_ne h1)
    · omega
  · omega
set_option maxHeartbeats 1000000 in
theorem right_is (w : World) (k : Int) (A B : Option Addr) (c d : Nat) (l : List S80) (m : List S64) (hr : Kd.C k80 w A l.length l) (hc : l.length ≤ c) (hr2 : Kd.C k64 w B m.length m) (hd : m.length ≤ d) (hla : Laid w) :
    Calls Tryd.prog 24 #[.agg #[.int .i64 k, .slice A l.length c, .slice B m.length d]] w fun e w' => e = .returned (.bool (rightB k l m)) ∧ Below w.heap.size w w' := by
  have HAL : ∀ w' : World, Below w.heap.size w w' → Kd.C k80 w' A l.length l ∧ Kd.C k64 w' B m.length m ∧ Laid w' := fun w' hb => ⟨Kd.C_below hr hb, Kd.C_below hr2 hb, hla.below hb⟩
  have HAL := Lib.hid HAL
  have HC := Lib.hid hc
  have HD := Lib.hid hd
  have HM := Lib.hid (And.intro hr.2.1 hr2.2.1)
  clear hr hr2 hla hc hd
  by_cases e1 : k = 1
  · subst e1
    have HRB := Lib.hid (show rightB 1 l m = (vErr l == 0 && m.length == 0) from rfl)
    cases hv : vErr l == 0 with
    | false =>
      rw [hv] at HRB
      generalize hve : vErr l = ve at hv
      have HV := Lib.hid hve
      clear hve
      go_enter Tryd.func24, Tryd.ntmps24
      go_wp2_with (go_at_call 42; refine (vcheck_be _ _ _ _ (HAL.out _ ((Below.refl _ _).alloc (Nat.le_refl _) _)).1 HC.out HV.out).mono ?_; rintro _ w1 ⟨rfl, hb⟩; have HB := Lib.hid (below_via hb); clear hb)
      go_ret
      exact ⟨by rw [HRB.out]; rfl, HB.out⟩
    | true =>
      rw [hv] at HRB
      have HV := Lib.hid (show vErr l = 0 by simpa using hv)
      clear hv
      cases hm : (m.length : Int) == 0 with
      | false =>
        go_enter Tryd.func24, Tryd.ntmps24
        go_wp2_with (go_at_call 42; refine (vcheck_be _ _ _ _ (HAL.out _ ((Below.refl _ _).alloc (Nat.le_refl _) _)).1 HC.out HV.out).mono ?_; rintro _ w1 ⟨rfl, hb⟩; have kb := blk_below (blk_new w _) hb; have k5 := (blk_cell kb 2).trans rfl; have HB := Lib.hid (below_via hb); clear hb)
        go_ret
        exact ⟨by rw [HRB.out]; simp at hm; simp [hm], HB.out⟩
      | true =>
        go_enter Tryd.func24, Tryd.ntmps24
        go_wp2_with (go_at_call 42; refine (vcheck_be _ _ _ _ (HAL.out _ ((Below.refl _ _).alloc (Nat.le_refl _) _)).1 HC.out HV.out).mono ?_; rintro _ w1 ⟨rfl, hb⟩; have kb := blk_below (blk_new w _) hb; have k5 := (blk_cell kb 2).trans rfl; have HB := Lib.hid (below_via hb); clear hb)
        go_ret
        exact ⟨by rw [HRB.out]; simp at hm; simp [hm], HB.out⟩
  by_cases e2 : k = 2
  · subst e2
    have HRB := Lib.hid (show rightB 2 l m = (fErr m == 0 && l.length == 0) from rfl)
    cases hv : fErr m == 0 with
    | false =>
      rw [hv] at HRB
      generalize hve : fErr m = ve at hv
      have HV := Lib.hid hve
      clear hve
      go_enter Tryd.func24, Tryd.ntmps24
      go_wp2_with (go_at_call 43; refine (fcheck_be _ _ _ _ (HAL.out _ ((Below.refl _ _).alloc (Nat.le_refl _) _)).2.1 HD.out (HAL.out _ ((Below.refl _ _).alloc (Nat.le_refl _) _)).2.2 HV.out).mono ?_; rintro _ w1 ⟨rfl, hb⟩; have kb := blk_below (blk_new w _) hb; have k5 := (blk_cell kb 0).trans rfl; have HB := Lib.hid (below_via hb); clear hb kb)
      go_ret
      exact ⟨by rw [HRB.out]; rfl, HB.out⟩
    | true =>
      rw [hv] at HRB
      have HV := Lib.hid (show fErr m = 0 by simpa using hv)
      clear hv
      cases hm : (l.length : Int) == 0 with
      | false =>
        go_enter Tryd.func24, Tryd.ntmps24
        go_wp2_with (go_at_call 43; refine (fcheck_be _ _ _ _ (HAL.out _ ((Below.refl _ _).alloc (Nat.le_refl _) _)).2.1 HD.out (HAL.out _ ((Below.refl _ _).alloc (Nat.le_refl _) _)).2.2 HV.out).mono ?_; rintro _ w1 ⟨rfl, hb⟩; have kb := blk_below (blk_new w _) hb; have k5 := (blk_cell kb 0).trans rfl; have k6 := (blk_cell kb 1).trans rfl; have HB := Lib.hid (below_via hb); clear hb kb)
        go_ret
        exact ⟨by rw [HRB.out]; simp at hm; simp [hm], HB.out⟩
      | true =>
        go_enter Tryd.func24, Tryd.ntmps24
        go_wp2_with (go_at_call 43; refine (fcheck_be _ _ _ _ (HAL.out _ ((Below.refl _ _).alloc (Nat.le_refl _) _)).2.1 HD.out (HAL.out _ ((Below.refl _ _).alloc (Nat.le_refl _) _)).2.2 HV.out).mono ?_; rintro _ w1 ⟨rfl, hb⟩; have kb := blk_below (blk_new w _) hb; have k5 := (blk_cell kb 0).trans rfl; have k6 := (blk_cell kb 1).trans rfl; have HB := Lib.hid (below_via hb); clear hb kb)
        go_ret
        exact ⟨by rw [HRB.out]; simp at hm; simp [hm], HB.out⟩
  by_cases e3 : k = 3
  · subst e3
    have HRB := Lib.hid (show rightB 3 l m = (fErr m == 0 && l.length == 0 && (rd_T64 m (m.length - 1)).f0 == 2) from rfl)
    cases hv : fErr m == 0 with
    | false =>
      rw [hv] at HRB
      generalize hve : fErr m = ve at hv
      have HV := Lib.hid hve
      clear hve
      go_enter Tryd.func24, Tryd.ntmps24
      go_wp2_with (go_at_call 43; refine (fcheck_be _ _ _ _ (HAL.out _ ((Below.refl _ _).alloc (Nat.le_refl _) _)).2.1 HD.out (HAL.out _ ((Below.refl _ _).alloc (Nat.le_refl _) _)).2.2 HV.out).mono ?_; rintro _ w1 ⟨rfl, hb⟩; have kb := blk_below (blk_new w _) hb; have k5 := (blk_cell kb 0).trans rfl; have HB := Lib.hid (below_via hb); clear hb kb)
      go_ret
      exact ⟨by rw [HRB.out]; rfl, HB.out⟩
    | true =>
      rw [hv] at HRB
      have HV := Lib.hid (show fErr m = 0 by simpa using hv)
      clear hv
      cases hm : (l.length : Int) == 0 with
      | false =>
        go_enter Tryd.func24, Tryd.ntmps24
        go_wp2_with (go_at_call 43; refine (fcheck_be _ _ _ _ (HAL.out _ ((Below.refl _ _).alloc (Nat.le_refl _) _)).2.1 HD.out (HAL.out _ ((Below.refl _ _).alloc (Nat.le_refl _) _)).2.2 HV.out).mono ?_; rintro _ w1 ⟨rfl, hb⟩; have kb := blk_below (blk_new w _) hb; have k5 := (blk_cell kb 0).trans rfl; have k6 := (blk_cell kb 1).trans rfl; have HB := Lib.hid (below_via hb); clear hb kb)
        go_ret
        exact ⟨by rw [HRB.out]; simp at hm; simp [hm], HB.out⟩
      | true =>
        have hlm := fErr_ne HV.out
        have hw1 : wrap64 ((m.length : Int) - 1) = (m.length : Int) - 1 := by rw [← i64_w, IntWalk.i64_in _ (by have h9 : m.length ≤ maxLen := HM.out.2; simp only [maxLen] at h9; omega)]
        have h0 : 0 ≤ (m.length : Int) - 1 := by omega
        have h1 : (m.length : Int) - 1 < m.length := by omega
        obtain ⟨ad, rfl, -⟩ := at_T64 (HAL.out w (Below.refl _ _)).2.1 _ h0 h1
        generalize hq9 : (rd_T64 m (m.length - 1)).f0 = q9 at HRB
        have QX := Lib.hid hq9
        clear hq9
        go_enter Tryd.func24, Tryd.ntmps24
        go_wp2_with (go_at_call 43; refine (fcheck_be _ _ _ _ (HAL.out _ ((Below.refl _ _).alloc (Nat.le_refl _) _)).2.1 HD.out (HAL.out _ ((Below.refl _ _).alloc (Nat.le_refl _) _)).2.2 HV.out).mono ?_; rintro _ w1 ⟨rfl, hb⟩; have kb := blk_below (blk_new w _) hb; have k5 := (blk_cell kb 0).trans rfl; have k6 := (blk_cell kb 1).trans rfl; have k7 := (blk_cell kb 2).trans rfl; have HB := Lib.hid (below_via hb); have hat := at_T64 (HAL.out _ HB.out).2.1 _ h0 h1; obtain ⟨ad', ead, q0, q1, q2⟩ := hat; cases ead; rw [QX.out] at q0; rw [show ((m.length : Int) - 1).toNat = m.length - 1 by omega] at q0; clear hb kb)
        go_ret
        exact ⟨by rw [HRB.out]; simp at hm; simp [hm], HB.out⟩
  have HRB := Lib.hid (show rightB k l m = false by unfold rightB; rw [if_neg e1, if_neg e2, if_neg e3])
  have b1 : (k == 1) = false := by simpa using e1
  have b2 : (k == 2) = false := by simpa using e2
  have b3 : (k == 3) = false := by simpa using e3
  clear e1 e2 e3
  go_enter Tryd.func24, Tryd.ntmps24
  go_wp2_with fail
  go_ret
  exact ⟨by rw [HRB.out]; rfl, (Below.refl _ _).alloc (Nat.le_refl _) _⟩
end Go.Proofs.YtchbammjcnhkiaaDoor.Ce
