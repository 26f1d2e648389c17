/- among, late: turned from what print.sh wrote for a law of this seat. -/
import Derived.Test.YtdnkedifjaccoaaDoorQ0
namespace Go.Proofs.YtdnkedifjaccoaaDoor.PToken
open Go.RowKit Go.Proofs.YtdnkedifjaccoaaDoorW.PrintWords Go.Proofs.YtdnkedifjaccoaaDoorW.PrintLast Go.Proofs.YtdnkedifjaccoaaDoorW.PrintMore
attribute [local go_sem] max2_int min2_int max_two min_two max_three min_three max_four min_four   -- for this text's walks alone
set_option linter.unusedVariables false
set_option linter.unusedSimpArgs false
/-! ### onceweblaw04_among: function 10 -/
def onceweblaw04_among.f (a0 : Int) (a1 : Int) : Option (Int) := if a1 = 0 then (none) else (some (Int.tmod (wrap64 ((Int.tmod a0 a1) + a1)) a1))
set_option maxHeartbeats 8000000 in
set_option maxRecDepth 100000 in
theorem onceweblaw04_among.calls (a0 : Int) (a1 : Int) (r : Int) (w : World) (h : onceweblaw04_among.f a0 a1 = some r) :
  Calls Tryd.prog 10 #[.int .i64 a0, .int .i64 a1] w fun e w' => e = .returned (.int .i64 r) ∧ Drawn0 w w' := by
 have H : (if a1 = 0 then (none) else (some (Int.tmod (wrap64 ((Int.tmod a0 a1) + a1)) a1))) = some r := h
 clear h
 by_cases c3 : a1 = 0
 ·rw [if_pos c3] at H
  exact absurd H (by simp)
 ·rw [if_neg c3] at H
  have c3b0 : (a1 == 0) = false := beq_eq_false_iff_ne.mpr c3
  have c3b1 : (a1 != 0) = true := bne_iff_ne.mpr c3
  obtain rfl := Option.some.inj H
  go_enter Tryd.func10, Tryd.ntmps10
  go_wp2
  go_ret
  exact ⟨by first | rfl | (simp; done) | (simp [*]; done), by repeat (first | exact Drawn0.refl _ | apply Drawn0.step)⟩
/-! ### token_late: function 34 -/
def token_late.f  : Option ((List (S56))) := some (([(⟨1, 0, (⟨#[100, 101, 97, 100, 108, 105, 110, 101]⟩ : ByteArray)⟩ : S56)] : List (S56)))
set_option maxHeartbeats 8000000 in
set_option maxRecDepth 100000 in
theorem token_late.calls  (r : List (S56)) (w : World) (h : token_late.f  = some r) :
  Calls Tryd.prog 34 #[] w fun e w' => ∃ v0_ : Value, e = .returned (v0_) ∧ Kd.R k56 56 w' w.heap.size (fun _ => True) v0_ r ∧ Below w.heap.size w w' := by
 have hu56 := Tryd.underlying56
 have HB := Aside0.mk (Below.refl w.heap.size w)
 have H : (some (([(⟨1, 0, (⟨#[100, 101, 97, 100, 108, 105, 110, 101]⟩ : ByteArray)⟩ : S56)] : List (S56)))) = some r := h
 clear h
 obtain ⟨y138, hy138⟩ : ∃ y_ : List (S56), y_ = (([(⟨1, 0, (⟨#[100, 101, 97, 100, 108, 105, 110, 101]⟩ : ByteArray)⟩ : S56)] : List (S56))) := ⟨_, rfl⟩
 replace H : (some y138) = some r := by first | (rw [hy138]; with_reducible exact H) | (have H2_ := (Option.bind_some _ _).symm.trans H; rw [hy138]; with_reducible exact H2_) | (have H2_ := (Option.bind_some _ _).symm.trans H; with_reducible exact H2_) | with_reducible exact H | (rw [hy138]; exact H) | exact H
 have Ny138 := Aside0.mk hy138
 clear hy138
 obtain rfl := Option.some.inj H
 go_enter Tryd.func34, Tryd.ntmps34
 go_wp2_with (first | ((with_reducible refine gate_dst (N := 2) rfl ?_); refine Kd.R_lit k56 _ 56 ?hg (N := 2) ?hd (xs := ([(⟨1, 0, (⟨#[100, 101, 97, 100, 108, 105, 110, 101]⟩ : ByteArray)⟩ : S56)] : List (S56))) (inner := [.int .i64 1, .int .i64 0, .string (⟨#[100, 101, 97, 100, 108, 105, 110, 101]⟩ : ByteArray)]) (ok := fun _ => True) (okp := fun _ => True) ?hr ?hp (fun _ hk => hk) trivial (Below.refl _ _) (Nat.le_refl _) (by simp) ?_; (case hd => rfl); (case hg => rfl); (case hr => first | (go_simp; done) | (go_simp; rfl)); (case hp => exact (Reps.c3 (show Kd.M k56 _ _ _ (⟨1, 0, (⟨#[100, 101, 97, 100, 108, 105, 110, 101]⟩ : ByteArray)⟩ : S56) [.int .i64 1, .int .i64 0, .string (⟨#[100, 101, 97, 100, 108, 105, 110, 101]⟩ : ByteArray)] from (k56_mkM _ _ _ (⟨1, 0, (⟨#[100, 101, 97, 100, 108, 105, 110, 101]⟩ : ByteArray)⟩ : S56) )) (Reps.none _ _))); intro v139 w1 ho2 hb hg_ hnew_; clear hg_ hnew_; (first | rw [← Ny138.out] at ho2 | (simp only [Int.reduceToNat] at ho2; rw [← Ny138.out] at ho2)); have n0_ := Aside0.mk (Kd.R_lower ho2 (below_size (by repeat (first | (with_reducible first | exact HB.out | apply below_alloc | apply pw_below_drewN | apply below_drew1) | exact HB.out)))); have n1_ := Aside0.mk (below_step (by repeat (first | (with_reducible first | exact HB.out | apply below_alloc | apply pw_below_drewN | apply below_drew1) | exact HB.out)) hb); clear HB; have HO140 := n0_; have HB := n1_; clear n0_ n1_; clear hb ho2))
 go_ret
 exact ⟨_, by first | rfl | (simp [errW_none, errW_some] <;> rfl) | (simp [*, errW_none, errW_some] <;> rfl), by (with_reducible repeat (first | apply Kd.R_alloc | apply Kd.R_drewN | apply Kd.R_drew)); exact HO140.out, by repeat (first | (with_reducible first | exact HB.out | apply below_alloc | apply pw_below_drewN | apply below_drew1) | exact HB.out)⟩
end Go.Proofs.YtdnkedifjaccoaaDoor.PToken
