/- The walk of the law RetryWaits: it answers true and leaves what was there as it was: for every policy and all numbers. -/
import Derived.Test.YtklccnnmdlckfaaLwWaits
import Derived.Test.YtklccnnmdlckfaaWk
import Derived.Deep.RegionHeld3
namespace Go.Proofs.Ytklccnnmdlckfaa.LwWaits
open Go.RowKit Go.Maps Go.Proofs.Ytklccnnmdlckfaa Go.Proofs.Ytklccnnmdlckfaa.Br Go.Proofs.Ytklccnnmdlckfaa.PRetryWaits Go.Proofs.YtklccnnmdlckfaaW.PrintWords Go.Proofs.YtklccnnmdlckfaaW.PrintLast Go.Proofs.YtklccnnmdlckfaaW.PrintMore

theorem drawn {w w' : World} (h : Drawn0 w w') : ∃ n, w' = w.drewN n := h.out

theorem needs : Needs where
  wait w := (retry_Wait.calls 10 5 10 3 50 2 30 0 w (by decide +kernel)).mono fun _ _ h => h
  times w := (retry_Times.calls 20 5 10 3 50 0 [0, 10, 40, 90, 140] 0 w (by decide +kernel)).mono fun _ _ ⟨v, h1, h2, h3⟩ => ⟨v, h1, IntsAt.of_R h2, h3⟩
  ints w v u hv hu := by
    obtain ⟨A, c, rfl, hc, h1⟩ := hv
    obtain ⟨A', c', rfl, hc', h2⟩ := hu
    exact (onceweblaw12_ints.calls 20 A c _ A' c' _ true w h1 hc h2 hc' (by decide +kernel)).mono fun _ _ ⟨h, h'⟩ => ⟨h, drawn h'⟩

/-- The policy's block in a world. -/
def PolAt (w : World) (g : Nat) (a b c d : Int) : Prop := w.cell? ⟨g, 0, none⟩ = some (.int .i64 a) ∧ w.cell? ⟨g, 1, none⟩ = some (.int .i64 b) ∧ w.cell? ⟨g, 2, none⟩ = some (.int .i64 c) ∧ w.cell? ⟨g, 3, none⟩ = some (.int .i64 d)

/-- A world behind the boxing of the policy: nothing of what was there ahead has changed, the policy's block holds it. -/
def Boxed (w w1 : World) (a b c d : Int) : Prop := Below w.heap.size w w1 ∧ w1.heap[w.heap.size]? = some (.cells #[.int .i64 a, .int .i64 b, .int .i64 c, .int .i64 d] 23 (0, 0))
theorem Boxed.new (w : World) (a b c d : Int) : Boxed w (w.alloc (.cells #[.int .i64 a, .int .i64 b, .int .i64 c, .int .i64 d] 23)) a b c d := ⟨(Below.refl w.heap.size w).alloc (Nat.le_refl _) _, blk_new w _⟩
theorem Boxed.below {w w1 w2 : World} {a b c d : Int} (h : Boxed w w1 a b c d) (hb : Below w1.heap.size w1 w2) : Boxed w w2 a b c d := ⟨h.1.trans (hb.mono h.1.size), blk_below h.2 hb⟩
theorem Boxed.pol {w w1 : World} {a b c d : Int} (h : Boxed w w1 a b c d) : w1.cell? ⟨w.heap.size, 0, none⟩ = some (.int .i64 a) ∧ w1.cell? ⟨w.heap.size, 1, none⟩ = some (.int .i64 b) ∧ w1.cell? ⟨w.heap.size, 2, none⟩ = some (.int .i64 c) ∧ w1.cell? ⟨w.heap.size, 3, none⟩ = some (.int .i64 d) :=
  ⟨(blk_cell h.2 0).trans rfl, (blk_cell h.2 1).trans rfl, (blk_cell h.2 2).trans rfl, (blk_cell h.2 3).trans rfl⟩

section
variable (a b c d f t n : Int) (w : World)
theorem wait_c : Calls Try.prog 23 #[.agg #[.int .i64 a, .int .i64 b, .int .i64 c, .int .i64 d], .int .i64 f] w fun e w' => e = .returned (.tuple #[.int .i64 (wait a b c d f).1, .int .i64 (wait a b c d f).2]) ∧ Below w.heap.size w w' := retry_Wait.calls 101 a b c d f _ _ w (wait_some a b c d f 101 (by omega))
theorem rwait_c : Calls Try.prog 24 #[.agg #[.int .i64 a, .int .i64 b, .int .i64 c, .int .i64 d], .int .i64 f] w fun e w' => e = .returned (.tuple #[.int .i64 (wait a b c d f).1, .int .i64 (wait a b c d f).2]) ∧ Below w.heap.size w w' := oncewebref12_Wait.calls 101 a b c d f _ _ w (rwait2_some a b c d f 101 (by omega))
theorem due_c : Calls Try.prog 25 #[.agg #[.int .i64 a, .int .i64 b, .int .i64 c, .int .i64 d], .int .i64 f, .int .i64 t] w fun e w' => e = .returned (.tuple #[.int .i64 (due a b c d f t).1, .int .i64 (due a b c d f t).2]) ∧ Below w.heap.size w w' := retry_Due.calls 101 a b c d f t _ _ w (due_some a b c d f t 101 (by omega))
theorem rdue_c : Calls Try.prog 26 #[.agg #[.int .i64 a, .int .i64 b, .int .i64 c, .int .i64 d], .int .i64 f, .int .i64 t] w fun e w' => e = .returned (.tuple #[.int .i64 (due a b c d f t).1, .int .i64 (due a b c d f t).2]) ∧ Below w.heap.size w w' := oncewebref12_Due.calls 101 a b c d f t _ _ w (rdue_some a b c d f t 101 (by omega))
theorem may_c : Calls Try.prog 27 #[.agg #[.int .i64 a, .int .i64 b, .int .i64 c, .int .i64 d], .int .i64 f, .int .i64 t, .int .i64 n] w fun e w' => e = .returned (.tuple #[.bool (may a b c d f t n).1, .int .i64 (may a b c d f t n).2]) ∧ Below w.heap.size w w' := retry_May.calls 101 a b c d f t n _ _ w (may_some a b c d f t n 101 (by omega))
theorem rmay_c : Calls Try.prog 28 #[.agg #[.int .i64 a, .int .i64 b, .int .i64 c, .int .i64 d], .int .i64 f, .int .i64 t, .int .i64 n] w fun e w' => e = .returned (.tuple #[.bool (may a b c d f t n).1, .int .i64 (may a b c d f t n).2]) ∧ Below w.heap.size w w' := oncewebref12_May.calls 101 a b c d f t n _ _ w (rmay_some a b c d f t n 101 (by omega))
theorem check_c : Calls Try.prog 29 #[.agg #[.int .i64 a, .int .i64 b, .int .i64 c, .int .i64 d]] w fun e w' => e = .returned (.int .i64 (chk a b c d)) ∧ Below w.heap.size w w' := retry_Check.calls a b c d _ w (check_some a b c d)
theorem rcheck_c : Calls Try.prog 30 #[.agg #[.int .i64 a, .int .i64 b, .int .i64 c, .int .i64 d]] w fun e w' => e = .returned (.int .i64 (chk a b c d)) ∧ Below w.heap.size w w' := oncewebref12_Check.calls 101 a b c d _ w (rcheck_some 101 a b c d (by omega))
end

section
variable {a b c d : Int} {w w1 : World}
theorem check_b (h : Boxed w w1 a b c d) : Calls Try.prog 29 #[.agg #[.int .i64 a, .int .i64 b, .int .i64 c, .int .i64 d]] w1 fun e w' => e = .returned (.int .i64 (chk a b c d)) ∧ Boxed w w' a b c d := (check_c a b c d w1).mono fun _ _ ⟨e, hb⟩ => ⟨e, h.below hb⟩
theorem rcheck_b (h : Boxed w w1 a b c d) : Calls Try.prog 30 #[.agg #[.int .i64 a, .int .i64 b, .int .i64 c, .int .i64 d]] w1 fun e w' => e = .returned (.int .i64 (chk a b c d)) ∧ Boxed w w' a b c d := (rcheck_c a b c d w1).mono fun _ _ ⟨e, hb⟩ => ⟨e, h.below hb⟩
theorem works_b (h : Boxed w w1 a b c d) : Calls Try.prog 15 #[] w1 fun e w' => e = .returned (.bool true) ∧ Boxed w w' a b c d := (works_any needs w1).mono fun _ _ ⟨e, hb⟩ => ⟨e, h.below hb⟩
theorem Boxed.drewN (h : Boxed w w1 a b c d) (n : Nat) : Boxed w (w1.drewN n) a b c d := h.below (below_drewN _ _)
end

set_option maxRecDepth 100000 in
set_option maxHeartbeats 1000000 in
theorem walk (a b c d f t n : Int) (w : World) (_ : (Lit.int .i64 a).wf = true) (_ : (Lit.int .i64 b).wf = true) (_ : (Lit.int .i64 c).wf = true) (_ : (Lit.int .i64 d).wf = true) (_ : (Lit.int .i64 f).wf = true) (_ : (Lit.int .i64 t).wf = true) (_ : (Lit.int .i64 n).wf = true) :
    Calls Try.prog 6 #[.agg #[.int .i64 a, .int .i64 b, .int .i64 c, .int .i64 d], .int .i64 f, .int .i64 t, .int .i64 n] w fun e w' => e = .returned (.bool true) ∧ Below w.heap.size w w' := by
  have HB := Lib.hid (Boxed.new w a b c d)
  go_enter Try.func6, Try.ntmps6
  go_wp2_with fail
  refine (wait_c a b c d f _).mono ?_
  rintro _ w1 ⟨rfl, hb⟩
  have HB1 := Lib.hid (HB.out.below hb)
  clear hb HB
  obtain ⟨c0, c1, c2, c3⟩ := HB1.out.pol
  go_wp2_with fail
  refine (rwait_c a b c d f _).mono ?_
  rintro _ w2 ⟨rfl, hb⟩
  have HB2 := Lib.hid (HB1.out.below hb)
  clear hb HB1 c0 c1 c2 c3
  obtain ⟨c0, c1, c2, c3⟩ := HB2.out.pol
  go_wp2_with fail
  refine (due_c a b c d f t _).mono ?_
  rintro _ w3 ⟨rfl, hb⟩
  have HB3 := Lib.hid (HB2.out.below hb)
  clear hb HB2 c0 c1 c2 c3
  obtain ⟨c0, c1, c2, c3⟩ := HB3.out.pol
  go_wp2_with fail
  refine (rdue_c a b c d f t _).mono ?_
  rintro _ w4 ⟨rfl, hb⟩
  have HB4 := Lib.hid (HB3.out.below hb)
  clear hb HB3 c0 c1 c2 c3
  obtain ⟨c0, c1, c2, c3⟩ := HB4.out.pol
  go_wp2_with fail
  refine (may_c a b c d f t n _).mono ?_
  rintro _ w5 ⟨rfl, hb⟩
  have HB5 := Lib.hid (HB4.out.below hb)
  clear hb HB4 c0 c1 c2 c3
  obtain ⟨c0, c1, c2, c3⟩ := HB5.out.pol
  go_wp2_with fail
  refine (rmay_c a b c d f t n _).mono ?_
  rintro _ w6 ⟨rfl, hb⟩
  have HB6 := Lib.hid (HB5.out.below hb)
  clear hb HB5 c0 c1 c2 c3
  obtain ⟨c0, c1, c2, c3⟩ := HB6.out.pol
  go_wp2_with fail
  generalize (wait a b c d f).1 = x1 at *
  generalize (wait a b c d f).2 = x2 at *
  generalize (due a b c d f t).1 = x3 at *
  generalize (due a b c d f t).2 = x4 at *
  generalize (may a b c d f t n).1 = x5 at *
  generalize (may a b c d f t n).2 = x6 at *
  have CK := fun w1 => Lib.hid (@check_b a b c d w w1)
  have RK := fun w1 => Lib.hid (@rcheck_b a b c d w w1)
  have HD := Lib.hid (show Boxed w w6.drew a b c d from HB6.out.drewN 1)
  generalize chk a b c d = x7 at *
  go_region_held3 (fun w' => w'.cell? ⟨w.heap.size, 0, none⟩ = some (.int .i64 a) ∧ w'.cell? ⟨w.heap.size, 1, none⟩ = some (.int .i64 b) ∧ w'.cell? ⟨w.heap.size, 2, none⟩ = some (.int .i64 c) ∧ w'.cell? ⟨w.heap.size, 3, none⟩ = some (.int .i64 d)) (first | exact ⟨d0, d1, d2, d3⟩ | exact ⟨c0, c1, c2, c3⟩) (first | (go_at_call 29; refine ((CK _).out (Hid.out (by assumption))).mono ?_; rintro _ w7 ⟨rfl, hb⟩; obtain ⟨d0, d1, d2, d3⟩ := hb.pol; have HX := Lib.hid hb; clear hb) | (go_at_call 30; refine ((RK _).out (Hid.out (by assumption))).mono ?_; rintro _ w7 ⟨rfl, hb⟩; obtain ⟨d0, d1, d2, d3⟩ := hb.pol; have HX := Lib.hid hb; clear hb) | (go_at_call 15; refine (works_b (Hid.out (by assumption))).mono ?_; rintro _ w7 ⟨rfl, hb⟩; obtain ⟨d0, d1, d2, d3⟩ := hb.pol; have HX := Lib.hid hb; clear hb))
  all_goals
    go_wp2
    go_ret
    exact ⟨rfl, (show Boxed w _ a b c d from Hid.out (by assumption)).1⟩
end Go.Proofs.Ytklccnnmdlckfaa.LwWaits
