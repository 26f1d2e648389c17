/- The walk of the law RetryTimes: it answers true and leaves what was there as it was: for every policy and time. -/
import Derived.Test.YtklccnnmdlckfaaLwTimes
import Derived.Test.YtklccnnmdlckfaaWk
namespace Go.Proofs.Ytklccnnmdlckfaa.LwTimes
open Go.RowKit Go.Maps Go.Proofs.Ytklccnnmdlckfaa Go.Proofs.Ytklccnnmdlckfaa.Br Go.Proofs.Ytklccnnmdlckfaa.PRetryTimes Go.Proofs.YtklccnnmdlckfaaW.PrintWords Go.Proofs.YtklccnnmdlckfaaW.PrintLast Go.Proofs.YtklccnnmdlckfaaW.PrintMore

theorem drawn {w w' : World} (h : Drawn0 w w') : ∃ n, w' = w.drewN n := h.out

theorem needs : Needs where
  wait w := (retry_Wait.calls 10 5 10 3 50 2 30 0 w (by decide +kernel)).mono fun _ _ h => h
  times w := (retry_Times.calls 20 5 10 3 50 0 [0, 10, 40, 90, 140] 0 w (by decide +kernel)).mono fun _ _ ⟨v, h1, h2, h3⟩ => ⟨v, h1, IntsAt.of_R h2, h3⟩
  ints w v u hv hu := by
    obtain ⟨A, c, rfl, hc, h1⟩ := hv
    obtain ⟨A', c', rfl, hc', h2⟩ := hu
    exact (onceweblaw12_ints.calls 20 A c _ A' c' _ true w h1 hc h2 hc' (by decide +kernel)).mono fun _ _ ⟨h, h'⟩ => ⟨h, drawn h'⟩

theorem ints_eq (w : World) (v u : Value) (l : List Int) (hl : l.length ≤ 1000) (hv : IntsAt w v l) (hu : IntsAt w u l) : Calls Try.prog 14 #[v, u] w fun e w' => e = .returned (.bool true) ∧ ∃ n, w' = w.drewN n := by
  obtain ⟨A, c, rfl, hc, h1⟩ := hv
  obtain ⟨A', c', rfl, hc', h2⟩ := hu
  exact (onceweblaw12_ints.calls 1001 A c _ A' c' _ true w h1 hc h2 hc' (ints_self l hl)).mono fun _ _ ⟨h, h'⟩ => ⟨h, drawn h'⟩

set_option maxRecDepth 100000 in
theorem walk (a b c d t : Int) (w : World) (_ : (Lit.int .i64 a).wf = true) (_ : (Lit.int .i64 b).wf = true) (_ : (Lit.int .i64 c).wf = true) (_ : (Lit.int .i64 d).wf = true) (_ : (Lit.int .i64 t).wf = true) : Calls Try.prog 3 #[.agg #[.int .i64 a, .int .i64 b, .int .i64 c, .int .i64 d], .int .i64 t] w fun e w' => e = .returned (.bool true) ∧ Below w.heap.size w w' := by
  obtain ⟨r, e, hr, h1, h2⟩ := both_times a b c d t 1000 (by omega)
  obtain ⟨s, f, h3, h4⟩ := both_totals a b c d 1000 (by omega)
  have H1 := Lib.hid h1
  have H2 := Lib.hid h2
  have H3 := Lib.hid h3
  have H4 := Lib.hid h4
  have HR := Lib.hid hr
  clear h1 h2 h3 h4 hr
  -- what is known of the policy's block in each world
  have P : ∀ w1, Below (w.heap.size + 1) (w.alloc (.cells #[.int .i64 a, .int .i64 b, .int .i64 c, .int .i64 d] 23)) w1 → w1.cell? ⟨w.heap.size, 0, none⟩ = some (.int .i64 a) ∧ w1.cell? ⟨w.heap.size, 1, none⟩ = some (.int .i64 b) ∧ w1.cell? ⟨w.heap.size, 2, none⟩ = some (.int .i64 c) ∧ w1.cell? ⟨w.heap.size, 3, none⟩ = some (.int .i64 d) := by
    intro w1 hb
    have k1 : w1.heap[w.heap.size]? = _ := (hb.block _ (Nat.lt_succ_self _)).trans (blk_new w _)
    exact ⟨(blk_cell k1 0).trans rfl, (blk_cell k1 1).trans rfl, (blk_cell k1 2).trans rfl, (blk_cell k1 3).trans rfl⟩
  have HP := Lib.hid P
  clear P
  have HS : w.heap.size + 1 = (w.alloc (.cells #[.int .i64 a, .int .i64 b, .int .i64 c, .int .i64 d] 23)).heap.size := (World.size_alloc w _).symm
  have HS := Lib.hid HS
  go_enter Try.func3, Try.ntmps3
  go_wp2_with fail
  refine (retry_Times.calls 1000 a b c d t r e _ H1.out).mono ?_
  rintro _ w1 ⟨v, rfl, hv, hb⟩
  have HB := Lib.hid (hb.mono (Nat.le_of_eq HS.out))
  have HV := Lib.hid (IntsAt.of_R hv)
  obtain ⟨c0, c1, c2, c3⟩ := HP.out _ HB.out
  clear hv hb
  go_wp2_with fail
  refine (oncewebref12_Times.calls 1000 a b c d t r e _ H2.out).mono ?_
  rintro _ w2 ⟨u, rfl, hv, hb⟩
  have HZ := Lib.hid (HB.out.trans (hb.mono (by have := HB.out.size; rw [World.size_alloc] at this; exact this)))
  have HV' := Lib.hid (And.intro (HV.out.below hb) (IntsAt.of_R hv))
  clear hv hb c0 c1 c2 c3 HB HV
  obtain ⟨c0, c1, c2, c3⟩ := HP.out _ HZ.out
  go_wp2_with fail
  refine (retry_Total.calls 1000 a b c d s f _ H3.out).mono ?_
  rintro _ w3 ⟨rfl, hb⟩
  have HZ' := Lib.hid (HZ.out.trans (hb.mono (by have := HZ.out.size; rw [World.size_alloc] at this; exact this)))
  have HV := Lib.hid (And.intro (HV'.out.1.below hb) (HV'.out.2.below hb))
  clear hb c0 c1 c2 c3 HZ HV'
  obtain ⟨c0, c1, c2, c3⟩ := HP.out _ HZ'.out
  go_wp2_with fail
  refine (oncewebref12_Total.calls 1000 a b c d s f _ H4.out).mono ?_
  rintro _ w4 ⟨rfl, hb⟩
  have HZ := Lib.hid (HZ'.out.trans (hb.mono (by have := HZ'.out.size; rw [World.size_alloc] at this; exact this)))
  have HV' := Lib.hid (And.intro (HV.out.1.below hb) (HV.out.2.below hb))
  clear hb c0 c1 c2 c3 HZ' HV
  go_wp2_with fail
  refine (ints_eq _ _ _ r HR.out HV'.out.1 HV'.out.2).mono ?_
  rintro _ w5 ⟨rfl, n, rfl⟩
  go_wp2_with fail
  refine (works_any needs _).mono ?_
  rintro _ w6 ⟨rfl, hb⟩
  have HE : Below w.heap.size w w6 := (((Below.refl w.heap.size w).alloc (Nat.le_refl _) _).trans (HZ.out.mono (Nat.le_succ _))).trans (((below_drewN w4 n).trans (hb.mono (Nat.le_refl _))).mono (by have := HZ.out.size; rw [World.size_alloc] at this; omega))
  have HE := Lib.hid HE
  clear hb
  go_wp2_with fail
  go_ret
  exact ⟨rfl, HE.out⟩
end Go.Proofs.Ytklccnnmdlckfaa.LwTimes
