/- Is a crack right by itself: the walk of fail.well. -/
import Derived.Test.YtdnkedifjaccoaaDoorFg
namespace Go.Proofs.YtdnkedifjaccoaaDoor.Ce
open Go.RowKit Go.Maps Go.Proofs.YtdnkedifjaccoaaDoor Go.Proofs.YtdnkedifjaccoaaDoorW.PrintWords Go.Proofs.YtdnkedifjaccoaaDoorW.PrintLast Go.Proofs.YtdnkedifjaccoaaDoorW.PrintMore PToken
attribute [local go_sem] max2_int min2_int max_two min_two max_three min_three max_four min_four
set_option linter.unusedVariables false
set_option linter.unusedSimpArgs false
theorem sort_cases (k : Int) : sortG k = 0 ∨ sortG k = 1 ∨ sortG k = 2 ∨ sortG k = 3 ∨ sortG k = 4 := by
  unfold sortG
  by_cases h : k < 0 ∨ k ≥ 12
  · rw [if_pos h]; exact .inl rfl
  · rw [if_neg h]
    have hk : k = 0 ∨ k = 1 ∨ k = 2 ∨ k = 3 ∨ k = 4 ∨ k = 5 ∨ k = 6 ∨ k = 7 ∨ k = 8 ∨ k = 9 ∨ k = 10 ∨ k = 11 := by omega
    rcases hk with rfl | rfl | rfl | rfl | rfl | rfl | rfl | rfl | rfl | rfl | rfl | rfl <;> decide
set_option maxHeartbeats 4000000 in
set_option maxRecDepth 100000 in
theorem well_is (w : World) (hla : LaidF w) (k n : Int) (t : ByteArray) : Calls Tryd.prog 62 #[.agg #[.int .i64 k, .int .i64 n, .string t]] w fun e w' => e = .returned (.bool (wellB ⟨k, n, t⟩)) ∧ Below w.heap.size w w' := by
  obtain ⟨w2, e2⟩ : ∃ w2, w2 = w.alloc (.cells #[.int .i64 k, .int .i64 n, .string t] 56) := ⟨_, rfl⟩
  have hb2 : Below w.heap.size w w2 := by rw [e2]; exact below_alloc (Below.refl _ _) _
  have k3 : w2.heap[w.heap.size]? = some (.cells #[.int .i64 k, .int .i64 n, .string t] 56 (0, 0)) := by rw [e2]; exact blk_new _ _
  have HB2 := Lib.hid hb2
  have HK3 := Lib.hid k3
  have HS := Lib.hid (sort_is w2 (hla.below hb2) k)
  have HF := Lib.hid (fits_is w2 (hla.below hb2) k t)
  have HC := Lib.hid (sort_cases k)
  obtain ⟨b, hb⟩ : ∃ b, b = wellB ⟨k, n, t⟩ := ⟨_, rfl⟩
  have HBB := Lib.hid (show b = (okN (sortG k) n && (decide (t.size ≤ 4096) && fitsB k t)) from hb)
  rw [← hb]
  clear hla hb2 k3 hb
  go_enter Tryd.func62, Tryd.ntmps62
  go_upto_region 1 with fail
  rw [← e2]
  clear e2
  have q0 := (blk_cell HK3.out 0).trans rfl
  have q1 := (blk_cell HK3.out 1).trans rfl
  have q2 := (blk_cell HK3.out 2).trans rfl
  go_wp2_with fail
  refine HS.out.mono ?_
  rintro _ w3 ⟨rfl, rfl⟩
  generalize sortG k = s at *
  clear HS
  rcases HC.out with rfl | rfl | rfl | rfl | rfl
  · have HR := Lib.hid (show b = false by rw [HBB.out]; unfold okN; simp)
    go_wp2_with fail
    go_ret
    exact ⟨by rw [HR.out]; rfl, HB2.out⟩
  · by_cases hn : n = 0
    · subst hn
      have HO := Lib.hid (show b = (decide (t.size ≤ 4096) && fitsB k t) by rw [HBB.out]; unfold okN; simp)
      by_cases h4 : t.size ≤ 4096
      · have HR := Lib.hid (show b = fitsB k t by rw [HO.out, decide_eq_true h4, Bool.true_and])
        have h4i : (t.size : Int) ≤ 4096 := by omega
        have h4d : decide ((t.size : Int) ≤ 4096) = true := decide_eq_true h4i
        clear h4 HO
        go_wp2_with fail
        refine HF.out.mono ?_
        rintro _ w4 ⟨rfl, hb4⟩
        have HB4 := Lib.hid (below_step HB2.out hb4)
        clear hb4
        generalize fitsB k t = fb at *
        go_wp2_with fail
        go_ret
        exact ⟨by rw [HR.out]; rfl, HB4.out⟩
      · have HR := Lib.hid (show b = false by rw [HO.out, decide_eq_false h4]; rfl)
        have h4i : ¬ (t.size : Int) ≤ 4096 := by omega
        have h4d : decide ((t.size : Int) ≤ 4096) = false := decide_eq_false h4i
        clear h4 HO
        go_wp2_with fail
        go_ret
        exact ⟨by rw [HR.out]; rfl, HB2.out⟩
    · have g1 : (n == 0) = false := by simpa using hn
      have g2 : decide (n = 0) = false := by simpa using hn
      have HR := Lib.hid (show b = false by rw [HBB.out]; unfold okN; simp [hn])
      go_wp2_with fail
      go_ret
      exact ⟨by rw [HR.out]; rfl, HB2.out⟩
  · by_cases hn : n = 0
    · subst hn
      have HO := Lib.hid (show b = (decide (t.size ≤ 4096) && fitsB k t) by rw [HBB.out]; unfold okN; simp)
      by_cases h4 : t.size ≤ 4096
      · have HR := Lib.hid (show b = fitsB k t by rw [HO.out, decide_eq_true h4, Bool.true_and])
        have h4i : (t.size : Int) ≤ 4096 := by omega
        have h4d : decide ((t.size : Int) ≤ 4096) = true := decide_eq_true h4i
        clear h4 HO
        go_wp2_with fail
        refine HF.out.mono ?_
        rintro _ w4 ⟨rfl, hb4⟩
        have HB4 := Lib.hid (below_step HB2.out hb4)
        clear hb4
        generalize fitsB k t = fb at *
        go_wp2_with fail
        go_ret
        exact ⟨by rw [HR.out]; rfl, HB4.out⟩
      · have HR := Lib.hid (show b = false by rw [HO.out, decide_eq_false h4]; rfl)
        have h4i : ¬ (t.size : Int) ≤ 4096 := by omega
        have h4d : decide ((t.size : Int) ≤ 4096) = false := decide_eq_false h4i
        clear h4 HO
        go_wp2_with fail
        go_ret
        exact ⟨by rw [HR.out]; rfl, HB2.out⟩
    · have g1 : (n == 0) = false := by simpa using hn
      have g2 : decide (n = 0) = false := by simpa using hn
      by_cases hm : n = 1
      · subst hm
        have HO := Lib.hid (show b = (decide (t.size ≤ 4096) && fitsB k t) by rw [HBB.out]; unfold okN; simp)
        by_cases h4 : t.size ≤ 4096
        · have HR := Lib.hid (show b = fitsB k t by rw [HO.out, decide_eq_true h4, Bool.true_and])
          have h4i : (t.size : Int) ≤ 4096 := by omega
          have h4d : decide ((t.size : Int) ≤ 4096) = true := decide_eq_true h4i
          clear h4 HO
          go_wp2_with fail
          refine HF.out.mono ?_
          rintro _ w4 ⟨rfl, hb4⟩
          have HB4 := Lib.hid (below_step HB2.out hb4)
          clear hb4
          generalize fitsB k t = fb at *
          go_wp2_with fail
          go_ret
          exact ⟨by rw [HR.out]; rfl, HB4.out⟩
        · have HR := Lib.hid (show b = false by rw [HO.out, decide_eq_false h4]; rfl)
          have h4i : ¬ (t.size : Int) ≤ 4096 := by omega
          have h4d : decide ((t.size : Int) ≤ 4096) = false := decide_eq_false h4i
          clear h4 HO
          go_wp2_with fail
          go_ret
          exact ⟨by rw [HR.out]; rfl, HB2.out⟩
      · have g3 : (n == 1) = false := by simpa using hm
        have g4 : decide (n = 1) = false := by simpa using hm
        have HR := Lib.hid (show b = false by rw [HBB.out]; unfold okN; simp [hn, hm])
        go_wp2_with fail
        go_ret
        exact ⟨by rw [HR.out]; rfl, HB2.out⟩
  · by_cases hn : n = 1
    · subst hn
      have HO := Lib.hid (show b = (decide (t.size ≤ 4096) && fitsB k t) by rw [HBB.out]; unfold okN; simp)
      by_cases h4 : t.size ≤ 4096
      · have HR := Lib.hid (show b = fitsB k t by rw [HO.out, decide_eq_true h4, Bool.true_and])
        have h4i : (t.size : Int) ≤ 4096 := by omega
        have h4d : decide ((t.size : Int) ≤ 4096) = true := decide_eq_true h4i
        clear h4 HO
        go_wp2_with fail
        refine HF.out.mono ?_
        rintro _ w4 ⟨rfl, hb4⟩
        have HB4 := Lib.hid (below_step HB2.out hb4)
        clear hb4
        generalize fitsB k t = fb at *
        go_wp2_with fail
        go_ret
        exact ⟨by rw [HR.out]; rfl, HB4.out⟩
      · have HR := Lib.hid (show b = false by rw [HO.out, decide_eq_false h4]; rfl)
        have h4i : ¬ (t.size : Int) ≤ 4096 := by omega
        have h4d : decide ((t.size : Int) ≤ 4096) = false := decide_eq_false h4i
        clear h4 HO
        go_wp2_with fail
        go_ret
        exact ⟨by rw [HR.out]; rfl, HB2.out⟩
    · have g1 : (n == 1) = false := by simpa using hn
      have g2 : decide (n = 1) = false := by simpa using hn
      have HR := Lib.hid (show b = false by rw [HBB.out]; unfold okN; simp [hn])
      go_wp2_with fail
      go_ret
      exact ⟨by rw [HR.out]; rfl, HB2.out⟩
  · by_cases hn : 1 ≤ n
    · have g2 : decide (1 ≤ n) = true := decide_eq_true hn
      have HO := Lib.hid (show b = (decide (t.size ≤ 4096) && fitsB k t) by rw [HBB.out]; unfold okN; simp [hn])
      by_cases h4 : t.size ≤ 4096
      · have HR := Lib.hid (show b = fitsB k t by rw [HO.out, decide_eq_true h4, Bool.true_and])
        have h4i : (t.size : Int) ≤ 4096 := by omega
        have h4d : decide ((t.size : Int) ≤ 4096) = true := decide_eq_true h4i
        clear h4 HO
        go_wp2_with fail
        refine HF.out.mono ?_
        rintro _ w4 ⟨rfl, hb4⟩
        have HB4 := Lib.hid (below_step HB2.out hb4)
        clear hb4
        generalize fitsB k t = fb at *
        go_wp2_with fail
        go_ret
        exact ⟨by rw [HR.out]; rfl, HB4.out⟩
      · have HR := Lib.hid (show b = false by rw [HO.out, decide_eq_false h4]; rfl)
        have h4i : ¬ (t.size : Int) ≤ 4096 := by omega
        have h4d : decide ((t.size : Int) ≤ 4096) = false := decide_eq_false h4i
        clear h4 HO
        go_wp2_with fail
        go_ret
        exact ⟨by rw [HR.out]; rfl, HB2.out⟩
    · have g2 : decide (1 ≤ n) = false := decide_eq_false hn
      have HR := Lib.hid (show b = false by rw [HBB.out]; unfold okN; simp [hn])
      go_wp2_with fail
      go_ret
      exact ⟨by rw [HR.out]; rfl, HB2.out⟩
end Go.Proofs.YtdnkedifjaccoaaDoor.Ce
