/- played: whatever is called, what comes of it is a right web of one's own. -/
import Derived.Test.YtohkobfamofkgaaPd
namespace Go.Proofs.Ytohkobfamofkgaa
open Go.RowKit Go.Maps Go.Deep Go.WideShapes Go.ChangeShapes Go.Proofs.Ytohkobfamofkgaa Go.Proofs.Ytohkobfamofkgaa.Wb Go.Proofs.YtohkobfamofkgaaW.PrintWords Go.Proofs.YtohkobfamofkgaaW.PrintLast Go.Proofs.YtohkobfamofkgaaW.PrintMore

theorem tmod_tmod (a n : Int) (h0 : 0 < n) (h1 : n < 100000) : Int.tmod (wrap64 (Int.tmod a n + n)) n = a % n := by
  rcases Int.le_total 0 a with h | h
  · rw [Int.tmod_eq_emod_of_nonneg h]
    have h2 := Int.emod_nonneg a (show n ≠ 0 by omega)
    have h3 := Int.emod_lt_of_pos a h0
    rw [show wrap64 (a % n + n) = a % n + n by unfold wrap64; omega, Int.tmod_eq_emod_of_nonneg (by omega), Int.add_emod_right, Int.emod_emod_of_dvd _ (Int.dvd_refl n)]
  · obtain ⟨c, rfl⟩ : ∃ c, a = -c := ⟨-a, by omega⟩
    rw [Int.neg_tmod, Int.tmod_eq_emod_of_nonneg (a := c) (by omega)]
    have h2 := Int.emod_nonneg c (show n ≠ 0 by omega)
    have h3 := Int.emod_lt_of_pos c h0
    rw [show wrap64 (-(c % n) + n) = -(c % n) + n by unfold wrap64; omega, Int.tmod_eq_emod_of_nonneg (by omega), Int.add_emod_right]
    have h4 := Int.emod_add_mul_ediv c n
    rw [show -c = -(c % n) + n * (-(c / n)) by rw [Int.mul_neg]; omega, Int.add_mul_emod_self_left]
theorem among_any (w : World) (a n : Int) (h0 : 0 < n) (h1 : n < 100000) : Calls Try.prog 14 #[.int .i64 a, .int .i64 n] w fun e w' => e = .returned (.int .i64 (a % n)) ∧ Below w.heap.size w w' := by
  refine (PDependTells.onceweblaw14_among.calls a n (a % n) w ?_).mono ?_
  · unfold PDependTells.onceweblaw14_among.f
    rw [if_neg (by omega), tmod_tmod a n h0 h1]
  · rintro _ w' ⟨rfl, m, rfl⟩
    exact ⟨rfl, below_drewN (Below.refl _ _) m⟩
/-- Kind, task and cell of one call, in a block of one's own, and the web beside them. -/
theorem among_at {w0 wr : World} {b : Nat} (x0 x1 x2 : Int) (h : Hid (Play w0 wr b)) :
    Calls Try.prog 14 #[.int .i64 x0, .int .i64 6] (wr.alloc (.cells #[.int .i64 x0, .int .i64 x1, .int .i64 x2] 50)) fun e w' => ∃ k : Int, e = .returned (.int .i64 k) ∧ (k = 0 ∨ k = 1 ∨ k = 2 ∨ k = 3 ∨ k = 4 ∨ k = 5) ∧ w'.cell? ⟨wr.heap.size, 1, none⟩ = some (.int .i64 x1) ∧ w'.cell? ⟨wr.heap.size, 2, none⟩ = some (.int .i64 x2) ∧ Hid (Play w0 w' b) := by
  refine (among_any _ x0 6 (by decide) (by decide)).mono ?_
  rintro _ w' ⟨rfl, k⟩
  have hb := (k.block wr.heap.size (by rw [World.size_alloc]; omega)).trans (blk_new wr _)
  refine ⟨_, rfl, by omega, blk_cell hb 1, blk_cell hb 2, Lib.hid ((h.out.below ((Below.refl _ _).alloc (Nat.le_refl _) _)).below k)⟩
theorem Play.of_below {w0 w w' : World} {b : Nat} (h : Play w0 w b) (k : Below w.heap.size w w') : Play w0 w' b := h.below k
theorem Play.since {w0 w : World} {b : Nat} (h : Play w0 w b) : Below w0.heap.size w0 w := by
  obtain ⟨m, ⟨V, h1, h2⟩, _⟩ := h
  exact h2

set_option maxHeartbeats 2000000 in
set_option maxRecDepth 100000 in
theorem played_any (A : Option Addr) (l : List (Int × Int × Int)) (c : Nat) (w : World) (hl : l.length ≤ c) (hC : Kd.C kcall w A l.length l) (hb : l.length * 24 ≤ 140737488351232) :
    Calls Try.prog 13 #[.slice A l.length c] w fun e w' => ∃ b, e = .returned (.pointer (some ⟨b, 0, none⟩)) ∧ Play w w' b := by
  have HC := Lib.hid hC
  have HN := Lib.hid (show l.length < 4611686018427387904 by omega)
  have hlen : (l.length : Int) < 4611686018427387904 := by omega
  clear hC hl hb
  go_enter Try.func13, Try.ntmps13
  go_wp2_with (go_at_call 22; refine (Play.new _).mono ?_; rintro _ w1 ⟨rfl, k2⟩; have H1 := Lib.hid k2; clear k2)
  go_loopg [3, 9] (l.length) (fun gk p i wr => ∃ b j : Nat, p = .pointer (some ⟨b, 0, none⟩) ∧ i = .int .i64 j ∧ j + gk = l.length ∧ Hid (Play w wr b))
  case atStart => exact ⟨_, 0, rfl, rfl, by simp, H1⟩
  case round =>
    clear H1
    obtain ⟨b, j, rfl, rfl, hj, HY⟩ := hrel
    by_cases hlt : j < l.length
    · have hlt2 : (j : Int) < l.length := by omega
      obtain ⟨ad, rfl, c0, c1, c2⟩ := call_at (Kd.C_below HC.out (Play.since HY.out)) j hlt
      generalize hx : l[j] = x at *
      obtain ⟨x0, x1, x2⟩ := x
      simp only at c0 c1 c2
      clear hx
      have HJ := Lib.hid hj
      clear hj
      go_wp2_with fail
      refine (among_at x0 x1 x2 HY).mono ?_
      clear HY c0 c1 c2
      rintro _ w2 ⟨k, rfl, hk, c1, c2, HY⟩
      generalize wr.heap.size = q at *
      have hw : IntKind.i64.wrap ((j : Int) + 1) = ((j + 1 : Nat) : Int) := by rw [IntWalk.i64_in _ (by omega)]; omega
      rcases hk with rfl | rfl | rfl | rfl | rfl | rfl
      · go_wp2_with (go_at_call 17; refine (begin_play w _ b x1 x2 HY.out).mono ?_; rintro _ w3 ⟨⟨x, rfl⟩, k3⟩; have H3 := Lib.hid k3; clear k3)
        go_roundg (gk - 1)
        case measure => have := HJ.out; omega
        case rel => exact ⟨b, j + 1, rfl, rfl, by have := HJ.out; omega, H3⟩
      · go_wp2_with (go_at_call 18; refine (end_play w _ b x1 HY.out).mono ?_; rintro _ w3 ⟨⟨x, v, y, rfl⟩, k3⟩; have H3 := Lib.hid k3; clear k3)
        go_roundg (gk - 1)
        case measure => have := HJ.out; omega
        case rel => exact ⟨b, j + 1, rfl, rfl, by have := HJ.out; omega, H3⟩
      · go_wp2_with (go_at_call 26; refine (ask_play w _ b x1 x2 HY.out).mono ?_; rintro _ w3 ⟨⟨x, y, rfl⟩, k3⟩; have H3 := Lib.hid k3; clear k3)
        go_roundg (gk - 1)
        case measure => have := HJ.out; omega
        case rel => exact ⟨b, j + 1, rfl, rfl, by have := HJ.out; omega, H3⟩
      · go_wp2_with (go_at_call 20; refine (wait_play w _ b x1 x2 HY.out).mono ?_; rintro _ w3 ⟨⟨x, y, rfl⟩, k3⟩; have H3 := Lib.hid k3; clear k3)
        go_roundg (gk - 1)
        case measure => have := HJ.out; omega
        case rel => exact ⟨b, j + 1, rfl, rfl, by have := HJ.out; omega, H3⟩
      · go_wp2_with (go_at_call 21; refine (wake_play w _ b x1 HY.out).mono ?_; rintro _ w3 ⟨⟨x, rfl⟩, k3⟩; have H3 := Lib.hid k3; clear k3)
        go_roundg (gk - 1)
        case measure => have := HJ.out; omega
        case rel => exact ⟨b, j + 1, rfl, rfl, by have := HJ.out; omega, H3⟩
      · go_wp2_with (go_at_call 28; refine (clone_play w _ b HY.out).mono ?_; rintro _ w3 ⟨x, rfl, k3⟩; have H3 := Lib.hid k3; clear k3)
        go_roundg (gk - 1)
        case measure => have := HJ.out; omega
        case rel => exact ⟨x, j + 1, rfl, rfl, by have := HJ.out; omega, H3⟩
    · obtain rfl : j = l.length := by omega
      go_wp2_with fail
      go_ret
      exact ⟨b, rfl, HY.out⟩
end Go.Proofs.Ytohkobfamofkgaa
