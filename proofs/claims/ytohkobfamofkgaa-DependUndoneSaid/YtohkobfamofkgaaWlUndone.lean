/- What was begun last is ended as if it had not been; likewise a wait: the walk of DependUndone. -/
import Derived.Test.YtohkobfamofkgaaKp
namespace Go.Proofs.Ytohkobfamofkgaa
open Go.RowKit Go.Maps Go.Proofs.Ytohkobfamofkgaa Go.Proofs.Ytohkobfamofkgaa.Wb Go.Proofs.YtohkobfamofkgaaW.PrintWords Go.Proofs.YtohkobfamofkgaaW.PrintLast Go.Proofs.YtohkobfamofkgaaW.PrintMore

theorem ints_k {w0 w : World} {b : Nat} {m : Web} {vs : List (Value × List Int)} (v u : Value) (l : List Int) (h : Hid (Kept w0 w b m vs)) (hv : (v, l) ∈ vs) (hu : (u, l) ∈ vs) (hl : l.length ≤ 1000) :
    Calls Try.prog 11 #[v, u] w fun e w' => e = .returned (.bool true) ∧ Hid (Kept w0 w' b m vs) :=
  (ints_eq w v u l (h.out.ints hv) (h.out.ints hu) (by omega)).mono (fun _ _ ⟨a, k⟩ => ⟨a, Lib.hid (h.out.to k)⟩)
theorem played_k (A : Option Addr) (l : List (Int × Int × Int)) (c : Nat) (w0 w : World) (h : Hid (Below w0.heap.size w0 w)) (hl : l.length ≤ c) (hC : Hid (Kd.C kcall w0 A l.length l)) (hb : l.length * 24 ≤ 140737488351232) :
    Calls Try.prog 13 #[.slice A l.length c] w fun e w' => ∃ b m, e = .returned (.pointer (some ⟨b, 0, none⟩)) ∧ Hid (Kept w0 w' b m []) := by
  refine (played_any A l c w hl (Kd.C_below hC.out h.out) hb).mono ?_
  rintro _ w' ⟨b, rfl, m, k, hi⟩
  obtain ⟨m', k2⟩ := Kept.of_play (w0 := w0) (b := b) ⟨m, k.lower h.out, hi⟩
  exact ⟨b, m', rfl, Lib.hid k2⟩
theorem among_k {w0 w : World} {b : Nat} {m : Web} {vs : List (Value × List Int)} (x : Int) (n : Nat) (h0 : 0 < n) (h1 : n < 100000) (h : Hid (Kept w0 w b m vs)) :
    Calls Try.prog 14 #[.int .i64 x, .int .i64 n] w fun e w' => ∃ t : Nat, e = .returned (.int .i64 t) ∧ t < n ∧ Hid (Kept w0 w' b m vs) := by
  refine (among_any w x n (by omega) (by omega)).mono ?_
  rintro _ w' ⟨rfl, k⟩
  have a1 := Int.emod_nonneg x (show (n : Int) ≠ 0 by omega)
  have a2 := Int.emod_lt_of_pos x (show (0 : Int) < n by omega)
  exact ⟨(x % n).toNat, by rw [Int.toNat_of_nonneg a1], by omega, Lib.hid (h.out.to k)⟩

set_option maxHeartbeats 2000000 in
set_option maxRecDepth 100000 in
theorem walk_undone (A : Option Addr) (l : List (Int × Int × Int)) (c : Nat) (x1 x2 : Int) (w : World) (hl : l.length ≤ c) (hC : Kd.C kcall w A l.length l) (hb : l.length * 24 ≤ 140737488351232) :
    Calls Try.prog 5 #[.slice A l.length c, .int .i64 x1, .int .i64 x2] w fun e w' => e = .returned (.bool true) ∧ Below w.heap.size w w' := by
  have HC := Lib.hid hC
  have HL := Lib.hid (And.intro hl hb)
  clear hC hl hb
  go_enter Try.func5, Try.ntmps5
  go_wp2_with (go_at_call 12; refine (works_true w).mono ?_; rintro _ w1 ⟨rfl, hb1⟩; have HB1 := Lib.hid hb1; clear hb1)
  refine (played_k A l c w w1 HB1 HL.out.1 HC HL.out.2).mono ?_
  rintro _ w2 ⟨b, m, rfl, H2⟩
  clear HB1 HL HC
  go_wp2_with fail
  refine (among_k x1 128 (by decide) (by decide) H2).mono ?_
  clear H2
  rintro _ w3 ⟨t, rfl, ht, H3⟩
  go_wp2_with fail
  refine (among_k x2 256 (by decide) (by decide) H3).mono ?_
  clear H3
  rintro _ w4 ⟨d, rfl, hd, H4⟩
  go_wp2_with (go_at_call 15; refine (stack_k t ht H4).mono ?_; clear H4; rintro _ w5 ⟨A5, c5, rfl, H5⟩)
  refine (waiters_k d hd H5).mono ?_
  clear H5
  rintro _ w6 ⟨A6, c6, rfl, H6⟩
  go_wp2_with fail
  refine (begin_k t d ht hd H6).mono ?_
  rintro _ w7 ⟨x, rfl, ⟨hx, H7⟩ | ⟨rfl, hw0, hr0, H7⟩⟩
  · have hbx : (x == 0) = false := by simpa using hx
    clear hx H6
    go_wp2_with fail
    refine (wait_k t d ht hd H7).mono ?_
    rintro _ w20 ⟨v20, x20, rfl, ⟨hx20, H20⟩ | ⟨rfl, hw20, H20⟩⟩
    · have hb20 : (x20 == 0) = false := by simpa using hx20
      clear H7 hx20
      go_wp2_with fail
      refine (waiters_k d hd H20).mono ?_
      clear H20
      rintro _ w30 ⟨A30, c30, rfl, H30⟩
      go_wp2_with fail
      refine (stack_k t ht H30).mono ?_
      clear H30
      rintro _ w31 ⟨A31, c31, rfl, H31⟩
      go_wp2_with fail
      refine (ints_k _ _ (m.ls (128 + d)) H31 (by simp) (by simp) (by have := H31.out.iw.few d hd; omega)).mono ?_
      clear H31
      rintro _ w32 ⟨rfl, H32⟩
      go_wp2_with fail
      refine (ints_k _ _ (m.ls t) H32 (by simp) (by simp) (by have := H32.out.iw.wf.len t ht; omega)).mono ?_
      clear H32
      rintro _ w33 ⟨rfl, H33⟩
      go_wp2_with fail
      go_ret
      exact ⟨rfl, H33.out.bel⟩
    · go_wp2_with fail
      refine (wake_undo H7.out.iw t d ht hd hw20 H20).mono ?_
      clear H7 H20
      rintro _ w21 ⟨rfl, H21⟩
      go_wp2_with fail
      refine (wake_no t ht hw20 H21).mono ?_
      clear H21
      rintro _ w22 ⟨rfl, H22⟩
      go_wp2_with fail
      refine (waiters_k d hd H22).mono ?_
      clear H22
      rintro _ w30 ⟨A30, c30, rfl, H30⟩
      go_wp2_with fail
      refine (stack_k t ht H30).mono ?_
      clear H30
      rintro _ w31 ⟨A31, c31, rfl, H31⟩
      go_wp2_with fail
      refine (ints_k _ _ (m.ls (128 + d)) H31 (by simp) (by simp) (by have := H31.out.iw.few d hd; omega)).mono ?_
      clear H31
      rintro _ w32 ⟨rfl, H32⟩
      go_wp2_with fail
      refine (ints_k _ _ (m.ls t) H32 (by simp) (by simp) (by have := H32.out.iw.wf.len t ht; omega)).mono ?_
      clear H32
      rintro _ w33 ⟨rfl, H33⟩
      go_wp2_with fail
      go_ret
      exact ⟨rfl, H33.out.bel⟩
  · go_wp2_with fail
    refine (end_undo H6.out.iw t d ht hd hw0 hr0 H7).mono ?_
    clear H6 H7
    rintro _ w8 ⟨A8, c8, rfl, H8⟩
    go_wp2_with fail
    refine (stack_k t ht H8).mono ?_
    clear H8
    rintro _ w9 ⟨A9, c9, rfl, H9⟩
    go_wp2_with fail
    refine (runner_k d hd H9).mono ?_
    rintro _ w10 ⟨rfl, rfl⟩
    rw [hr0]
    go_wp2_with fail
    refine (ints_k _ _ (m.ls t) H9 (by simp) (by simp) (by have := H9.out.iw.wf.len t ht; omega)).mono ?_
    clear H9
    rintro _ w11 ⟨rfl, H11⟩
    go_wp2_with fail
    refine (wait_k t d ht hd H11).mono ?_
    rintro _ w20 ⟨v20, x20, rfl, ⟨hx20, H20⟩ | ⟨rfl, hw20, H20⟩⟩
    · have hb20 : (x20 == 0) = false := by simpa using hx20
      clear H11 hx20
      go_wp2_with fail
      refine (waiters_k d hd H20).mono ?_
      clear H20
      rintro _ w30 ⟨A30, c30, rfl, H30⟩
      go_wp2_with fail
      refine (stack_k t ht H30).mono ?_
      clear H30
      rintro _ w31 ⟨A31, c31, rfl, H31⟩
      go_wp2_with fail
      refine (ints_k _ _ (m.ls (128 + d)) H31 (by simp) (by simp) (by have := H31.out.iw.few d hd; omega)).mono ?_
      clear H31
      rintro _ w32 ⟨rfl, H32⟩
      go_wp2_with fail
      refine (ints_k _ _ (m.ls t) H32 (by simp) (by simp) (by have := H32.out.iw.wf.len t ht; omega)).mono ?_
      clear H32
      rintro _ w33 ⟨rfl, H33⟩
      go_wp2_with fail
      go_ret
      exact ⟨rfl, H33.out.bel⟩
    · go_wp2_with fail
      refine (wake_undo H11.out.iw t d ht hd hw20 H20).mono ?_
      clear H11 H20
      rintro _ w21 ⟨rfl, H21⟩
      go_wp2_with fail
      refine (wake_no t ht hw20 H21).mono ?_
      clear H21
      rintro _ w22 ⟨rfl, H22⟩
      go_wp2_with fail
      refine (waiters_k d hd H22).mono ?_
      clear H22
      rintro _ w30 ⟨A30, c30, rfl, H30⟩
      go_wp2_with fail
      refine (stack_k t ht H30).mono ?_
      clear H30
      rintro _ w31 ⟨A31, c31, rfl, H31⟩
      go_wp2_with fail
      refine (ints_k _ _ (m.ls (128 + d)) H31 (by simp) (by simp) (by have := H31.out.iw.few d hd; omega)).mono ?_
      clear H31
      rintro _ w32 ⟨rfl, H32⟩
      go_wp2_with fail
      refine (ints_k _ _ (m.ls t) H32 (by simp) (by simp) (by have := H32.out.iw.wf.len t ht; omega)).mono ?_
      clear H32
      rintro _ w33 ⟨rfl, H33⟩
      go_wp2_with fail
      go_ret
      exact ⟨rfl, H33.out.bel⟩
end Go.Proofs.Ytohkobfamofkgaa
