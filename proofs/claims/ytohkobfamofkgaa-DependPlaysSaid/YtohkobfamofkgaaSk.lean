/- Stack, Waiters, Wake: for every web. -/
import Derived.Test.YtohkobfamofkgaaDf
import Derived.Test.YtohkobfamofkgaaIu
import Derived.Test.YtohkobfamofkgaaIn
namespace Go.Proofs.Ytohkobfamofkgaa.Wb
open Go.RowKit Go.Maps Go.Proofs.Ytohkobfamofkgaa Go.Proofs.YtohkobfamofkgaaW.PrintWords Go.Proofs.YtohkobfamofkgaaW.PrintLast Go.Proofs.YtohkobfamofkgaaW.PrintMore

theorem stack_range (w : World) (b : Nat) (t : Int) (h : ¬ (0 ≤ t ∧ t < 128)) :
    Calls Try.prog 15 #[.pointer (some ⟨b, 0, none⟩), .int .i64 t] w fun e w' => e = .returned (.tuple #[.slice none 0 0, .int .i64 1]) ∧ w = w' := by
  have HC := Lib.hid h
  clear h
  go_enter Try.func15, Try.ntmps15
  go_wp2_with (first | (go_at_call 29; refine (task_out _ _ HC.out).mono ?_; rintro _ _ ⟨rfl, rfl⟩))
  go_ret2
  exact ⟨rfl, rfl⟩
set_option maxRecDepth 100000 in
theorem stack_ok (B : Nat) (w : World) (b : Nat) (V : Nat → Value) (m : Web) (t : Nat) (ht : t < 128) (h : At B w b V m) (hl : (m.ls t).length ≤ 1000000) :
    Calls Try.prog 15 #[.pointer (some ⟨b, 0, none⟩), .int .i64 t] w fun e w' => ∃ v, e = .returned (.tuple #[v, .int .i64 0]) ∧ Row w.heap.size w' v (m.ls t) ∧ Below w.heap.size w w' := by
  have c1 := h.blk.stack ht
  have HR := Lib.hid (h.row t (by omega))
  have HL := Lib.hid hl
  have ht' : (t : Int) < 128 := by omega
  clear h hl
  generalize V t = v0 at *
  go_enter Try.func15, Try.ntmps15
  go_wp2_with (first | (go_at_call 29; refine (task_in _ _ (by omega) (by omega)).mono ?_; rintro _ _ ⟨rfl, rfl⟩) | (go_at_call 30; refine (clone_any B w v0 (m.ls t) HR.out HL.out).mono ?_; rintro _ w1 ⟨v, rfl, hr, hb⟩; have HR1 := Lib.hid hr; have HB1 := Lib.hid hb; clear hr hb))
  go_ret2
  exact ⟨v, rfl, HR1.out, HB1.out⟩
theorem waiters_range (w : World) (b : Nat) (t : Int) (h : ¬ (0 ≤ t ∧ t < 256)) :
    Calls Try.prog 16 #[.pointer (some ⟨b, 0, none⟩), .int .i64 t] w fun e w' => e = .returned (.tuple #[.slice none 0 0, .int .i64 1]) ∧ w = w' := by
  have HC := Lib.hid h
  clear h
  go_enter Try.func16, Try.ntmps16
  go_wp2_with (first | (go_at_call 31; refine (cell_out _ _ HC.out).mono ?_; rintro _ _ ⟨rfl, rfl⟩))
  go_ret2
  exact ⟨rfl, rfl⟩
set_option maxRecDepth 100000 in
theorem waiters_ok (B : Nat) (w : World) (b : Nat) (V : Nat → Value) (m : Web) (t : Nat) (ht : t < 256) (h : At B w b V m) (hl : (m.ls (128 + t)).length ≤ 1000000) :
    Calls Try.prog 16 #[.pointer (some ⟨b, 0, none⟩), .int .i64 t] w fun e w' => ∃ v, e = .returned (.tuple #[v, .int .i64 0]) ∧ Row w.heap.size w' v (m.ls (128 + t)) ∧ Below w.heap.size w w' := by
  have c1 := h.blk.queue ht
  have HR := Lib.hid (h.row (128 + t) (by omega))
  have HL := Lib.hid hl
  have ht' : (t : Int) < 256 := by omega
  clear h hl
  generalize V (128 + t) = v0 at *
  go_enter Try.func16, Try.ntmps16
  go_wp2_with (first | (go_at_call 31; refine (cell_in _ _ (by omega) (by omega)).mono ?_; rintro _ _ ⟨rfl, rfl⟩) | (go_at_call 30; refine (clone_any B w v0 (m.ls (128 + t)) HR.out HL.out).mono ?_; rintro _ w1 ⟨v, rfl, hr, hb⟩; have HR1 := Lib.hid hr; have HB1 := Lib.hid hb; clear hr hb))
  go_ret2
  exact ⟨v, rfl, HR1.out, HB1.out⟩

theorem wake_range (w : World) (b : Nat) (t : Int) (h : ¬ (0 ≤ t ∧ t < 128)) :
    Calls Try.prog 21 #[.pointer (some ⟨b, 0, none⟩), .int .i64 t] w fun e w' => e = .returned (.int .i64 1) ∧ Below w.heap.size w w' := by
  have HC := Lib.hid h
  have HB := Lib.hid ((Below.refl w.heap.size w).alloc (Nat.le_refl _) (.cells #[.int .i64 t] 3))
  clear h
  go_enter Try.func21, Try.ntmps21
  go_wp2_with (first | (go_at_call 29; refine (task_out _ _ HC.out).mono ?_; rintro _ _ ⟨rfl, rfl⟩))
  go_ret
  exact ⟨rfl, HB.out⟩
theorem wake_none (B : Nat) (w : World) (b : Nat) (V : Nat → Value) (m : Web) (t : Nat) (ht : t < 128) (h : At B w b V m) (hw : m.wai t = 0) :
    Calls Try.prog 21 #[.pointer (some ⟨b, 0, none⟩), .int .i64 t] w fun e w' => e = .returned (.int .i64 4) ∧ Below w.heap.size w w' := by
  have k := (Below.refl w.heap.size w).alloc (Nat.le_refl _) (.cells #[.int .i64 t] 3)
  have c0 := (h.below k).blk.waits ht
  rw [hw] at c0
  have HB := Lib.hid k
  have ht' : (t : Int) < 128 := by omega
  clear h k hw
  go_enter Try.func21, Try.ntmps21
  go_wp2_with (first | (go_at_call 29; refine (task_in _ _ (by omega) (by omega)).mono ?_; rintro _ _ ⟨rfl, rfl⟩))
  go_quiet (fail)
  go_wp2_with fail
  go_ret
  exact ⟨rfl, below_drewN HB.out _⟩
end Go.Proofs.Ytohkobfamofkgaa.Wb
