/- A cell in memory; what Told, Ask, Close and Reset make of it. -/
import Derived.Test.YtchbammjcnhkiaaDoorProg
import Derived.Test.YtchbammjcnhkiaaDoorWMore
import Derived.Deep.QuietTactic
import Derived.BigQuiet
import Derived.Test.YtchbammjcnhkiaaDoorK
namespace Go.Proofs.YtchbammjcnhkiaaDoor.Ce
open Go.RowKit Go.Maps Go.Proofs.YtchbammjcnhkiaaDoor Go.Proofs.YtchbammjcnhkiaaDoorW.PrintWords Go.Proofs.YtchbammjcnhkiaaDoorW.PrintLast Go.Proofs.YtchbammjcnhkiaaDoorW.PrintMore

structure Cel where
  again : Bool
  tries : Int
  base : Int
  factor : Int
  cap : Int
  state : Int
  gen : Int
  task : Int
  fails : Int
  next : Int
  last : Int
  kind : Int
def Cel.cells (s : Cel) (u v : Value) : Array Value := #[.bool s.again, .int .i64 s.tries, .int .i64 s.base, .int .i64 s.factor, .int .i64 s.cap, .int .i64 s.state, .int .i64 s.gen, .int .i64 s.task, .int .i64 s.fails, .int .i64 s.next, .int .i64 s.last, .int .i64 s.kind, u, v]
def At (w : World) (b : Nat) (s : Cel) (u v : Value) : Prop := w.heap[b]? = some (.cells (s.cells u v) 66 (0, 0))
theorem At.facts {w : World} {b : Nat} {s : Cel} {u v : Value} (h : At w b s u v) :
    w.cell? ⟨b, 0, none⟩ = some (.bool s.again) ∧ w.cell? ⟨b, 1, none⟩ = some (.int .i64 s.tries) ∧ w.cell? ⟨b, 2, none⟩ = some (.int .i64 s.base) ∧ w.cell? ⟨b, 3, none⟩ = some (.int .i64 s.factor) ∧ w.cell? ⟨b, 4, none⟩ = some (.int .i64 s.cap) ∧
    w.cell? ⟨b, 5, none⟩ = some (.int .i64 s.state) ∧ w.cell? ⟨b, 6, none⟩ = some (.int .i64 s.gen) ∧ w.cell? ⟨b, 7, none⟩ = some (.int .i64 s.task) ∧ w.cell? ⟨b, 8, none⟩ = some (.int .i64 s.fails) ∧ w.cell? ⟨b, 9, none⟩ = some (.int .i64 s.next) ∧
    w.cell? ⟨b, 10, none⟩ = some (.int .i64 s.last) ∧ w.cell? ⟨b, 11, none⟩ = some (.int .i64 s.kind) ∧ w.cell? ⟨b, 12, none⟩ = some u ∧ w.cell? ⟨b, 13, none⟩ = some v ∧ ∀ k, w.frozen? ⟨b, k, none⟩ = false :=
  ⟨(blk_cell h 0).trans rfl, (blk_cell h 1).trans rfl, (blk_cell h 2).trans rfl, (blk_cell h 3).trans rfl, (blk_cell h 4).trans rfl, (blk_cell h 5).trans rfl, (blk_cell h 6).trans rfl, (blk_cell h 7).trans rfl, (blk_cell h 8).trans rfl, (blk_cell h 9).trans rfl, (blk_cell h 10).trans rfl, (blk_cell h 11).trans rfl, (blk_cell h 12).trans rfl, (blk_cell h 13).trans rfl, fun k => blk_frozen h k⟩
theorem At.drewN {w : World} {b : Nat} {s : Cel} {u v : Value} (h : At w b s u v) (n : Nat) : At (w.drewN n) b s u v := h
def okAt (t : Int) : Prop := 0 ≤ t ∧ t ≤ 1099511627776
instance (t : Int) : Decidable (okAt t) := by unfold okAt; infer_instance
theorem timed_any (w : World) (t : Int) : Calls Tryd.prog 32 #[.int .i64 t] w fun e w' => e = .returned (.bool (decide (okAt t))) ∧ w = w' := by
  by_cases h0 : 0 ≤ t
  · by_cases h1 : t ≤ 1099511627776
    · have HO := Lib.hid (show decide (okAt t) = true by simp [okAt, h0, h1])
      go_enter Tryd.func32, Tryd.ntmps32
      go_wp2
      go_ret
      rw [HO.out]
      exact ⟨by first | rfl | simp [*], rfl⟩
    · have HO := Lib.hid (show decide (okAt t) = false by simp [okAt, h0, h1])
      go_enter Tryd.func32, Tryd.ntmps32
      go_wp2
      go_ret
      rw [HO.out]
      exact ⟨by first | rfl | simp [*], rfl⟩
  · have HO := Lib.hid (show decide (okAt t) = false by simp [okAt, h0])
    go_enter Tryd.func32, Tryd.ntmps32
    go_wp2
    go_ret
    rw [HO.out]
    exact ⟨by first | rfl | simp [*], rfl⟩
theorem timed_is (w : World) (t : Int) {r : Bool} (h : decide (okAt t) = r) : Calls Tryd.prog 32 #[.int .i64 t] w fun e w' => e = .returned (.bool r) ∧ w = w' := h ▸ timed_any w t
def nowB (s : Cel) (t : Int) : Bool := decide (okAt t) && decide (s.last ≤ t)
theorem now_any (w : World) (b : Nat) (s : Cel) (u v : Value) (t : Int) (h : At w b s u v) : Calls Tryd.prog 23 #[.pointer (some ⟨b, 0, none⟩), .int .i64 t] w fun e w' => e = .returned (.bool (nowB s t)) ∧ w = w' := by
  obtain ⟨-, -, -, -, -, -, -, -, -, -, f10, -, -, -, -⟩ := h.facts
  clear h
  cases ht : decide (okAt t) with
  | false =>
    have HO := Lib.hid (show nowB s t = false by simp [nowB, ht])
    have HT := Lib.hid (timed_is w t ht)
    clear ht
    go_enter Tryd.func23, Tryd.ntmps23
    go_wp2_with (go_at_call 32; refine HT.out.mono ?_; rintro _ w1 ⟨rfl, rfl⟩)
    go_ret
    rw [HO.out]
    exact ⟨rfl, rfl⟩
  | true =>
    have HT := Lib.hid (timed_is w t ht)
    by_cases hl : s.last ≤ t
    · have HO := Lib.hid (show nowB s t = true by simp only [nowB, ht]; simp [hl])
      clear ht
      go_enter Tryd.func23, Tryd.ntmps23
      go_wp2_with (go_at_call 32; refine HT.out.mono ?_; rintro _ w1 ⟨rfl, rfl⟩)
      go_ret
      rw [HO.out]
      exact ⟨by first | rfl | simp [*], rfl⟩
    · have HO := Lib.hid (show nowB s t = false by simp only [nowB, ht]; simp; omega)
      clear ht
      go_enter Tryd.func23, Tryd.ntmps23
      go_wp2_with (go_at_call 32; refine HT.out.mono ?_; rintro _ w1 ⟨rfl, rfl⟩)
      go_ret
      rw [HO.out]
      exact ⟨by first | rfl | simp [*], rfl⟩
def mayB (s : Cel) : Bool := s.state == 4 && (s.kind == 2 && decide (s.fails < s.tries))
theorem may_any (w : World) (b : Nat) (s : Cel) (u v : Value) (h : At w b s u v) : Calls Tryd.prog 26 #[.pointer (some ⟨b, 0, none⟩)] w fun e w' => e = .returned (.bool (mayB s)) ∧ ∃ n, w' = w.drewN n := by
  obtain ⟨-, f1, -, -, -, f5, -, -, f8, -, -, f11, -, -, -⟩ := h.facts
  clear h
  by_cases h1 : s.state = 4
  · by_cases h2 : s.kind = 2
    · have HO := Lib.hid (show mayB s = decide (s.fails < s.tries) by simp [mayB, h1, h2])
      rw [h1] at f5
      rw [h2] at f11
      clear h1 h2
      go_enter Tryd.func26, Tryd.ntmps26
      go_wp2
      go_quiet (fail)
      go_wp2
      go_ret
      rw [HO.out]
      exact ⟨rfl, _, rfl⟩
    · have HO := Lib.hid (show mayB s = false by simp [mayB, h1, h2])
      have hb2 : (s.kind == 2) = false := by simpa using h2
      rw [h1] at f5
      clear h1 h2
      go_enter Tryd.func26, Tryd.ntmps26
      go_wp2
      go_quiet (fail)
      go_wp2
      go_ret
      rw [HO.out]
      exact ⟨rfl, _, rfl⟩
  · have HO := Lib.hid (show mayB s = false by simp [mayB, h1])
    have hb1 : (s.state == 4) = false := by simpa using h1
    clear h1
    go_enter Tryd.func26, Tryd.ntmps26
    go_wp2
    go_quiet (fail)
    go_wp2
    go_ret
    rw [HO.out]
    exact ⟨rfl, _, rfl⟩

/-- What a force meets. -/
def meet (s : Cel) (t : Int) : Int := if s.state = 1 then 1 else if s.state = 2 then 2 else if s.state = 3 then 3 else if s.state = 4 then (if mayB s = true ∧ s.next ≤ t then 1 else 3) else 4
theorem idle_any (w : World) (p : Value) (t : Int) : Calls Tryd.prog 46 #[p, .int .i64 t] w fun e w' => e = .returned (.int .i64 1) ∧ w = w' := by
  go_enter Tryd.func46, Tryd.ntmps46
  go_wp2
  go_ret
  exact ⟨rfl, rfl⟩
theorem running_any (w : World) (p : Value) (t : Int) : Calls Tryd.prog 47 #[p, .int .i64 t] w fun e w' => e = .returned (.int .i64 2) ∧ w = w' := by
  go_enter Tryd.func47, Tryd.ntmps47
  go_wp2
  go_ret
  exact ⟨rfl, rfl⟩
theorem ready_any (w : World) (p : Value) (t : Int) : Calls Tryd.prog 48 #[p, .int .i64 t] w fun e w' => e = .returned (.int .i64 3) ∧ w = w' := by
  go_enter Tryd.func48, Tryd.ntmps48
  go_wp2
  go_ret
  exact ⟨rfl, rfl⟩
theorem closed_any (w : World) (p : Value) (t : Int) : Calls Tryd.prog 50 #[p, .int .i64 t] w fun e w' => e = .returned (.int .i64 4) ∧ w = w' := by
  go_enter Tryd.func50, Tryd.ntmps50
  go_wp2
  go_ret
  exact ⟨rfl, rfl⟩
theorem may_is (w : World) (b : Nat) (s : Cel) (u v : Value) (h : At w b s u v) {r : Bool} (hr : mayB s = r) : Calls Tryd.prog 26 #[.pointer (some ⟨b, 0, none⟩)] w fun e w' => e = .returned (.bool r) ∧ ∃ n, w' = w.drewN n := hr ▸ may_any w b s u v h
theorem failed_no (w : World) (b : Nat) (s : Cel) (u v : Value) (t : Int) (h : At w b s u v) (hm : mayB s = false) : Calls Tryd.prog 49 #[.pointer (some ⟨b, 0, none⟩), .int .i64 t] w fun e w' => e = .returned (.int .i64 3) ∧ ∃ n, w' = w.drewN n := by
  have HM := Lib.hid (may_is w b s u v h hm)
  clear hm h
  go_enter Tryd.func49, Tryd.ntmps49
  go_wp2_with (go_at_call 26; refine HM.out.mono ?_; rintro _ w1 ⟨rfl, n, rfl⟩)
  go_ret
  exact ⟨rfl, _, rfl⟩
theorem failed_yes (w : World) (b : Nat) (s : Cel) (u v : Value) (t : Int) (h : At w b s u v) (hm : mayB s = true) (hn : s.next ≤ t) : Calls Tryd.prog 49 #[.pointer (some ⟨b, 0, none⟩), .int .i64 t] w fun e w' => e = .returned (.int .i64 1) ∧ ∃ n, w' = w.drewN n := by
  have HM := Lib.hid (may_is w b s u v h hm)
  have f9 := h.facts.2.2.2.2.2.2.2.2.2.1
  clear hm h
  go_enter Tryd.func49, Tryd.ntmps49
  go_wp2_with (go_at_call 26; refine HM.out.mono ?_; rintro _ w1 ⟨rfl, n, rfl⟩)
  go_ret
  exact ⟨rfl, _, rfl⟩
theorem failed_late (w : World) (b : Nat) (s : Cel) (u v : Value) (t : Int) (h : At w b s u v) (hm : mayB s = true) (hn : ¬ s.next ≤ t) : Calls Tryd.prog 49 #[.pointer (some ⟨b, 0, none⟩), .int .i64 t] w fun e w' => e = .returned (.int .i64 3) ∧ ∃ n, w' = w.drewN n := by
  have HM := Lib.hid (may_is w b s u v h hm)
  have f9 := h.facts.2.2.2.2.2.2.2.2.2.1
  clear hm h
  go_enter Tryd.func49, Tryd.ntmps49
  go_wp2_with (go_at_call 26; refine HM.out.mono ?_; rintro _ w1 ⟨rfl, n, rfl⟩)
  go_ret
  exact ⟨rfl, _, rfl⟩
theorem meets_1 (w : World) (b : Nat) (s : Cel) (u v : Value) (h : At w b s u v) (h1 : s.state = 1) : Calls Tryd.prog 33 #[.pointer (some ⟨b, 0, none⟩)] w fun e w' => e = .returned (.func (.func 46) #[.pointer (some ⟨b, 0, none⟩)] #[]) ∧ w = w' := by
  have f5 := h.facts.2.2.2.2.2.1
  rw [h1] at f5
  clear h h1
  go_enter Tryd.func33, Tryd.ntmps33
  go_wp2
  go_ret
  exact ⟨rfl, rfl⟩
theorem meets_2 (w : World) (b : Nat) (s : Cel) (u v : Value) (h : At w b s u v) (h1 : s.state = 2) : Calls Tryd.prog 33 #[.pointer (some ⟨b, 0, none⟩)] w fun e w' => e = .returned (.func (.func 47) #[.pointer (some ⟨b, 0, none⟩)] #[]) ∧ w = w' := by
  have f5 := h.facts.2.2.2.2.2.1
  rw [h1] at f5
  clear h h1
  go_enter Tryd.func33, Tryd.ntmps33
  go_wp2
  go_ret
  exact ⟨rfl, rfl⟩
theorem meets_3 (w : World) (b : Nat) (s : Cel) (u v : Value) (h : At w b s u v) (h1 : s.state = 3) : Calls Tryd.prog 33 #[.pointer (some ⟨b, 0, none⟩)] w fun e w' => e = .returned (.func (.func 48) #[.pointer (some ⟨b, 0, none⟩)] #[]) ∧ w = w' := by
  have f5 := h.facts.2.2.2.2.2.1
  rw [h1] at f5
  clear h h1
  go_enter Tryd.func33, Tryd.ntmps33
  go_wp2
  go_ret
  exact ⟨rfl, rfl⟩
theorem meets_4 (w : World) (b : Nat) (s : Cel) (u v : Value) (h : At w b s u v) (h1 : s.state = 4) : Calls Tryd.prog 33 #[.pointer (some ⟨b, 0, none⟩)] w fun e w' => e = .returned (.func (.func 49) #[.pointer (some ⟨b, 0, none⟩)] #[]) ∧ w = w' := by
  have f5 := h.facts.2.2.2.2.2.1
  rw [h1] at f5
  clear h h1
  go_enter Tryd.func33, Tryd.ntmps33
  go_wp2
  go_ret
  exact ⟨rfl, rfl⟩
theorem meets_5 (w : World) (b : Nat) (s : Cel) (u v : Value) (h : At w b s u v) (h1 : s.state ≠ 1) (h2 : s.state ≠ 2) (h3 : s.state ≠ 3) (h4 : s.state ≠ 4) : Calls Tryd.prog 33 #[.pointer (some ⟨b, 0, none⟩)] w fun e w' => e = .returned (.func (.func 50) #[.pointer (some ⟨b, 0, none⟩)] #[]) ∧ w = w' := by
  have f5 := h.facts.2.2.2.2.2.1
  have b1 : (s.state == 1) = false := by simpa using h1
  have b2 : (s.state == 2) = false := by simpa using h2
  have b3 : (s.state == 3) = false := by simpa using h3
  have b4 : (s.state == 4) = false := by simpa using h4
  clear h h1 h2 h3 h4
  go_enter Tryd.func33, Tryd.ntmps33
  go_wp2
  go_ret
  exact ⟨rfl, rfl⟩
theorem ask_1 (w : World) (b : Nat) (s : Cel) (u v : Value) (t : Int) (h : At w b s u v) (h1 : s.state = 1) (ht : decide (okAt t) = true) : Calls Tryd.prog 18 #[.pointer (some ⟨b, 0, none⟩), .int .i64 t] w fun e w' => e = .returned (.int .i64 1) ∧ ∃ n, w' = w.drewN n := by
  have HT := Lib.hid (timed_is w t ht)
  have HM := Lib.hid (meets_1 w b s u v h h1)
  have HF := Lib.hid (idle_any w (.pointer (some ⟨b, 0, none⟩)) t)
  clear h ht
  go_enter Tryd.func18, Tryd.ntmps18
  go_wp2_with (first | (go_at_call 32; refine HT.out.mono ?_; rintro _ w1 ⟨rfl, rfl⟩) | (go_at_call 33; refine HM.out.mono ?_; rintro _ w1 ⟨rfl, rfl⟩) | (go_at_call 46; refine HF.out.mono ?_; rintro _ w1 ⟨rfl, rfl⟩))
  go_ret
  exact ⟨rfl, 0, rfl⟩
theorem ask_2 (w : World) (b : Nat) (s : Cel) (u v : Value) (t : Int) (h : At w b s u v) (h1 : s.state = 2) (ht : decide (okAt t) = true) : Calls Tryd.prog 18 #[.pointer (some ⟨b, 0, none⟩), .int .i64 t] w fun e w' => e = .returned (.int .i64 2) ∧ ∃ n, w' = w.drewN n := by
  have HT := Lib.hid (timed_is w t ht)
  have HM := Lib.hid (meets_2 w b s u v h h1)
  have HF := Lib.hid (running_any w (.pointer (some ⟨b, 0, none⟩)) t)
  clear h ht
  go_enter Tryd.func18, Tryd.ntmps18
  go_wp2_with (first | (go_at_call 32; refine HT.out.mono ?_; rintro _ w1 ⟨rfl, rfl⟩) | (go_at_call 33; refine HM.out.mono ?_; rintro _ w1 ⟨rfl, rfl⟩) | (go_at_call 47; refine HF.out.mono ?_; rintro _ w1 ⟨rfl, rfl⟩))
  go_ret
  exact ⟨rfl, 0, rfl⟩
theorem ask_3 (w : World) (b : Nat) (s : Cel) (u v : Value) (t : Int) (h : At w b s u v) (h1 : s.state = 3) (ht : decide (okAt t) = true) : Calls Tryd.prog 18 #[.pointer (some ⟨b, 0, none⟩), .int .i64 t] w fun e w' => e = .returned (.int .i64 3) ∧ ∃ n, w' = w.drewN n := by
  have HT := Lib.hid (timed_is w t ht)
  have HM := Lib.hid (meets_3 w b s u v h h1)
  have HF := Lib.hid (ready_any w (.pointer (some ⟨b, 0, none⟩)) t)
  clear h ht
  go_enter Tryd.func18, Tryd.ntmps18
  go_wp2_with (first | (go_at_call 32; refine HT.out.mono ?_; rintro _ w1 ⟨rfl, rfl⟩) | (go_at_call 33; refine HM.out.mono ?_; rintro _ w1 ⟨rfl, rfl⟩) | (go_at_call 48; refine HF.out.mono ?_; rintro _ w1 ⟨rfl, rfl⟩))
  go_ret
  exact ⟨rfl, 0, rfl⟩
theorem ask_4n (w : World) (b : Nat) (s : Cel) (u v : Value) (t : Int) (h : At w b s u v) (h1 : s.state = 4) (hm : mayB s = false) (ht : decide (okAt t) = true) : Calls Tryd.prog 18 #[.pointer (some ⟨b, 0, none⟩), .int .i64 t] w fun e w' => e = .returned (.int .i64 3) ∧ ∃ n, w' = w.drewN n := by
  have HT := Lib.hid (timed_is w t ht)
  have HM := Lib.hid (meets_4 w b s u v h h1)
  have HF := Lib.hid (failed_no w b s u v t h hm)
  clear h ht
  go_enter Tryd.func18, Tryd.ntmps18
  go_wp2_with (first | (go_at_call 32; refine HT.out.mono ?_; rintro _ w1 ⟨rfl, rfl⟩) | (go_at_call 33; refine HM.out.mono ?_; rintro _ w1 ⟨rfl, rfl⟩) | (go_at_call 49; refine HF.out.mono ?_; rintro _ w1 ⟨rfl, n, rfl⟩))
  go_ret
  exact ⟨rfl, _, rfl⟩
theorem ask_4y (w : World) (b : Nat) (s : Cel) (u v : Value) (t : Int) (h : At w b s u v) (h1 : s.state = 4) (hm : mayB s = true) (hn : s.next ≤ t) (ht : decide (okAt t) = true) : Calls Tryd.prog 18 #[.pointer (some ⟨b, 0, none⟩), .int .i64 t] w fun e w' => e = .returned (.int .i64 1) ∧ ∃ n, w' = w.drewN n := by
  have HT := Lib.hid (timed_is w t ht)
  have HM := Lib.hid (meets_4 w b s u v h h1)
  have HF := Lib.hid (failed_yes w b s u v t h hm hn)
  clear h ht
  go_enter Tryd.func18, Tryd.ntmps18
  go_wp2_with (first | (go_at_call 32; refine HT.out.mono ?_; rintro _ w1 ⟨rfl, rfl⟩) | (go_at_call 33; refine HM.out.mono ?_; rintro _ w1 ⟨rfl, rfl⟩) | (go_at_call 49; refine HF.out.mono ?_; rintro _ w1 ⟨rfl, n, rfl⟩))
  go_ret
  exact ⟨rfl, _, rfl⟩
theorem ask_4l (w : World) (b : Nat) (s : Cel) (u v : Value) (t : Int) (h : At w b s u v) (h1 : s.state = 4) (hm : mayB s = true) (hn : ¬ s.next ≤ t) (ht : decide (okAt t) = true) : Calls Tryd.prog 18 #[.pointer (some ⟨b, 0, none⟩), .int .i64 t] w fun e w' => e = .returned (.int .i64 3) ∧ ∃ n, w' = w.drewN n := by
  have HT := Lib.hid (timed_is w t ht)
  have HM := Lib.hid (meets_4 w b s u v h h1)
  have HF := Lib.hid (failed_late w b s u v t h hm hn)
  clear h ht
  go_enter Tryd.func18, Tryd.ntmps18
  go_wp2_with (first | (go_at_call 32; refine HT.out.mono ?_; rintro _ w1 ⟨rfl, rfl⟩) | (go_at_call 33; refine HM.out.mono ?_; rintro _ w1 ⟨rfl, rfl⟩) | (go_at_call 49; refine HF.out.mono ?_; rintro _ w1 ⟨rfl, n, rfl⟩))
  go_ret
  exact ⟨rfl, _, rfl⟩
theorem ask_5 (w : World) (b : Nat) (s : Cel) (u v : Value) (t : Int) (h : At w b s u v) (h1 : s.state ≠ 1) (h2 : s.state ≠ 2) (h3 : s.state ≠ 3) (h4 : s.state ≠ 4) (ht : decide (okAt t) = true) : Calls Tryd.prog 18 #[.pointer (some ⟨b, 0, none⟩), .int .i64 t] w fun e w' => e = .returned (.int .i64 4) ∧ ∃ n, w' = w.drewN n := by
  have HT := Lib.hid (timed_is w t ht)
  have HM := Lib.hid (meets_5 w b s u v h h1 h2 h3 h4)
  have HF := Lib.hid (closed_any w (.pointer (some ⟨b, 0, none⟩)) t)
  clear h ht
  go_enter Tryd.func18, Tryd.ntmps18
  go_wp2_with (first | (go_at_call 32; refine HT.out.mono ?_; rintro _ w1 ⟨rfl, rfl⟩) | (go_at_call 33; refine HM.out.mono ?_; rintro _ w1 ⟨rfl, rfl⟩) | (go_at_call 50; refine HF.out.mono ?_; rintro _ w1 ⟨rfl, rfl⟩))
  go_ret
  exact ⟨rfl, 0, rfl⟩
theorem ask_0 (w : World) (b : Nat) (_s : Cel) (_u _v : Value) (t : Int) (ht : decide (okAt t) = false) : Calls Tryd.prog 18 #[.pointer (some ⟨b, 0, none⟩), .int .i64 t] w fun e w' => e = .returned (.int .i64 0) ∧ ∃ n, w' = w.drewN n := by
  have HT := Lib.hid (timed_is w t ht)
  clear ht
  go_enter Tryd.func18, Tryd.ntmps18
  go_wp2_with (go_at_call 32; refine HT.out.mono ?_; rintro _ w1 ⟨rfl, rfl⟩)
  go_ret
  exact ⟨rfl, 0, rfl⟩
/-- What Ask answers. -/
def askB (s : Cel) (t : Int) : Int := if okAt t then meet s t else 0
theorem ask_any (w : World) (b : Nat) (s : Cel) (u v : Value) (t : Int) (h : At w b s u v) : Calls Tryd.prog 18 #[.pointer (some ⟨b, 0, none⟩), .int .i64 t] w fun e w' => e = .returned (.int .i64 (askB s t)) ∧ ∃ n, w' = w.drewN n := by
  unfold askB
  by_cases ht : okAt t
  · have ht2 := decide_eq_true ht
    rw [if_pos ht]
    unfold meet
    by_cases h1 : s.state = 1
    · rw [if_pos h1]; exact ask_1 w b s u v t h h1 ht2
    · rw [if_neg h1]
      by_cases h2 : s.state = 2
      · rw [if_pos h2]; exact ask_2 w b s u v t h h2 ht2
      · rw [if_neg h2]
        by_cases h3 : s.state = 3
        · rw [if_pos h3]; exact ask_3 w b s u v t h h3 ht2
        · rw [if_neg h3]
          by_cases h4 : s.state = 4
          · rw [if_pos h4]
            cases hm : mayB s with
            | false => rw [if_neg (by simp)]; exact ask_4n w b s u v t h h4 hm ht2
            | true =>
              by_cases hn : s.next ≤ t
              · rw [if_pos ⟨rfl, hn⟩]; exact ask_4y w b s u v t h h4 hm hn ht2
              · rw [if_neg (fun k => hn k.2)]; exact ask_4l w b s u v t h h4 hm hn ht2
          · rw [if_neg h4]; exact ask_5 w b s u v t h h1 h2 h3 h4 ht2
  · rw [if_neg ht]; exact ask_0 w b s u v t (decide_eq_false ht)
end Go.Proofs.YtchbammjcnhkiaaDoor.Ce
