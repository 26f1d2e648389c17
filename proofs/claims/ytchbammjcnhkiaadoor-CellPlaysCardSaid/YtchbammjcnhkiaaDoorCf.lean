/- What New, Told, Close, Reset and Begin make of a cell. -/
import Derived.Test.YtchbammjcnhkiaaDoorCe
namespace Go.Proofs.YtchbammjcnhkiaaDoor.Ce
open Go.RowKit Go.Maps Go.Proofs.YtchbammjcnhkiaaDoor Go.Proofs.YtchbammjcnhkiaaDoorW.PrintWords Go.Proofs.YtchbammjcnhkiaaDoorW.PrintLast Go.Proofs.YtchbammjcnhkiaaDoorW.PrintMore
set_option maxRecDepth 100000 in
theorem told_any (w : World) (b : Nat) (s : Cel) (u v : Value) (h : At w b s u v) (hs : s.state ≠ 0) : Calls Tryd.prog 15 #[.pointer (some ⟨b, 0, none⟩)] w fun e w' => e = .returned (.agg #[.int .i64 s.state, .int .i64 s.gen, .int .i64 s.task, .int .i64 s.fails, .int .i64 s.next]) ∧ Below w.heap.size w w' := by
  have hb : (s.state == 0) = false := by simpa using hs
  have HA := Lib.hid (blk_alloc h (.cells #[.int .i64 0, .int .i64 0, .int .i64 0, .int .i64 0, .int .i64 0] 48))
  obtain ⟨f0, f1, f2, f3, f4, f5, f6, f7, f8, f9, f10, f11, f12, f13, ff⟩ := At.facts (w := w.alloc (.cells #[.int .i64 0, .int .i64 0, .int .i64 0, .int .i64 0, .int .i64 0] 48)) (s := s) (u := u) (v := v) HA.out
  clear h hs
  go_enter Tryd.func15, Tryd.ntmps15
  go_wp2
  refine bodyPost_ret (results_single (r := .cell 2 48) rfl (.cell w.heap.size 48 #[.int .i64 s.state, .int .i64 s.gen, .int .i64 s.task, .int .i64 s.fails, .int .i64 s.next] (0, 0) _ rfl (blk_new w _) Tryd.underlying48 rfl (by kernel_rfl) .nil)) rfl ?_
  exact ⟨rfl, (Below.refl _ _).alloc (Nat.le_refl _) _⟩
theorem close_no (w : World) (b : Nat) (s : Cel) (u v : Value) (h : At w b s u v) (hs : s.state = 2 ∨ s.state = 5) : Calls Tryd.prog 14 #[.pointer (some ⟨b, 0, none⟩)] w fun e w' => e = .returned (.int .i64 7) ∧ w = w' := by
  have f5 := h.facts.2.2.2.2.2.1
  clear h
  rcases hs with hs | hs
  all_goals
    rw [hs] at f5
    clear hs
    go_enter Tryd.func14, Tryd.ntmps14
    go_wp2
    go_ret
    exact ⟨rfl, rfl⟩
theorem close_ok (w : World) (b : Nat) (s : Cel) (u v : Value) (h : At w b s u v) (h2 : s.state ≠ 2) (h5 : s.state ≠ 5) : Calls Tryd.prog 14 #[.pointer (some ⟨b, 0, none⟩)] w fun e w' => e = .returned (.int .i64 0) ∧ At w' b { s with state := 5, next := 0 } u v ∧ Chg (· = b) w w' := by
  have b2 : (s.state == 2) = false := by simpa using h2
  have b5 : (s.state == 5) = false := by simpa using h5
  have HE := Lib.hid (show At ((w.setCell ⟨b, 5, none⟩ (.int .i64 5)).setCell ⟨b, 9, none⟩ (.int .i64 0)) b { s with state := 5, next := 0 } u v ∧ Chg (· = b) w ((w.setCell ⟨b, 5, none⟩ (.int .i64 5)).setCell ⟨b, 9, none⟩ (.int .i64 0)) from
    ⟨(blk_set (blk_set h 5 _) 9 _).trans rfl, ((Chg.refl (· = b) w).setCell (p := ⟨b, 5, none⟩) rfl _).setCell (p := ⟨b, 9, none⟩) rfl _⟩)
  obtain ⟨f0, f1, f2, f3, f4, f5, f6, f7, f8, f9, f10, f11, f12, f13, ff⟩ := h.facts
  clear h h2 h5
  go_enter Tryd.func14, Tryd.ntmps14
  go_wp2
  go_ret
  exact ⟨rfl, HE.out⟩
theorem now_is (w : World) (b : Nat) (s : Cel) (u v : Value) (t : Int) (h : At w b s u v) {r : Bool} (hr : nowB s t = r) : Calls Tryd.prog 23 #[.pointer (some ⟨b, 0, none⟩), .int .i64 t] w fun e w' => e = .returned (.bool r) ∧ w = w' := hr ▸ now_any w b s u v t h
theorem reset_range (w : World) (b : Nat) (s : Cel) (u v : Value) (t : Int) (h : At w b s u v) (hn : nowB s t = false) : Calls Tryd.prog 13 #[.pointer (some ⟨b, 0, none⟩), .int .i64 t] w fun e w' => e = .returned (.int .i64 1) ∧ w = w' := by
  have HN := Lib.hid (now_is w b s u v t h hn)
  clear h hn
  go_enter Tryd.func13, Tryd.ntmps13
  go_wp2_with (go_at_call 23; refine HN.out.mono ?_; rintro _ w1 ⟨rfl, rfl⟩)
  go_ret
  exact ⟨rfl, rfl⟩
theorem reset_no (w : World) (b : Nat) (s : Cel) (u v : Value) (t : Int) (h : At w b s u v) (hn : nowB s t = true) (hs : s.state = 2 ∨ s.state = 5) : Calls Tryd.prog 13 #[.pointer (some ⟨b, 0, none⟩), .int .i64 t] w fun e w' => e = .returned (.int .i64 7) ∧ w = w' := by
  have HN := Lib.hid (now_is w b s u v t h hn)
  have f5 := h.facts.2.2.2.2.2.1
  clear h hn
  rcases hs with hs | hs
  all_goals
    rw [hs] at f5
    clear hs
    go_enter Tryd.func13, Tryd.ntmps13
    go_wp2_with (go_at_call 23; refine HN.out.mono ?_; rintro _ w1 ⟨rfl, rfl⟩)
    go_ret
    exact ⟨rfl, rfl⟩
theorem reset_once (w : World) (b : Nat) (s : Cel) (u v : Value) (t : Int) (h : At w b s u v) (hn : nowB s t = true) (h2 : s.state ≠ 2) (h5 : s.state ≠ 5) (ha : s.again = false) : Calls Tryd.prog 13 #[.pointer (some ⟨b, 0, none⟩), .int .i64 t] w fun e w' => e = .returned (.int .i64 7) ∧ w = w' := by
  have HN := Lib.hid (now_is w b s u v t h hn)
  have b2 : (s.state == 2) = false := by simpa using h2
  have b5 : (s.state == 5) = false := by simpa using h5
  obtain ⟨f0, -, -, -, -, f5, -, -, -, -, -, -, -, -, -⟩ := h.facts
  rw [ha] at f0
  clear h hn h2 h5 ha
  go_enter Tryd.func13, Tryd.ntmps13
  go_wp2_with (go_at_call 23; refine HN.out.mono ?_; rintro _ w1 ⟨rfl, rfl⟩)
  go_ret
  exact ⟨rfl, rfl⟩
def idled (s : Cel) (t : Int) : Cel := { s with state := 1, task := 0, fails := 0, next := 0, last := t, kind := 0 }
def idledW (w : World) (b : Nat) (s : Cel) (t : Int) : World := (((((((((w.setCell ⟨b, 5, none⟩ (.int .i64 1)).setCell ⟨b, 6, none⟩ (.int .i64 s.gen)).setCell ⟨b, 7, none⟩ (.int .i64 0)).setCell ⟨b, 8, none⟩ (.int .i64 0)).setCell ⟨b, 9, none⟩ (.int .i64 0)).setCell ⟨b, 11, none⟩ (.int .i64 0)).setCell ⟨b, 12, none⟩ (.slice none 0 0)).setCell ⟨b, 13, none⟩ (.slice none 0 0)).setCell ⟨b, 10, none⟩ (.int .i64 t))
theorem idledW_at (w : World) (b : Nat) (s : Cel) (u v : Value) (t : Int) (h : At w b s u v) : At (idledW w b s t) b (idled s t) (.slice none 0 0) (.slice none 0 0) ∧ Chg (· = b) w (idledW w b s t) := by
  constructor
  · have h9 := blk_set (blk_set (blk_set (blk_set (blk_set (blk_set (blk_set (blk_set (blk_set h 5 (.int .i64 1)) 6 (.int .i64 s.gen)) 7 (.int .i64 0)) 8 (.int .i64 0)) 9 (.int .i64 0)) 11 (.int .i64 0)) 12 (.slice none 0 0)) 13 (.slice none 0 0)) 10 (.int .i64 t)
    refine Eq.trans h9 ?_
    simp [Cel.cells, idled]
  · exact (((((((((Chg.refl (· = b) w).setCell (p := ⟨b, 5, none⟩) rfl _).setCell (p := ⟨b, 6, none⟩) rfl _).setCell (p := ⟨b, 7, none⟩) rfl _).setCell (p := ⟨b, 8, none⟩) rfl _).setCell (p := ⟨b, 9, none⟩) rfl _).setCell (p := ⟨b, 11, none⟩) rfl _).setCell (p := ⟨b, 12, none⟩) rfl _).setCell (p := ⟨b, 13, none⟩) rfl _).setCell (p := ⟨b, 10, none⟩) rfl _
theorem reset_ok (w : World) (b : Nat) (s : Cel) (u v : Value) (t : Int) (h : At w b s u v) (hn : nowB s t = true) (h2 : s.state ≠ 2) (h5 : s.state ≠ 5) (ha : s.again = true) : Calls Tryd.prog 13 #[.pointer (some ⟨b, 0, none⟩), .int .i64 t] w fun e w' => e = .returned (.int .i64 0) ∧ At w' b (idled s t) (.slice none 0 0) (.slice none 0 0) ∧ Chg (· = b) w w' := by
  have HN := Lib.hid (now_is w b s u v t h hn)
  have HE := Lib.hid (idledW_at w b s u v t h)
  have b2 : (s.state == 2) = false := by simpa using h2
  have b5 : (s.state == 5) = false := by simpa using h5
  obtain ⟨f0, f1, f2, f3, f4, f5, f6, f7, f8, f9, f10, f11, f12, f13, ff⟩ := h.facts
  rw [ha] at f0
  clear h hn h2 h5 ha
  go_enter Tryd.func13, Tryd.ntmps13
  go_wp2_with (go_at_call 23; refine HN.out.mono ?_; rintro _ w1 ⟨rfl, rfl⟩)
  go_ret
  exact ⟨rfl, HE.out⟩
end Go.Proofs.YtchbammjcnhkiaaDoor.Ce
