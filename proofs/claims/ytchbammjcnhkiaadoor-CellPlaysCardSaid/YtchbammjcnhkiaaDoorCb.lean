/- What Begin and New make of a cell. -/
import Derived.Test.YtchbammjcnhkiaaDoorCf
namespace Go.Proofs.YtchbammjcnhkiaaDoor.Ce
open Go.RowKit Go.Maps Go.Proofs.YtchbammjcnhkiaaDoor Go.Proofs.YtchbammjcnhkiaaDoorW.PrintWords Go.Proofs.YtchbammjcnhkiaaDoorW.PrintLast Go.Proofs.YtchbammjcnhkiaaDoorW.PrintMore
abbrev BeginC (w : World) (b : Nat) (task t : Int) (r e : Int) (Q : World → Prop) : Prop := Calls Tryd.prog 10 #[.pointer (some ⟨b, 0, none⟩), .int .i64 task, .int .i64 t] w fun x w' => x = .returned (.tuple #[.int .i64 r, .int .i64 e]) ∧ Q w'
theorem begin_low (w : World) (b : Nat) (task t : Int) (h : ¬ (0 ≤ task ∧ task < 128)) : BeginC w b task t 0 1 (fun w' => w = w') := by
  by_cases h0 : task < 0
  · clear h
    unfold BeginC
    go_enter Tryd.func10, Tryd.ntmps10
    go_wp2
    go_ret2
    exact ⟨rfl, rfl⟩
  · have h1 : 128 ≤ task := by omega
    clear h
    unfold BeginC
    go_enter Tryd.func10, Tryd.ntmps10
    go_wp2
    go_ret2
    exact ⟨rfl, rfl⟩
theorem begin_range (w : World) (b : Nat) (s : Cel) (u v : Value) (task t : Int) (h : At w b s u v) (h0 : 0 ≤ task) (h1 : task < 128) (hn : nowB s t = false) : BeginC w b task t 0 1 (fun w' => w = w') := by
  have HN := Lib.hid (now_is w b s u v t h hn)
  have h0' : ¬ task < 0 := by omega
  have h1' : ¬ 128 ≤ task := by omega
  clear h hn
  unfold BeginC
  go_enter Tryd.func10, Tryd.ntmps10
  go_wp2_with (go_at_call 23; refine HN.out.mono ?_; rintro _ w1 ⟨rfl, rfl⟩)
  go_ret2
  exact ⟨rfl, rfl⟩
theorem ask_is (w : World) (b : Nat) (s : Cel) (u v : Value) (t : Int) (h : At w b s u v) {r : Int} (hr : askB s t = r) : Calls Tryd.prog 18 #[.pointer (some ⟨b, 0, none⟩), .int .i64 t] w fun e w' => e = .returned (.int .i64 r) ∧ ∃ n, w' = w.drewN n := hr ▸ ask_any w b s u v t h
theorem begin_state (w : World) (b : Nat) (s : Cel) (u v : Value) (task t : Int) (h : At w b s u v) (h0 : 0 ≤ task) (h1 : task < 128) (hn : nowB s t = true) (ha : askB s t ≠ 1) : BeginC w b task t 0 7 (fun w' => ∃ n, w' = w.drewN n) := by
  have HN := Lib.hid (now_is w b s u v t h hn)
  have HA := Lib.hid (ask_any w b s u v t h)
  have h0' : ¬ task < 0 := by omega
  have h1' : ¬ 128 ≤ task := by omega
  generalize askB s t = r at *
  have hb : (r != 1) = true := by simpa using ha
  clear h hn ha
  unfold BeginC
  go_enter Tryd.func10, Tryd.ntmps10
  go_wp2_with (first | (go_at_call 23; refine HN.out.mono ?_; rintro _ w1 ⟨rfl, rfl⟩) | (go_at_call 18; refine HA.out.mono ?_; rintro _ w1 ⟨rfl, n, rfl⟩))
  go_ret2
  exact ⟨rfl, _, rfl⟩
theorem begin_spent (w : World) (b : Nat) (s : Cel) (u v : Value) (task t : Int) (h : At w b s u v) (h0 : 0 ≤ task) (h1 : task < 128) (hn : nowB s t = true) (ha : askB s t = 1) (hg : 1048576 ≤ s.gen) : BeginC w b task t 0 111 (fun w' => ∃ n, w' = w.drewN n) := by
  have HN := Lib.hid (now_is w b s u v t h hn)
  have HA := Lib.hid (ask_is w b s u v t h ha)
  have h0' : ¬ task < 0 := by omega
  have h1' : ¬ 128 ≤ task := by omega
  have HF := Lib.hid (fun n => (h.drewN n).facts.2.2.2.2.2.2.1)
  clear h hn ha
  unfold BeginC
  go_enter Tryd.func10, Tryd.ntmps10
  go_wp2_with (first | (go_at_call 23; refine HN.out.mono ?_; rintro _ w1 ⟨rfl, rfl⟩) | (go_at_call 18; refine HA.out.mono ?_; rintro _ w1 ⟨rfl, n, rfl⟩; have f6 := HF.out n))
  go_ret2
  exact ⟨rfl, _, rfl⟩
def begunC (s : Cel) (task t : Int) : Cel := { s with state := 2, gen := s.gen + 1, task := task, next := 0, last := t, kind := 0 }
def begunW (w : World) (b : Nat) (s : Cel) (task t : Int) : World := (((((((((w.setCell ⟨b, 5, none⟩ (.int .i64 2)).setCell ⟨b, 6, none⟩ (.int .i64 (s.gen + 1))).setCell ⟨b, 7, none⟩ (.int .i64 task)).setCell ⟨b, 8, none⟩ (.int .i64 s.fails)).setCell ⟨b, 9, none⟩ (.int .i64 0)).setCell ⟨b, 11, none⟩ (.int .i64 0)).setCell ⟨b, 12, none⟩ (.slice none 0 0)).setCell ⟨b, 13, none⟩ (.slice none 0 0)).setCell ⟨b, 10, none⟩ (.int .i64 t))
theorem begunW_at (w : World) (b : Nat) (s : Cel) (u v : Value) (task t : Int) (h : At w b s u v) : At (begunW w b s task t) b (begunC s task t) (.slice none 0 0) (.slice none 0 0) ∧ Chg (· = b) w (begunW w b s task t) := by
  constructor
  · have h9 := blk_set (blk_set (blk_set (blk_set (blk_set (blk_set (blk_set (blk_set (blk_set h 5 (.int .i64 2)) 6 (.int .i64 (s.gen + 1))) 7 (.int .i64 task)) 8 (.int .i64 s.fails)) 9 (.int .i64 0)) 11 (.int .i64 0)) 12 (.slice none 0 0)) 13 (.slice none 0 0)) 10 (.int .i64 t)
    refine Eq.trans h9 ?_
    simp [Cel.cells, begunC]
  · exact (((((((((Chg.refl (· = b) w).setCell (p := ⟨b, 5, none⟩) rfl _).setCell (p := ⟨b, 6, none⟩) rfl _).setCell (p := ⟨b, 7, none⟩) rfl _).setCell (p := ⟨b, 8, none⟩) rfl _).setCell (p := ⟨b, 9, none⟩) rfl _).setCell (p := ⟨b, 11, none⟩) rfl _).setCell (p := ⟨b, 12, none⟩) rfl _).setCell (p := ⟨b, 13, none⟩) rfl _).setCell (p := ⟨b, 10, none⟩) rfl _
set_option maxHeartbeats 1000000 in
set_option maxRecDepth 100000 in
theorem begin_ok (w : World) (b : Nat) (s : Cel) (u v : Value) (task t : Int) (h : At w b s u v) (h0 : 0 ≤ task) (h1 : task < 128) (hn : nowB s t = true) (ha : askB s t = 1) (hg : s.gen < 1048576) (hg0 : 0 ≤ s.gen) : BeginC w b task t (s.gen + 1) 0 (fun w' => At w' b (begunC s task t) (.slice none 0 0) (.slice none 0 0) ∧ Chg (· = b) w w') := by
  have HN := Lib.hid (now_is w b s u v t h hn)
  have HA := Lib.hid (ask_is w b s u v t h ha)
  have h0' : ¬ task < 0 := by omega
  have h1' : ¬ 128 ≤ task := by omega
  have hg' : ¬ 1048576 ≤ s.gen := by omega
  have hw : IntKind.i64.wrap (s.gen + 1) = s.gen + 1 := IntWalk.i64_in _ (by omega)
  have HF := Lib.hid (fun n => (h.drewN n))
  clear h hn ha
  unfold BeginC
  go_enter Tryd.func10, Tryd.ntmps10
  go_wp2_with (first | (go_at_call 23; refine HN.out.mono ?_; rintro _ w1 ⟨rfl, rfl⟩) | (go_at_call 18; refine HA.out.mono ?_; rintro _ w1 ⟨rfl, n, rfl⟩; have f6 := (HF.out n).facts.2.2.2.2.2.2.1))
  refine region_tail 16 (by kernel_rfl) (by kernel_rfl) (fun w1 => At w1 b s u v ∧ Chg (· = b) w w1) ⟨(HF.out n).drewN 1, ((Chg.refl (· = b) w).drewN n).drew⟩ ?_
  rintro w6 ⟨k1, k2⟩
  clear f6
  have HE := Lib.hid (And.intro (begunW_at w6 b s u v task t k1) k2)
  obtain ⟨f0, f1, f2, f3, f4, f5, f6, f7, f8, f9, f10, f11, f12, f13, ff⟩ := k1.facts
  clear k1 k2
  simp only [List.take_succ_cons, List.take_zero, List.drop_succ_cons, List.drop_zero]
  iterate 16 (refine wpStill_step (fun K hK => ?_); go_simp; refine hK _ ?_; clear hK K)
  refine wpStill_nil ?_
  go_wp2_with fail
  go_ret2
  exact ⟨rfl, HE.out.1.1, HE.out.2.trans HE.out.1.2⟩
end Go.Proofs.YtchbammjcnhkiaaDoor.Ce
