/- The document's cell: Begin, End, New. -/
import Derived.Test.YtchbammjcnhkiaaDoorMe
import Derived.Deep.Cut
import Derived.Deep.RegionHeld3
set_option linter.unusedVariables false
set_option linter.unusedSimpArgs false
namespace Go.Proofs.YtchbammjcnhkiaaDoor.Ce
open Go.RowKit Go.Maps Go.Proofs.YtchbammjcnhkiaaDoor Go.Proofs.YtchbammjcnhkiaaDoorW.PrintWords Go.Proofs.YtchbammjcnhkiaaDoorW.PrintLast Go.Proofs.YtchbammjcnhkiaaDoorW.PrintMore PCellPlays
attribute [local go_sem] max2_int min2_int max_two min_two max_three min_three
set_option maxHeartbeats 4000000 in
set_option maxRecDepth 100000 in
theorem beginr_low (w : World) (s : Cel) (A B : Option Addr) (n c m d : Nat) (task t : Int) (h : ¬ (0 ≤ task ∧ task < 128)) : Calls Tryd.prog 35 #[agg s (.slice A n c) (.slice B m d), .int .i64 task, .int .i64 t] w fun e w' => e = .returned (.tuple #[agg s (.slice A n c) (.slice B m d), .int .i64 0, .int .i64 1]) ∧ Below w.heap.size w w' := by
  have hc : task < 0 ∨ (¬ task < 0 ∧ 128 ≤ task) := by omega
  have HO := Lib.hid hc
  clear h hc
  unfold agg Cel.cells
  go_enter Tryd.func35, Tryd.ntmps35
  go_upto_region 1 with fail
  obtain ⟨w3, g0, g1, e3, e0, e1, hB⟩ : ∃ w3 g0 g1, w3 = (w.alloc (.cells #[.bool s.again, .int .i64 s.tries, .int .i64 s.base, .int .i64 s.factor, .int .i64 s.cap, .int .i64 s.state, .int .i64 s.gen, .int .i64 s.task, .int .i64 s.fails, .int .i64 s.next, .int .i64 s.last, .int .i64 s.kind, (.slice A n c), (.slice B m d)] 56)).alloc (.cells #[.bool false, .int .i64 0, .int .i64 0, .int .i64 0, .int .i64 0, .int .i64 0, .int .i64 0, .int .i64 0, .int .i64 0, .int .i64 0, .int .i64 0, .int .i64 0, .slice none 0 0, .slice none 0 0] 56) ∧ g0 = w.heap.size ∧ g1 = w.heap.size + 1 ∧ B2 w w3 g0 g1 s (.slice A n c) (.slice B m d) := ⟨_, _, _, rfl, rfl, rfl, B2.mk2 w s (.slice A n c) (.slice B m d)⟩
  rw [← e3, ← e1, ← e0]
  have HB := Lib.hid hB
  obtain ⟨a0, a1, a2, a3, a4, a5, a6, a7, a8, a9, a10, a11, a12, a13, af⟩ := hB.c.facts
  obtain ⟨b0, b1, b2, b3, b4, b5, b6, b7, b8, b9, b10, b11, b12, b13, bf⟩ := hB.facts
  have hne := hB.ne
  have hne2 := Ne.symm hB.ne
  clear e3 e0 e1 hB
  rcases HO.out with h1 | ⟨h1, h2⟩
  · go_wp2_with fail
    have HP := Lib.hid (HB.out.put)
    refine bodyPost_ret (results_ctt rfl _ _ g1 56 (s.cells (.slice A n c) (.slice B m d)) (0, 0) _ rfl HP.out.1 Tryd.underlying56 rfl (by kernel_rfl)) rfl ?_
    exact ⟨rfl, HP.out.2⟩
  · go_wp2_with fail
    have HP := Lib.hid (HB.out.put)
    refine bodyPost_ret (results_ctt rfl _ _ g1 56 (s.cells (.slice A n c) (.slice B m d)) (0, 0) _ rfl HP.out.1 Tryd.underlying56 rfl (by kernel_rfl)) rfl ?_
    exact ⟨rfl, HP.out.2⟩
set_option maxHeartbeats 4000000 in
set_option maxRecDepth 100000 in
theorem beginr_bad (w : World) (s : Cel) (A B : Option Addr) (n c m d : Nat) (task t : Int) (h0 : 0 ≤ task) (h1 : task < 128) (hb : badB s t = true) : Calls Tryd.prog 35 #[agg s (.slice A n c) (.slice B m d), .int .i64 task, .int .i64 t] w fun e w' => e = .returned (.tuple #[agg s (.slice A n c) (.slice B m d), .int .i64 0, .int .i64 1]) ∧ Below w.heap.size w w' := by
  have HD := Lib.hid hb
  have g0' : ¬ task < 0 := by omega
  have g1' : ¬ 128 ≤ task := by omega
  clear hb h0 h1
  unfold agg Cel.cells
  go_enter Tryd.func35, Tryd.ntmps35
  go_upto_region 1 with fail
  obtain ⟨w3, g0, g1, e3, e0, e1, hB⟩ : ∃ w3 g0 g1, w3 = (w.alloc (.cells #[.bool s.again, .int .i64 s.tries, .int .i64 s.base, .int .i64 s.factor, .int .i64 s.cap, .int .i64 s.state, .int .i64 s.gen, .int .i64 s.task, .int .i64 s.fails, .int .i64 s.next, .int .i64 s.last, .int .i64 s.kind, (.slice A n c), (.slice B m d)] 56)).alloc (.cells #[.bool false, .int .i64 0, .int .i64 0, .int .i64 0, .int .i64 0, .int .i64 0, .int .i64 0, .int .i64 0, .int .i64 0, .int .i64 0, .int .i64 0, .int .i64 0, .slice none 0 0, .slice none 0 0] 56) ∧ g0 = w.heap.size ∧ g1 = w.heap.size + 1 ∧ B2 w w3 g0 g1 s (.slice A n c) (.slice B m d) := ⟨_, _, _, rfl, rfl, rfl, B2.mk2 w s (.slice A n c) (.slice B m d)⟩
  rw [← e3, ← e1, ← e0]
  have HB := Lib.hid hB
  obtain ⟨a0, a1, a2, a3, a4, a5, a6, a7, a8, a9, a10, a11, a12, a13, af⟩ := hB.c.facts
  obtain ⟨b0, b1, b2, b3, b4, b5, b6, b7, b8, b9, b10, b11, b12, b13, bf⟩ := hB.facts
  have hne := hB.ne
  have hne2 := Ne.symm hB.ne
  clear e3 e0 e1 hB
  go_wp2_with fail
  refine (bad_be _ s A B n c m d t HD.out).mono ?_
  rintro _ w4 ⟨rfl, hb4⟩
  have HB4 := Lib.hid (HB.out.below hb4)
  clear a0 a1 a2 a3 a4 a5 a6 a7 a8 a9 a10 a11 a12 a13 af b0 b1 b2 b3 b4 b5 b6 b7 b8 b9 b10 b11 b12 b13 bf hb4
  obtain ⟨a0, a1, a2, a3, a4, a5, a6, a7, a8, a9, a10, a11, a12, a13, af⟩ := HB4.out.c.facts
  obtain ⟨b0, b1, b2, b3, b4, b5, b6, b7, b8, b9, b10, b11, b12, b13, bf⟩ := HB4.out.facts
  go_wp2_with fail
  have HP := Lib.hid (HB4.out.put)
  refine bodyPost_ret (results_ctt rfl _ _ g1 56 (s.cells (.slice A n c) (.slice B m d)) (0, 0) _ rfl HP.out.1 Tryd.underlying56 rfl (by kernel_rfl)) rfl ?_
  exact ⟨rfl, HP.out.2⟩
set_option maxHeartbeats 4000000 in
set_option maxRecDepth 100000 in
theorem beginr_state (w : World) (s : Cel) (A B : Option Addr) (n c m d : Nat) (task t : Int) (h0 : 0 ≤ task) (h1 : task < 128) (hb : badB s t = false) (hs : s.state = 1 ∨ s.state = 2 ∨ s.state = 3 ∨ s.state = 4 ∨ s.state = 5) (ha : askB s t ≠ 1) : Calls Tryd.prog 35 #[agg s (.slice A n c) (.slice B m d), .int .i64 task, .int .i64 t] w fun e w' => e = .returned (.tuple #[agg s (.slice A n c) (.slice B m d), .int .i64 0, .int .i64 7]) ∧ Below w.heap.size w w' := by
  have HD := Lib.hid hb
  have HS := Lib.hid hs
  have g0' : ¬ task < 0 := by omega
  have g1' : ¬ 128 ≤ task := by omega
  have hab : (askB s t != 1) = true := by simpa using ha
  have HAB := Lib.hid hab
  clear hb h0 h1 hs ha hab
  unfold agg Cel.cells
  go_enter Tryd.func35, Tryd.ntmps35
  go_upto_region 1 with fail
  obtain ⟨w3, g0, g1, e3, e0, e1, hB⟩ : ∃ w3 g0 g1, w3 = (w.alloc (.cells #[.bool s.again, .int .i64 s.tries, .int .i64 s.base, .int .i64 s.factor, .int .i64 s.cap, .int .i64 s.state, .int .i64 s.gen, .int .i64 s.task, .int .i64 s.fails, .int .i64 s.next, .int .i64 s.last, .int .i64 s.kind, (.slice A n c), (.slice B m d)] 56)).alloc (.cells #[.bool false, .int .i64 0, .int .i64 0, .int .i64 0, .int .i64 0, .int .i64 0, .int .i64 0, .int .i64 0, .int .i64 0, .int .i64 0, .int .i64 0, .int .i64 0, .slice none 0 0, .slice none 0 0] 56) ∧ g0 = w.heap.size ∧ g1 = w.heap.size + 1 ∧ B2 w w3 g0 g1 s (.slice A n c) (.slice B m d) := ⟨_, _, _, rfl, rfl, rfl, B2.mk2 w s (.slice A n c) (.slice B m d)⟩
  rw [← e3, ← e1, ← e0]
  have HB := Lib.hid hB
  obtain ⟨a0, a1, a2, a3, a4, a5, a6, a7, a8, a9, a10, a11, a12, a13, af⟩ := hB.c.facts
  obtain ⟨b0, b1, b2, b3, b4, b5, b6, b7, b8, b9, b10, b11, b12, b13, bf⟩ := hB.facts
  have hne := hB.ne
  have hne2 := Ne.symm hB.ne
  clear e3 e0 e1 hB
  go_wp2_with fail
  refine (bad_be _ s A B n c m d t HD.out).mono ?_
  rintro _ w4 ⟨rfl, hb4⟩
  have HB4 := Lib.hid (HB.out.below hb4)
  clear a0 a1 a2 a3 a4 a5 a6 a7 a8 a9 a10 a11 a12 a13 af b0 b1 b2 b3 b4 b5 b6 b7 b8 b9 b10 b11 b12 b13 bf hb4
  obtain ⟨a0, a1, a2, a3, a4, a5, a6, a7, a8, a9, a10, a11, a12, a13, af⟩ := HB4.out.c.facts
  obtain ⟨b0, b1, b2, b3, b4, b5, b6, b7, b8, b9, b10, b11, b12, b13, bf⟩ := HB4.out.facts
  go_wp2_with fail
  refine (ask_at _ s A B n c m d t HS.out).mono ?_
  rintro _ w5 ⟨rfl, hb5⟩
  have HB5 := Lib.hid (HB4.out.below hb5)
  clear a0 a1 a2 a3 a4 a5 a6 a7 a8 a9 a10 a11 a12 a13 af b0 b1 b2 b3 b4 b5 b6 b7 b8 b9 b10 b11 b12 b13 bf hb5
  obtain ⟨a0, a1, a2, a3, a4, a5, a6, a7, a8, a9, a10, a11, a12, a13, af⟩ := HB5.out.c.facts
  obtain ⟨b0, b1, b2, b3, b4, b5, b6, b7, b8, b9, b10, b11, b12, b13, bf⟩ := HB5.out.facts
  have hab := HAB.out
  generalize askB s t = q at hab ⊢
  go_wp2_with fail
  have HP := Lib.hid (HB5.out.put)
  refine bodyPost_ret (results_ctt rfl _ _ g1 56 (s.cells (.slice A n c) (.slice B m d)) (0, 0) _ rfl HP.out.1 Tryd.underlying56 rfl (by kernel_rfl)) rfl ?_
  exact ⟨rfl, HP.out.2⟩
set_option maxHeartbeats 4000000 in
set_option maxRecDepth 100000 in
theorem beginr_spent (w : World) (s : Cel) (A B : Option Addr) (n c m d : Nat) (task t : Int) (h0 : 0 ≤ task) (h1 : task < 128) (hb : badB s t = false) (hs : s.state = 1 ∨ s.state = 2 ∨ s.state = 3 ∨ s.state = 4 ∨ s.state = 5) (ha : askB s t = 1) (hg : 1048576 ≤ s.gen) : Calls Tryd.prog 35 #[agg s (.slice A n c) (.slice B m d), .int .i64 task, .int .i64 t] w fun e w' => e = .returned (.tuple #[agg s (.slice A n c) (.slice B m d), .int .i64 0, .int .i64 111]) ∧ Below w.heap.size w w' := by
  have HD := Lib.hid hb
  have HS := Lib.hid hs
  have HAB := Lib.hid ha
  have g0' : ¬ task < 0 := by omega
  have g1' : ¬ 128 ≤ task := by omega
  clear hb h0 h1 hs ha
  unfold agg Cel.cells
  go_enter Tryd.func35, Tryd.ntmps35
  go_upto_region 1 with fail
  obtain ⟨w3, g0, g1, e3, e0, e1, hB⟩ : ∃ w3 g0 g1, w3 = (w.alloc (.cells #[.bool s.again, .int .i64 s.tries, .int .i64 s.base, .int .i64 s.factor, .int .i64 s.cap, .int .i64 s.state, .int .i64 s.gen, .int .i64 s.task, .int .i64 s.fails, .int .i64 s.next, .int .i64 s.last, .int .i64 s.kind, (.slice A n c), (.slice B m d)] 56)).alloc (.cells #[.bool false, .int .i64 0, .int .i64 0, .int .i64 0, .int .i64 0, .int .i64 0, .int .i64 0, .int .i64 0, .int .i64 0, .int .i64 0, .int .i64 0, .int .i64 0, .slice none 0 0, .slice none 0 0] 56) ∧ g0 = w.heap.size ∧ g1 = w.heap.size + 1 ∧ B2 w w3 g0 g1 s (.slice A n c) (.slice B m d) := ⟨_, _, _, rfl, rfl, rfl, B2.mk2 w s (.slice A n c) (.slice B m d)⟩
  rw [← e3, ← e1, ← e0]
  have HB := Lib.hid hB
  obtain ⟨a0, a1, a2, a3, a4, a5, a6, a7, a8, a9, a10, a11, a12, a13, af⟩ := hB.c.facts
  obtain ⟨b0, b1, b2, b3, b4, b5, b6, b7, b8, b9, b10, b11, b12, b13, bf⟩ := hB.facts
  have hne := hB.ne
  have hne2 := Ne.symm hB.ne
  clear e3 e0 e1 hB
  go_wp2_with fail
  refine (bad_be _ s A B n c m d t HD.out).mono ?_
  rintro _ w4 ⟨rfl, hb4⟩
  have HB4 := Lib.hid (HB.out.below hb4)
  clear a0 a1 a2 a3 a4 a5 a6 a7 a8 a9 a10 a11 a12 a13 af b0 b1 b2 b3 b4 b5 b6 b7 b8 b9 b10 b11 b12 b13 bf hb4
  obtain ⟨a0, a1, a2, a3, a4, a5, a6, a7, a8, a9, a10, a11, a12, a13, af⟩ := HB4.out.c.facts
  obtain ⟨b0, b1, b2, b3, b4, b5, b6, b7, b8, b9, b10, b11, b12, b13, bf⟩ := HB4.out.facts
  go_wp2_with fail
  refine (ask_at _ s A B n c m d t HS.out).mono ?_
  rintro _ w5 ⟨rfl, hb5⟩
  have HB5 := Lib.hid (HB4.out.below hb5)
  clear a0 a1 a2 a3 a4 a5 a6 a7 a8 a9 a10 a11 a12 a13 af b0 b1 b2 b3 b4 b5 b6 b7 b8 b9 b10 b11 b12 b13 bf hb5
  obtain ⟨a0, a1, a2, a3, a4, a5, a6, a7, a8, a9, a10, a11, a12, a13, af⟩ := HB5.out.c.facts
  obtain ⟨b0, b1, b2, b3, b4, b5, b6, b7, b8, b9, b10, b11, b12, b13, bf⟩ := HB5.out.facts
  rw [HAB.out]
  go_wp2_with fail
  have HP := Lib.hid (HB5.out.put)
  refine bodyPost_ret (results_ctt rfl _ _ g1 56 (s.cells (.slice A n c) (.slice B m d)) (0, 0) _ rfl HP.out.1 Tryd.underlying56 rfl (by kernel_rfl)) rfl ?_
  exact ⟨rfl, HP.out.2⟩
end Go.Proofs.YtchbammjcnhkiaaDoor.Ce
namespace Go.Proofs.YtchbammjcnhkiaaDoor.Ce
open Go.RowKit Go.Maps Go.Proofs.YtchbammjcnhkiaaDoor Go.Proofs.YtchbammjcnhkiaaDoorW.PrintWords Go.Proofs.YtchbammjcnhkiaaDoorW.PrintLast Go.Proofs.YtchbammjcnhkiaaDoorW.PrintMore PCellPlays
attribute [local go_sem] max2_int min2_int max_two min_two max_three min_three
def begunR (s : Cel) (task t : Int) : Cel := { s with state := 2, gen := s.gen + 1, task := task, last := t, kind := 0 }
theorem B2.putc {w w3 : World} {g0 g1 : Nat} {s : Cel} {u v : Value} (h : B2 w w3 g0 g1 s u v) : Bx ((((((((((((((w3.setCell ⟨g1, 0, none⟩ (.bool s.again)).setCell ⟨g1, 1, none⟩ (.int .i64 s.tries)).setCell ⟨g1, 2, none⟩ (.int .i64 s.base)).setCell ⟨g1, 3, none⟩ (.int .i64 s.factor)).setCell ⟨g1, 4, none⟩ (.int .i64 s.cap)).setCell ⟨g1, 5, none⟩ (.int .i64 s.state)).setCell ⟨g1, 6, none⟩ (.int .i64 s.gen)).setCell ⟨g1, 7, none⟩ (.int .i64 s.task)).setCell ⟨g1, 8, none⟩ (.int .i64 s.fails)).setCell ⟨g1, 9, none⟩ (.int .i64 s.next)).setCell ⟨g1, 10, none⟩ (.int .i64 s.last)).setCell ⟨g1, 11, none⟩ (.int .i64 s.kind)).setCell ⟨g1, 12, none⟩ (u)).setCell ⟨g1, 13, none⟩ (v)) g0 s u v := blk_chg h.c (put14 w3 g1 s u v h.z).2 h.ne
set_option maxHeartbeats 4000000 in
set_option maxRecDepth 100000 in
theorem beginr_good (w : World) (s : Cel) (A B : Option Addr) (n c m d : Nat) (task t : Int) (h0 : 0 ≤ task) (h1 : task < 128) (hb : badB s t = false) (hs : s.state = 1 ∨ s.state = 2 ∨ s.state = 3 ∨ s.state = 4 ∨ s.state = 5) (ha : askB s t = 1) (hg : s.gen < 1048576) (hg0 : 0 ≤ s.gen) : Calls Tryd.prog 35 #[agg s (.slice A n c) (.slice B m d), .int .i64 task, .int .i64 t] w fun e w' => e = .returned (.tuple #[agg (begunR s task t) (.slice none 0 0) (.slice none 0 0), .int .i64 (s.gen + 1), .int .i64 0]) ∧ Below w.heap.size w w' := by
  have HD := Lib.hid hb
  have HS := Lib.hid hs
  have HAB := Lib.hid ha
  have g0' : ¬ task < 0 := by omega
  have g1' : ¬ 128 ≤ task := by omega
  have hg' : ¬ 1048576 ≤ s.gen := by omega
  have hw : wrap64 (s.gen + 1) = s.gen + 1 := w64 (by omega) (by omega)
  clear hb h0 h1 hs ha
  unfold agg Cel.cells
  go_enter Tryd.func35, Tryd.ntmps35
  go_upto_region 1 with fail
  obtain ⟨w3, g0, g1, e3, e0, e1, hB⟩ : ∃ w3 g0 g1, w3 = (w.alloc (.cells #[.bool s.again, .int .i64 s.tries, .int .i64 s.base, .int .i64 s.factor, .int .i64 s.cap, .int .i64 s.state, .int .i64 s.gen, .int .i64 s.task, .int .i64 s.fails, .int .i64 s.next, .int .i64 s.last, .int .i64 s.kind, (.slice A n c), (.slice B m d)] 56)).alloc (.cells #[.bool false, .int .i64 0, .int .i64 0, .int .i64 0, .int .i64 0, .int .i64 0, .int .i64 0, .int .i64 0, .int .i64 0, .int .i64 0, .int .i64 0, .int .i64 0, .slice none 0 0, .slice none 0 0] 56) ∧ g0 = w.heap.size ∧ g1 = w.heap.size + 1 ∧ B2 w w3 g0 g1 s (.slice A n c) (.slice B m d) := ⟨_, _, _, rfl, rfl, rfl, B2.mk2 w s (.slice A n c) (.slice B m d)⟩
  rw [← e3, ← e1, ← e0]
  have HB := Lib.hid hB
  obtain ⟨a0, a1, a2, a3, a4, a5, a6, a7, a8, a9, a10, a11, a12, a13, af⟩ := hB.c.facts
  obtain ⟨b0, b1, b2, b3, b4, b5, b6, b7, b8, b9, b10, b11, b12, b13, bf⟩ := hB.facts
  have hne := hB.ne
  have hne2 := Ne.symm hB.ne
  clear e3 e0 e1 hB
  go_wp2_with fail
  refine (bad_be _ s A B n c m d t HD.out).mono ?_
  rintro _ w4 ⟨rfl, hb4⟩
  have HB4 := Lib.hid (HB.out.below hb4)
  clear a0 a1 a2 a3 a4 a5 a6 a7 a8 a9 a10 a11 a12 a13 af b0 b1 b2 b3 b4 b5 b6 b7 b8 b9 b10 b11 b12 b13 bf hb4
  obtain ⟨a0, a1, a2, a3, a4, a5, a6, a7, a8, a9, a10, a11, a12, a13, af⟩ := HB4.out.c.facts
  obtain ⟨b0, b1, b2, b3, b4, b5, b6, b7, b8, b9, b10, b11, b12, b13, bf⟩ := HB4.out.facts
  go_wp2_with fail
  refine (ask_at _ s A B n c m d t HS.out).mono ?_
  rintro _ w5 ⟨rfl, hb5⟩
  have HB5 := Lib.hid (HB4.out.below hb5)
  clear a0 a1 a2 a3 a4 a5 a6 a7 a8 a9 a10 a11 a12 a13 af b0 b1 b2 b3 b4 b5 b6 b7 b8 b9 b10 b11 b12 b13 bf hb5
  obtain ⟨a0, a1, a2, a3, a4, a5, a6, a7, a8, a9, a10, a11, a12, a13, af⟩ := HB5.out.c.facts
  obtain ⟨b0, b1, b2, b3, b4, b5, b6, b7, b8, b9, b10, b11, b12, b13, bf⟩ := HB5.out.facts
  rw [HAB.out]
  go_upto_region 9 with fail
  obtain ⟨w6, e6, hB6⟩ : ∃ w6, w6 = (((((((w5.setCell ⟨g0, 5, none⟩ (.int .i64 2)).setCell ⟨g0, 7, none⟩ (.int .i64 task)).setCell ⟨g0, 10, none⟩ (.int .i64 t)).setCell ⟨g0, 11, none⟩ (.int .i64 0)).setCell ⟨g0, 12, none⟩ (.slice none 0 0)).setCell ⟨g0, 13, none⟩ (.slice none 0 0)).setCell ⟨g0, 6, none⟩ (.int .i64 (s.gen + 1))) ∧ B2 w w6 g0 g1 (begunR s task t) (.slice none 0 0) (.slice none 0 0) := ⟨_, rfl, HB5.out.set ((((((((Chg.refl (· = g0) w5).setCell (p := ⟨g0, 5, none⟩) rfl _).setCell (p := ⟨g0, 7, none⟩) rfl _).setCell (p := ⟨g0, 10, none⟩) rfl _).setCell (p := ⟨g0, 11, none⟩) rfl _).setCell (p := ⟨g0, 12, none⟩) rfl _).setCell (p := ⟨g0, 13, none⟩) rfl _).setCell (p := ⟨g0, 6, none⟩) rfl _) (by
    refine Eq.trans (blk_set (blk_set (blk_set (blk_set (blk_set (blk_set (blk_set HB5.out.c 5 (.int .i64 2)) 7 (.int .i64 task)) 10 (.int .i64 t)) 11 (.int .i64 0)) 12 (.slice none 0 0)) 13 (.slice none 0 0)) 6 (.int .i64 (s.gen + 1))) ?_
    simp [Cel.cells, begunR])⟩
  rw [← e6]
  have HB6 := Lib.hid (hB6.below (Below.refl w6.heap.size w6).drew)
  clear a0 a1 a2 a3 a4 a5 a6 a7 a8 a9 a10 a11 a12 a13 af b0 b1 b2 b3 b4 b5 b6 b7 b8 b9 b10 b11 b12 b13 bf e6 hB6
  refine start_ (n := 6) (S := (fun w' => w'.cell? ⟨g0, 0, none⟩ = some (.bool s.again) ∧ w'.cell? ⟨g0, 1, none⟩ = some (.int .i64 s.tries) ∧ w'.cell? ⟨g0, 2, none⟩ = some (.int .i64 s.base) ∧ w'.cell? ⟨g0, 3, none⟩ = some (.int .i64 s.factor) ∧ w'.cell? ⟨g0, 4, none⟩ = some (.int .i64 s.cap) ∧ w'.cell? ⟨g0, 5, none⟩ = some (.int .i64 2) ∧ w'.cell? ⟨g0, 6, none⟩ = some (.int .i64 (s.gen + 1)) ∧ w'.cell? ⟨g0, 7, none⟩ = some (.int .i64 task) ∧ w'.cell? ⟨g0, 8, none⟩ = some (.int .i64 s.fails) ∧ w'.cell? ⟨g0, 9, none⟩ = some (.int .i64 s.next) ∧ w'.cell? ⟨g0, 10, none⟩ = some (.int .i64 t) ∧ w'.cell? ⟨g0, 11, none⟩ = some (.int .i64 0) ∧ w'.cell? ⟨g0, 12, none⟩ = some (.slice none 0 0) ∧ w'.cell? ⟨g0, 13, none⟩ = some (.slice none 0 0))) (ds := []) #[false, false, false, false, false, false] (by kernel_rfl) rfl rfl (by have ff := HB6.out.c.facts; simp only [begunR] at ff; obtain ⟨a0, a1, a2, a3, a4, a5, a6, a7, a8, a9, a10, a11, a12, a13, af⟩ := ff; exact ⟨a0, a1, a2, a3, a4, a5, a6, a7, a8, a9, a10, a11, a12, a13⟩) (fun hHeld => ?_)
  generalize w6.drew = w7 at HB6 hHeld ⊢
  have ff := HB6.out.c.facts
  have fp := HB6.out.putc.facts
  have HP := Lib.hid (HB6.out.put)
  simp only [begunR] at ff fp
  obtain ⟨a0, a1, a2, a3, a4, a5, a6, a7, a8, a9, a10, a11, a12, a13, af⟩ := ff
  obtain ⟨q0, q1, q2, q3, q4, q5, q6, q7, q8, q9, q10, q11, q12, q13, qf⟩ := fp
  obtain ⟨b0, b1, b2, b3, b4, b5, b6, b7, b8, b9, b10, b11, b12, b13, bf⟩ := HB6.out.facts
  refine take_ (i := 0) (N := some 41) (v := ?_) (a' := ?_) #[true, false, false, false, false, false] rfl rfl (by kernel_rfl) (fun _ _ _ h => h) (Or.inl ⟨by rfl, ?_⟩) hHeld ?_ ?_
  rotate_left
  · rintro w' ⟨s0, s1, s2, s3, s4, s5, s6, s7, s8, s9, s10, s11, s12, s13⟩
    go_simp
    try with_reducible rfl
  rotate_left
  · simp only [Act.put, List.setIfInBounds_toArray, List.set_cons_zero, List.set_cons_succ]
    rfl
  refine pure_ (i := 1) (N := some 42) (v := ?_) (a' := ?_) #[true, true, false, false, false, false] rfl rfl (by kernel_rfl) (fun _ _ _ h => h) (Or.inl ⟨by rfl, ?_⟩) ?_ ?_
  rotate_left
  · intro w'
    go_simp
    try with_reducible rfl
  rotate_left
  · simp only [Act.put, List.setIfInBounds_toArray, List.set_cons_zero, List.set_cons_succ]
    rfl
  refine take_ (i := 2) (N := some 43) (v := ?_) (a' := ?_) #[true, true, true, false, false, false] rfl rfl (by kernel_rfl) (fun _ _ _ h => h) (Or.inl ⟨by rfl, ?_⟩) hHeld ?_ ?_
  rotate_left
  · rintro w' ⟨s0, s1, s2, s3, s4, s5, s6, s7, s8, s9, s10, s11, s12, s13⟩
    go_simp
    try with_reducible rfl
  rotate_left
  · simp only [Act.put, List.setIfInBounds_toArray, List.set_cons_zero, List.set_cons_succ]
    rfl
  refine one_ (i := 3) (N := none) #[true, true, true, true, false, false] rfl rfl (by kernel_rfl) (by decide) (fun K hK => ?_)
  refine skip_ (w1 := ?_) (by rfl) rfl ?_ ?_
  rotate_left
  · go_simp
    rfl
  refine hK.out _ _ ⟨q0, q1, q2, q3, q4, q5, q6, q7, q8, q9, q10, q11, q12, q13⟩ (fun hHeld => ?_)
  clear hK K
  refine pure_ (i := 4) (N := some 7) (v := ?_) (a' := ?_) #[true, true, true, true, true, false] rfl rfl (by kernel_rfl) (fun _ _ _ h => h) (Or.inl ⟨by rfl, ?_⟩) ?_ ?_
  rotate_left
  · intro w'
    go_simp
    try with_reducible rfl
  rotate_left
  · simp only [Act.put, List.setIfInBounds_toArray, List.set_cons_zero, List.set_cons_succ]
    rfl
  refine pure_ (i := 5) (N := some 8) (v := ?_) (a' := ?_) #[true, true, true, true, true, true] rfl rfl (by kernel_rfl) (fun _ _ _ h => h) (Or.inl ⟨by rfl, ?_⟩) ?_ ?_
  rotate_left
  · intro w'
    go_simp
    try with_reducible rfl
  rotate_left
  · simp only [Act.put, List.setIfInBounds_toArray, List.set_cons_zero, List.set_cons_succ]
    rfl
  refine done_ (by kernel_rfl) ?_
  go_wp2_with fail
  refine bodyPost_ret (results_ctt rfl _ _ g1 56 ((begunR s task t).cells (.slice none 0 0) (.slice none 0 0)) (0, 0) _ rfl HP.out.1 Tryd.underlying56 rfl (by kernel_rfl)) rfl ?_
  exact ⟨rfl, HP.out.2⟩
end Go.Proofs.YtchbammjcnhkiaaDoor.Ce
namespace Go.Proofs.YtchbammjcnhkiaaDoor.Ce
open Go.RowKit Go.Maps Go.Proofs.YtchbammjcnhkiaaDoor Go.Proofs.YtchbammjcnhkiaaDoorW.PrintWords Go.Proofs.YtchbammjcnhkiaaDoorW.PrintLast Go.Proofs.YtchbammjcnhkiaaDoorW.PrintMore PCellPlays
attribute [local go_sem] max2_int min2_int max_two min_two max_three min_three
structure E3 (w w3 : World) (g0 g1 gO : Nat) (s : Cel) (u v : Value) (oc : Array Value) : Prop where
  b : B2 w w3 g0 g1 s u v
  o : w3.heap[gO]? = some (.cells oc 37 (0, 0))
  n0 : gO ≠ g0
  n1 : gO ≠ g1
theorem E3.mk3 (w : World) (s : Cel) (u v : Value) (oc : Array Value) : E3 w (((w.alloc (.cells (s.cells u v) 56)).alloc (.cells oc 37)).alloc (.cells z14 56)) w.heap.size (w.heap.size + 2) (w.heap.size + 1) s u v oc := by
  refine ⟨⟨blk_alloc (blk_alloc (blk_new _ _) _) _, ?_, by omega, by omega, by omega, (((Below.refl _ _).alloc (Nat.le_refl _) _).alloc (by simp only [World.size_alloc]; omega) _).alloc (by simp only [World.size_alloc]; omega) _⟩, ?_, by omega, by omega⟩
  · have := blk_new ((w.alloc (.cells (s.cells u v) 56)).alloc (.cells oc 37)) (.cells z14 56)
    rwa [show ((w.alloc (.cells (s.cells u v) 56)).alloc (.cells oc 37)).heap.size = w.heap.size + 2 by simp] at this
  · have := blk_new (w.alloc (.cells (s.cells u v) 56)) (.cells oc 37)
    rw [show (w.alloc (.cells (s.cells u v) 56)).heap.size = w.heap.size + 1 by simp] at this
    exact blk_alloc this _
theorem E3.below {w w3 w4 : World} {g0 g1 gO : Nat} {s : Cel} {u v : Value} {oc : Array Value} (h : E3 w w3 g0 g1 gO s u v oc) (hb : Below w3.heap.size w3 w4) : E3 w w4 g0 g1 gO s u v oc := ⟨h.b.below hb, blk_below h.o hb, h.n0, h.n1⟩
theorem E3.set {w w3 w4 : World} {g0 g1 gO : Nat} {s s' : Cel} {u v u' v' : Value} {oc : Array Value} (h : E3 w w3 g0 g1 gO s u v oc) (hc : Chg (· = g0) w3 w4) (hb : Bx w4 g0 s' u' v') : E3 w w4 g0 g1 gO s' u' v' oc := ⟨h.b.set hc hb, blk_chg h.o hc h.n0, h.n0, h.n1⟩
theorem E3.chgput {w w3 : World} {g0 g1 gO : Nat} {s : Cel} {u v : Value} {oc : Array Value} (h : E3 w w3 g0 g1 gO s u v oc) : Chg (· = g1) w3 ((((((((((((((w3.setCell ⟨g1, 0, none⟩ (.bool s.again)).setCell ⟨g1, 1, none⟩ (.int .i64 s.tries)).setCell ⟨g1, 2, none⟩ (.int .i64 s.base)).setCell ⟨g1, 3, none⟩ (.int .i64 s.factor)).setCell ⟨g1, 4, none⟩ (.int .i64 s.cap)).setCell ⟨g1, 5, none⟩ (.int .i64 s.state)).setCell ⟨g1, 6, none⟩ (.int .i64 s.gen)).setCell ⟨g1, 7, none⟩ (.int .i64 s.task)).setCell ⟨g1, 8, none⟩ (.int .i64 s.fails)).setCell ⟨g1, 9, none⟩ (.int .i64 s.next)).setCell ⟨g1, 10, none⟩ (.int .i64 s.last)).setCell ⟨g1, 11, none⟩ (.int .i64 s.kind)).setCell ⟨g1, 12, none⟩ (u)).setCell ⟨g1, 13, none⟩ (v)) := (put14 w3 g1 s u v h.b.z).2
abbrev EndR (w : World) (s : Cel) (A B : Option Addr) (n c m d : Nat) (task k : Int) (A2 B2 : Option Addr) (c2 d2 : Nat) (vl : List S80) (fl : List S64) (t : Int) (Q : Ending → World → Prop) : Prop := Calls Tryd.prog 36 #[agg s (.slice A n c) (.slice B m d), .int .i64 task, .agg #[.int .i64 k, .slice A2 vl.length c2, .slice B2 fl.length d2], .int .i64 t] w Q
set_option maxHeartbeats 4000000 in
set_option maxRecDepth 100000 in
theorem endr_low (w : World) (s : Cel) (A B : Option Addr) (n c m d : Nat) (task k : Int) (A2 B2 : Option Addr) (c2 d2 : Nat) (vl : List S80) (fl : List S64) (t : Int) (h : ¬ (0 ≤ task ∧ task < 128)) : EndR w s A B n c m d task k A2 B2 c2 d2 vl fl t fun e w' => e = .returned (.tuple #[agg s (.slice A n c) (.slice B m d), .int .i64 1]) ∧ Below w.heap.size w w' := by
  have hc : task < 0 ∨ (¬ task < 0 ∧ 128 ≤ task) := by omega
  have HO := Lib.hid hc
  clear h hc
  unfold EndR agg Cel.cells
  go_enter Tryd.func36, Tryd.ntmps36
  go_upto_region 1 with fail
  obtain ⟨w3, g0, g1, gO, e3, e0, e1, eO, hE⟩ : ∃ w3 g0 g1 gO, w3 = ((w.alloc (.cells #[.bool s.again, .int .i64 s.tries, .int .i64 s.base, .int .i64 s.factor, .int .i64 s.cap, .int .i64 s.state, .int .i64 s.gen, .int .i64 s.task, .int .i64 s.fails, .int .i64 s.next, .int .i64 s.last, .int .i64 s.kind, (.slice A n c), (.slice B m d)] 56)).alloc (.cells #[.int .i64 k, .slice A2 vl.length c2, .slice B2 fl.length d2] 37)).alloc (.cells #[.bool false, .int .i64 0, .int .i64 0, .int .i64 0, .int .i64 0, .int .i64 0, .int .i64 0, .int .i64 0, .int .i64 0, .int .i64 0, .int .i64 0, .int .i64 0, .slice none 0 0, .slice none 0 0] 56) ∧ g0 = w.heap.size ∧ g1 = w.heap.size + 2 ∧ gO = w.heap.size + 1 ∧ E3 w w3 g0 g1 gO s (.slice A n c) (.slice B m d) #[.int .i64 k, .slice A2 vl.length c2, .slice B2 fl.length d2] := ⟨_, _, _, _, rfl, rfl, rfl, rfl, E3.mk3 w s (.slice A n c) (.slice B m d) #[.int .i64 k, .slice A2 vl.length c2, .slice B2 fl.length d2]⟩
  rw [← e3, ← e1, ← eO, ← e0]
  have HE3 := Lib.hid hE
  clear e3 e0 e1 eO hE
  obtain ⟨a0, a1, a2, a3, a4, a5, a6, a7, a8, a9, a10, a11, a12, a13, af⟩ := HE3.out.b.c.facts
  obtain ⟨b0, b1, b2, b3, b4, b5, b6, b7, b8, b9, b10, b11, b12, b13, bf⟩ := HE3.out.b.facts
  have o0 := (blk_cell HE3.out.o 0).trans rfl
  have o1 := (blk_cell HE3.out.o 1).trans rfl
  have o2 := (blk_cell HE3.out.o 2).trans rfl
  have hne := HE3.out.b.ne
  have hne2 := Ne.symm hne
  rcases HO.out with h1 | ⟨h1, h2⟩
  · go_wp2_with fail
    have HP := Lib.hid (HE3.out.b.put)
    refine bodyPost_ret (results_ct rfl _ _ g1 56 (s.cells (.slice A n c) (.slice B m d)) (0, 0) _ rfl HP.out.1 Tryd.underlying56 rfl (by kernel_rfl)) rfl ?_
    exact ⟨rfl, HP.out.2⟩
  · go_wp2_with fail
    have HP := Lib.hid (HE3.out.b.put)
    refine bodyPost_ret (results_ct rfl _ _ g1 56 (s.cells (.slice A n c) (.slice B m d)) (0, 0) _ rfl HP.out.1 Tryd.underlying56 rfl (by kernel_rfl)) rfl ?_
    exact ⟨rfl, HP.out.2⟩
set_option maxHeartbeats 4000000 in
set_option maxRecDepth 100000 in
theorem endr_state (w : World) (s : Cel) (A B : Option Addr) (n c m d : Nat) (task k : Int) (A2 B2 : Option Addr) (c2 d2 : Nat) (vl : List S80) (fl : List S64) (t : Int) (h0 : 0 ≤ task) (h1 : task < 128) (hs : (s.state != 2) = true ∨ ((s.state != 2) = false ∧ (s.task != task) = true)) : EndR w s A B n c m d task k A2 B2 c2 d2 vl fl t fun e w' => e = .returned (.tuple #[agg s (.slice A n c) (.slice B m d), .int .i64 7]) ∧ Below w.heap.size w w' := by
  have HO := Lib.hid hs
  have g0' : ¬ task < 0 := by omega
  have g1' : ¬ 128 ≤ task := by omega
  clear hs h0 h1
  unfold EndR agg Cel.cells
  go_enter Tryd.func36, Tryd.ntmps36
  go_upto_region 1 with fail
  obtain ⟨w3, g0, g1, gO, e3, e0, e1, eO, hE⟩ : ∃ w3 g0 g1 gO, w3 = ((w.alloc (.cells #[.bool s.again, .int .i64 s.tries, .int .i64 s.base, .int .i64 s.factor, .int .i64 s.cap, .int .i64 s.state, .int .i64 s.gen, .int .i64 s.task, .int .i64 s.fails, .int .i64 s.next, .int .i64 s.last, .int .i64 s.kind, (.slice A n c), (.slice B m d)] 56)).alloc (.cells #[.int .i64 k, .slice A2 vl.length c2, .slice B2 fl.length d2] 37)).alloc (.cells #[.bool false, .int .i64 0, .int .i64 0, .int .i64 0, .int .i64 0, .int .i64 0, .int .i64 0, .int .i64 0, .int .i64 0, .int .i64 0, .int .i64 0, .int .i64 0, .slice none 0 0, .slice none 0 0] 56) ∧ g0 = w.heap.size ∧ g1 = w.heap.size + 2 ∧ gO = w.heap.size + 1 ∧ E3 w w3 g0 g1 gO s (.slice A n c) (.slice B m d) #[.int .i64 k, .slice A2 vl.length c2, .slice B2 fl.length d2] := ⟨_, _, _, _, rfl, rfl, rfl, rfl, E3.mk3 w s (.slice A n c) (.slice B m d) #[.int .i64 k, .slice A2 vl.length c2, .slice B2 fl.length d2]⟩
  rw [← e3, ← e1, ← eO, ← e0]
  have HE3 := Lib.hid hE
  clear e3 e0 e1 eO hE
  obtain ⟨a0, a1, a2, a3, a4, a5, a6, a7, a8, a9, a10, a11, a12, a13, af⟩ := HE3.out.b.c.facts
  obtain ⟨b0, b1, b2, b3, b4, b5, b6, b7, b8, b9, b10, b11, b12, b13, bf⟩ := HE3.out.b.facts
  have o0 := (blk_cell HE3.out.o 0).trans rfl
  have o1 := (blk_cell HE3.out.o 1).trans rfl
  have o2 := (blk_cell HE3.out.o 2).trans rfl
  have hne := HE3.out.b.ne
  have hne2 := Ne.symm hne
  rcases HO.out with h1 | ⟨h1, h2⟩
  · go_wp2_with fail
    have HP := Lib.hid (HE3.out.b.put)
    refine bodyPost_ret (results_ct rfl _ _ g1 56 (s.cells (.slice A n c) (.slice B m d)) (0, 0) _ rfl HP.out.1 Tryd.underlying56 rfl (by kernel_rfl)) rfl ?_
    exact ⟨rfl, HP.out.2⟩
  · go_wp2_with fail
    have HP := Lib.hid (HE3.out.b.put)
    refine bodyPost_ret (results_ct rfl _ _ g1 56 (s.cells (.slice A n c) (.slice B m d)) (0, 0) _ rfl HP.out.1 Tryd.underlying56 rfl (by kernel_rfl)) rfl ?_
    exact ⟨rfl, HP.out.2⟩
theorem good_be (w : World) (k : Int) (A B : Option Addr) (c d : Nat) (l : List S80) (m : List S64) (h : Put w A B c d l m) {r : Bool} (hr : rightB k l m = r) : Calls Tryd.prog 52 #[.agg #[.int .i64 k, .slice A l.length c, .slice B m.length d]] w fun e w' => e = .returned (.bool r) ∧ Below w.heap.size w w' := hr ▸ good_is w k A B c d l m h.r1 h.c1 h.r2 h.c2
set_option maxHeartbeats 4000000 in
set_option maxRecDepth 100000 in
theorem endr_wrong (w : World) (s : Cel) (A B : Option Addr) (n c m d : Nat) (task k : Int) (A2 B2 : Option Addr) (c2 d2 : Nat) (vl : List S80) (fl : List S64) (t : Int) (hp : Put w A2 B2 c2 d2 vl fl) (h0 : 0 ≤ task) (h1 : task < 128) (hs : s.state = 2) (ht : s.task = task) (hg : rightB k vl fl = false) : EndR w s A B n c m d task k A2 B2 c2 d2 vl fl t fun e w' => e = .returned (.tuple #[agg s (.slice A n c) (.slice B m d), .int .i64 110]) ∧ Below w.heap.size w w' := by
  have HPUT := Lib.hid hp
  have HG := Lib.hid hg
  have g0' : ¬ task < 0 := by omega
  have g1' : ¬ 128 ≤ task := by omega
  have hs1 : (s.state != 2) = false := by rw [hs]; rfl
  have hs2 : (s.task != task) = false := by rw [ht]; simp
  clear hp hg h0 h1 hs ht
  unfold EndR agg Cel.cells
  go_enter Tryd.func36, Tryd.ntmps36
  go_upto_region 1 with fail
  obtain ⟨w3, g0, g1, gO, e3, e0, e1, eO, hE⟩ : ∃ w3 g0 g1 gO, w3 = ((w.alloc (.cells #[.bool s.again, .int .i64 s.tries, .int .i64 s.base, .int .i64 s.factor, .int .i64 s.cap, .int .i64 s.state, .int .i64 s.gen, .int .i64 s.task, .int .i64 s.fails, .int .i64 s.next, .int .i64 s.last, .int .i64 s.kind, (.slice A n c), (.slice B m d)] 56)).alloc (.cells #[.int .i64 k, .slice A2 vl.length c2, .slice B2 fl.length d2] 37)).alloc (.cells #[.bool false, .int .i64 0, .int .i64 0, .int .i64 0, .int .i64 0, .int .i64 0, .int .i64 0, .int .i64 0, .int .i64 0, .int .i64 0, .int .i64 0, .int .i64 0, .slice none 0 0, .slice none 0 0] 56) ∧ g0 = w.heap.size ∧ g1 = w.heap.size + 2 ∧ gO = w.heap.size + 1 ∧ E3 w w3 g0 g1 gO s (.slice A n c) (.slice B m d) #[.int .i64 k, .slice A2 vl.length c2, .slice B2 fl.length d2] := ⟨_, _, _, _, rfl, rfl, rfl, rfl, E3.mk3 w s (.slice A n c) (.slice B m d) #[.int .i64 k, .slice A2 vl.length c2, .slice B2 fl.length d2]⟩
  rw [← e3, ← e1, ← eO, ← e0]
  have HE3 := Lib.hid hE
  clear e3 e0 e1 eO hE
  obtain ⟨a0, a1, a2, a3, a4, a5, a6, a7, a8, a9, a10, a11, a12, a13, af⟩ := HE3.out.b.c.facts
  obtain ⟨b0, b1, b2, b3, b4, b5, b6, b7, b8, b9, b10, b11, b12, b13, bf⟩ := HE3.out.b.facts
  have o0 := (blk_cell HE3.out.o 0).trans rfl
  have o1 := (blk_cell HE3.out.o 1).trans rfl
  have o2 := (blk_cell HE3.out.o 2).trans rfl
  have hne := HE3.out.b.ne
  have hne2 := Ne.symm hne
  go_wp2_with fail
  refine (good_be _ k A2 B2 c2 d2 vl fl (HPUT.out.below HE3.out.b.bel) HG.out).mono ?_
  rintro _ w4 ⟨rfl, hb4⟩
  have HE4 := Lib.hid (HE3.out.below hb4)
  clear a0 a1 a2 a3 a4 a5 a6 a7 a8 a9 a10 a11 a12 a13 af b0 b1 b2 b3 b4 b5 b6 b7 b8 b9 b10 b11 b12 b13 bf o0 o1 o2 hne hne2 hb4
  obtain ⟨a0, a1, a2, a3, a4, a5, a6, a7, a8, a9, a10, a11, a12, a13, af⟩ := HE4.out.b.c.facts
  obtain ⟨b0, b1, b2, b3, b4, b5, b6, b7, b8, b9, b10, b11, b12, b13, bf⟩ := HE4.out.b.facts
  have o0 := (blk_cell HE4.out.o 0).trans rfl
  have o1 := (blk_cell HE4.out.o 1).trans rfl
  have o2 := (blk_cell HE4.out.o 2).trans rfl
  have hne := HE4.out.b.ne
  have hne2 := Ne.symm hne
  go_wp2_with fail
  have HP := Lib.hid (HE4.out.b.put)
  refine bodyPost_ret (results_ct rfl _ _ g1 56 (s.cells (.slice A n c) (.slice B m d)) (0, 0) _ rfl HP.out.1 Tryd.underlying56 rfl (by kernel_rfl)) rfl ?_
  exact ⟨rfl, HP.out.2⟩
set_option maxHeartbeats 4000000 in
set_option maxRecDepth 100000 in
theorem endr_late (w : World) (s : Cel) (A B : Option Addr) (n c m d : Nat) (task k : Int) (A2 B2 : Option Addr) (c2 d2 : Nat) (vl : List S80) (fl : List S64) (t : Int) (hp : Put w A2 B2 c2 d2 vl fl) (h0 : 0 ≤ task) (h1 : task < 128) (hs : s.state = 2) (ht : s.task = task) (hg : rightB k vl fl = true) (hb : badB s t = true) : EndR w s A B n c m d task k A2 B2 c2 d2 vl fl t fun e w' => e = .returned (.tuple #[agg s (.slice A n c) (.slice B m d), .int .i64 1]) ∧ Below w.heap.size w w' := by
  have HPUT := Lib.hid hp
  have HG := Lib.hid hg
  have g0' : ¬ task < 0 := by omega
  have g1' : ¬ 128 ≤ task := by omega
  have hs1 : (s.state != 2) = false := by rw [hs]; rfl
  have hs2 : (s.task != task) = false := by rw [ht]; simp
  have HD := Lib.hid hb
  clear hp hg h0 h1 hs ht hb
  unfold EndR agg Cel.cells
  go_enter Tryd.func36, Tryd.ntmps36
  go_upto_region 1 with fail
  obtain ⟨w3, g0, g1, gO, e3, e0, e1, eO, hE⟩ : ∃ w3 g0 g1 gO, w3 = ((w.alloc (.cells #[.bool s.again, .int .i64 s.tries, .int .i64 s.base, .int .i64 s.factor, .int .i64 s.cap, .int .i64 s.state, .int .i64 s.gen, .int .i64 s.task, .int .i64 s.fails, .int .i64 s.next, .int .i64 s.last, .int .i64 s.kind, (.slice A n c), (.slice B m d)] 56)).alloc (.cells #[.int .i64 k, .slice A2 vl.length c2, .slice B2 fl.length d2] 37)).alloc (.cells #[.bool false, .int .i64 0, .int .i64 0, .int .i64 0, .int .i64 0, .int .i64 0, .int .i64 0, .int .i64 0, .int .i64 0, .int .i64 0, .int .i64 0, .int .i64 0, .slice none 0 0, .slice none 0 0] 56) ∧ g0 = w.heap.size ∧ g1 = w.heap.size + 2 ∧ gO = w.heap.size + 1 ∧ E3 w w3 g0 g1 gO s (.slice A n c) (.slice B m d) #[.int .i64 k, .slice A2 vl.length c2, .slice B2 fl.length d2] := ⟨_, _, _, _, rfl, rfl, rfl, rfl, E3.mk3 w s (.slice A n c) (.slice B m d) #[.int .i64 k, .slice A2 vl.length c2, .slice B2 fl.length d2]⟩
  rw [← e3, ← e1, ← eO, ← e0]
  have HE3 := Lib.hid hE
  clear e3 e0 e1 eO hE
  obtain ⟨a0, a1, a2, a3, a4, a5, a6, a7, a8, a9, a10, a11, a12, a13, af⟩ := HE3.out.b.c.facts
  obtain ⟨b0, b1, b2, b3, b4, b5, b6, b7, b8, b9, b10, b11, b12, b13, bf⟩ := HE3.out.b.facts
  have o0 := (blk_cell HE3.out.o 0).trans rfl
  have o1 := (blk_cell HE3.out.o 1).trans rfl
  have o2 := (blk_cell HE3.out.o 2).trans rfl
  have hne := HE3.out.b.ne
  have hne2 := Ne.symm hne
  go_wp2_with fail
  refine (good_be _ k A2 B2 c2 d2 vl fl (HPUT.out.below HE3.out.b.bel) HG.out).mono ?_
  rintro _ w4 ⟨rfl, hb4⟩
  have HE4 := Lib.hid (HE3.out.below hb4)
  clear a0 a1 a2 a3 a4 a5 a6 a7 a8 a9 a10 a11 a12 a13 af b0 b1 b2 b3 b4 b5 b6 b7 b8 b9 b10 b11 b12 b13 bf o0 o1 o2 hne hne2 hb4
  obtain ⟨a0, a1, a2, a3, a4, a5, a6, a7, a8, a9, a10, a11, a12, a13, af⟩ := HE4.out.b.c.facts
  obtain ⟨b0, b1, b2, b3, b4, b5, b6, b7, b8, b9, b10, b11, b12, b13, bf⟩ := HE4.out.b.facts
  have o0 := (blk_cell HE4.out.o 0).trans rfl
  have o1 := (blk_cell HE4.out.o 1).trans rfl
  have o2 := (blk_cell HE4.out.o 2).trans rfl
  have hne := HE4.out.b.ne
  have hne2 := Ne.symm hne
  go_wp2_with fail
  refine (bad_be _ s A B n c m d t HD.out).mono ?_
  rintro _ w5 ⟨rfl, hb5⟩
  have HE5 := Lib.hid (HE4.out.below hb5)
  clear a0 a1 a2 a3 a4 a5 a6 a7 a8 a9 a10 a11 a12 a13 af b0 b1 b2 b3 b4 b5 b6 b7 b8 b9 b10 b11 b12 b13 bf o0 o1 o2 hne hne2 hb5
  obtain ⟨a0, a1, a2, a3, a4, a5, a6, a7, a8, a9, a10, a11, a12, a13, af⟩ := HE5.out.b.c.facts
  obtain ⟨b0, b1, b2, b3, b4, b5, b6, b7, b8, b9, b10, b11, b12, b13, bf⟩ := HE5.out.b.facts
  have o0 := (blk_cell HE5.out.o 0).trans rfl
  have o1 := (blk_cell HE5.out.o 1).trans rfl
  have o2 := (blk_cell HE5.out.o 2).trans rfl
  have hne := HE5.out.b.ne
  have hne2 := Ne.symm hne
  go_wp2_with fail
  have HP := Lib.hid (HE5.out.b.put)
  refine bodyPost_ret (results_ct rfl _ _ g1 56 (s.cells (.slice A n c) (.slice B m d)) (0, 0) _ rfl HP.out.1 Tryd.underlying56 rfl (by kernel_rfl)) rfl ?_
  exact ⟨rfl, HP.out.2⟩
end Go.Proofs.YtchbammjcnhkiaaDoor.Ce
