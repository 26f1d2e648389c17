/- The document's cell: Reset, Close, Told, Ask. -/
import Derived.Test.YtchbammjcnhkiaaDoorMd
import Derived.Deep.Cut
import Derived.Deep.RegionHeld3
set_option linter.unusedVariables false
set_option linter.unusedSimpArgs false
namespace Go.Proofs.YtchbammjcnhkiaaDoor.Ce
open Go.RowKit Go.Maps Go.Proofs.YtchbammjcnhkiaaDoor Go.Proofs.YtchbammjcnhkiaaDoorW.PrintWords Go.Proofs.YtchbammjcnhkiaaDoorW.PrintLast Go.Proofs.YtchbammjcnhkiaaDoorW.PrintMore PCellPlays
attribute [local go_sem] max2_int min2_int max_two min_two max_three min_three
def z14 : Array Value := #[.bool false, .int .i64 0, .int .i64 0, .int .i64 0, .int .i64 0, .int .i64 0, .int .i64 0, .int .i64 0, .int .i64 0, .int .i64 0, .int .i64 0, .int .i64 0, .slice none 0 0, .slice none 0 0]
/-- The box of a cell that came in, and the box of the cell that is told. -/
structure B2 (w w3 : World) (g0 g1 : Nat) (s : Cel) (u v : Value) : Prop where
  c : Bx w3 g0 s u v
  z : w3.heap[g1]? = some (.cells z14 56 (0, 0))
  ne : g0 ≠ g1
  h0 : w.heap.size ≤ g0
  h1 : w.heap.size ≤ g1
  bel : Below w.heap.size w w3
theorem B2.mk2 (w : World) (s : Cel) (u v : Value) : B2 w ((w.alloc (.cells (s.cells u v) 56)).alloc (.cells z14 56)) w.heap.size (w.heap.size + 1) s u v := by
  refine ⟨blk_alloc (blk_new _ _) _, ?_, by omega, by omega, by omega, ((Below.refl _ _).alloc (Nat.le_refl _) _).alloc (by simp) _⟩
  have := blk_new (w.alloc (.cells (s.cells u v) 56)) (.cells z14 56)
  rwa [show (w.alloc (.cells (s.cells u v) 56)).heap.size = w.heap.size + 1 by simp] at this
theorem B2.below {w w3 w4 : World} {g0 g1 : Nat} {s : Cel} {u v : Value} (h : B2 w w3 g0 g1 s u v) (hb : Below w3.heap.size w3 w4) : B2 w w4 g0 g1 s u v := ⟨blk_below h.c hb, blk_below h.z hb, h.ne, h.h0, h.h1, below_step h.bel hb⟩
theorem B2.set {w w3 : World} {g0 g1 : Nat} {s s' : Cel} {u v u' v' : Value} (h : B2 w w3 g0 g1 s u v) {w4 : World} (hc : Chg (· = g0) w3 w4) (hb : Bx w4 g0 s' u' v') : B2 w w4 g0 g1 s' u' v' :=
  ⟨hb, blk_chg h.z hc (Ne.symm h.ne), h.ne, h.h0, h.h1, Chg.below h.bel hc (fun i hi => hi ▸ h.h0) h.bel.size⟩
theorem B2.facts {w w3 : World} {g0 g1 : Nat} {s : Cel} {u v : Value} (h : B2 w w3 g0 g1 s u v) : w3.cell? ⟨g1, 0, none⟩ = some (.bool false) ∧ w3.cell? ⟨g1, 1, none⟩ = some (.int .i64 0) ∧ w3.cell? ⟨g1, 2, none⟩ = some (.int .i64 0) ∧ w3.cell? ⟨g1, 3, none⟩ = some (.int .i64 0) ∧ w3.cell? ⟨g1, 4, none⟩ = some (.int .i64 0) ∧ w3.cell? ⟨g1, 5, none⟩ = some (.int .i64 0) ∧ w3.cell? ⟨g1, 6, none⟩ = some (.int .i64 0) ∧ w3.cell? ⟨g1, 7, none⟩ = some (.int .i64 0) ∧ w3.cell? ⟨g1, 8, none⟩ = some (.int .i64 0) ∧ w3.cell? ⟨g1, 9, none⟩ = some (.int .i64 0) ∧ w3.cell? ⟨g1, 10, none⟩ = some (.int .i64 0) ∧ w3.cell? ⟨g1, 11, none⟩ = some (.int .i64 0) ∧ w3.cell? ⟨g1, 12, none⟩ = some (.slice none 0 0) ∧ w3.cell? ⟨g1, 13, none⟩ = some (.slice none 0 0) ∧ ∀ k, w3.frozen? ⟨g1, k, none⟩ = false :=
  ⟨(blk_cell h.z 0).trans rfl, (blk_cell h.z 1).trans rfl, (blk_cell h.z 2).trans rfl, (blk_cell h.z 3).trans rfl, (blk_cell h.z 4).trans rfl, (blk_cell h.z 5).trans rfl, (blk_cell h.z 6).trans rfl, (blk_cell h.z 7).trans rfl, (blk_cell h.z 8).trans rfl, (blk_cell h.z 9).trans rfl, (blk_cell h.z 10).trans rfl, (blk_cell h.z 11).trans rfl, (blk_cell h.z 12).trans rfl, (blk_cell h.z 13).trans rfl, blk_frozen h.z⟩
theorem put14 (w3 : World) (g : Nat) (s : Cel) (u v : Value) (h : w3.heap[g]? = some (.cells z14 56 (0, 0))) : ((((((((((((((w3.setCell ⟨g, 0, none⟩ (.bool s.again)).setCell ⟨g, 1, none⟩ (.int .i64 s.tries)).setCell ⟨g, 2, none⟩ (.int .i64 s.base)).setCell ⟨g, 3, none⟩ (.int .i64 s.factor)).setCell ⟨g, 4, none⟩ (.int .i64 s.cap)).setCell ⟨g, 5, none⟩ (.int .i64 s.state)).setCell ⟨g, 6, none⟩ (.int .i64 s.gen)).setCell ⟨g, 7, none⟩ (.int .i64 s.task)).setCell ⟨g, 8, none⟩ (.int .i64 s.fails)).setCell ⟨g, 9, none⟩ (.int .i64 s.next)).setCell ⟨g, 10, none⟩ (.int .i64 s.last)).setCell ⟨g, 11, none⟩ (.int .i64 s.kind)).setCell ⟨g, 12, none⟩ (u)).setCell ⟨g, 13, none⟩ (v)).heap[g]? = some (.cells (s.cells u v) 56 (0, 0)) ∧ Chg (· = g) w3 ((((((((((((((w3.setCell ⟨g, 0, none⟩ (.bool s.again)).setCell ⟨g, 1, none⟩ (.int .i64 s.tries)).setCell ⟨g, 2, none⟩ (.int .i64 s.base)).setCell ⟨g, 3, none⟩ (.int .i64 s.factor)).setCell ⟨g, 4, none⟩ (.int .i64 s.cap)).setCell ⟨g, 5, none⟩ (.int .i64 s.state)).setCell ⟨g, 6, none⟩ (.int .i64 s.gen)).setCell ⟨g, 7, none⟩ (.int .i64 s.task)).setCell ⟨g, 8, none⟩ (.int .i64 s.fails)).setCell ⟨g, 9, none⟩ (.int .i64 s.next)).setCell ⟨g, 10, none⟩ (.int .i64 s.last)).setCell ⟨g, 11, none⟩ (.int .i64 s.kind)).setCell ⟨g, 12, none⟩ (u)).setCell ⟨g, 13, none⟩ (v)) := by
  refine ⟨?_, ((((((((((((((Chg.refl (· = g) w3).setCell (p := ⟨g, 0, none⟩) rfl _).setCell (p := ⟨g, 1, none⟩) rfl _).setCell (p := ⟨g, 2, none⟩) rfl _).setCell (p := ⟨g, 3, none⟩) rfl _).setCell (p := ⟨g, 4, none⟩) rfl _).setCell (p := ⟨g, 5, none⟩) rfl _).setCell (p := ⟨g, 6, none⟩) rfl _).setCell (p := ⟨g, 7, none⟩) rfl _).setCell (p := ⟨g, 8, none⟩) rfl _).setCell (p := ⟨g, 9, none⟩) rfl _).setCell (p := ⟨g, 10, none⟩) rfl _).setCell (p := ⟨g, 11, none⟩) rfl _).setCell (p := ⟨g, 12, none⟩) rfl _).setCell (p := ⟨g, 13, none⟩) rfl _⟩
  refine Eq.trans (blk_set (blk_set (blk_set (blk_set (blk_set (blk_set (blk_set (blk_set (blk_set (blk_set (blk_set (blk_set (blk_set (blk_set h 0 (.bool s.again)) 1 (.int .i64 s.tries)) 2 (.int .i64 s.base)) 3 (.int .i64 s.factor)) 4 (.int .i64 s.cap)) 5 (.int .i64 s.state)) 6 (.int .i64 s.gen)) 7 (.int .i64 s.task)) 8 (.int .i64 s.fails)) 9 (.int .i64 s.next)) 10 (.int .i64 s.last)) 11 (.int .i64 s.kind)) 12 (u)) 13 (v)) ?_
  simp [z14, Cel.cells]
theorem B2.put {w w3 : World} {g0 g1 : Nat} {s : Cel} {u v : Value} (h : B2 w w3 g0 g1 s u v) : ((((((((((((((w3.setCell ⟨g1, 0, none⟩ (.bool s.again)).setCell ⟨g1, 1, none⟩ (.int .i64 s.tries)).setCell ⟨g1, 2, none⟩ (.int .i64 s.base)).setCell ⟨g1, 3, none⟩ (.int .i64 s.factor)).setCell ⟨g1, 4, none⟩ (.int .i64 s.cap)).setCell ⟨g1, 5, none⟩ (.int .i64 s.state)).setCell ⟨g1, 6, none⟩ (.int .i64 s.gen)).setCell ⟨g1, 7, none⟩ (.int .i64 s.task)).setCell ⟨g1, 8, none⟩ (.int .i64 s.fails)).setCell ⟨g1, 9, none⟩ (.int .i64 s.next)).setCell ⟨g1, 10, none⟩ (.int .i64 s.last)).setCell ⟨g1, 11, none⟩ (.int .i64 s.kind)).setCell ⟨g1, 12, none⟩ (u)).setCell ⟨g1, 13, none⟩ (v)).heap[g1]? = some (.cells (s.cells u v) 56 (0, 0)) ∧ Below w.heap.size w ((((((((((((((w3.setCell ⟨g1, 0, none⟩ (.bool s.again)).setCell ⟨g1, 1, none⟩ (.int .i64 s.tries)).setCell ⟨g1, 2, none⟩ (.int .i64 s.base)).setCell ⟨g1, 3, none⟩ (.int .i64 s.factor)).setCell ⟨g1, 4, none⟩ (.int .i64 s.cap)).setCell ⟨g1, 5, none⟩ (.int .i64 s.state)).setCell ⟨g1, 6, none⟩ (.int .i64 s.gen)).setCell ⟨g1, 7, none⟩ (.int .i64 s.task)).setCell ⟨g1, 8, none⟩ (.int .i64 s.fails)).setCell ⟨g1, 9, none⟩ (.int .i64 s.next)).setCell ⟨g1, 10, none⟩ (.int .i64 s.last)).setCell ⟨g1, 11, none⟩ (.int .i64 s.kind)).setCell ⟨g1, 12, none⟩ (u)).setCell ⟨g1, 13, none⟩ (v)) :=
  ⟨(put14 w3 g1 s u v h.z).1, Chg.below h.bel (put14 w3 g1 s u v h.z).2 (fun i hi => hi ▸ h.h1) h.bel.size⟩
def closeR (s : Cel) : Cel := if s.state ≠ 2 ∧ s.state ≠ 5 then { s with state := 5 } else s
set_option maxHeartbeats 2000000 in
set_option maxRecDepth 100000 in
theorem close_at (w : World) (s : Cel) (A B : Option Addr) (n c m d : Nat) : Calls Tryd.prog 38 #[agg s (.slice A n c) (.slice B m d)] w fun e w' => e = .returned (.tuple #[agg (closeR s) (.slice A n c) (.slice B m d), .int .i64 (closeE s)]) ∧ Below w.heap.size w w' := by
  unfold closeR closeE
  by_cases hs : s.state ≠ 2 ∧ s.state ≠ 5
  · rw [if_pos hs, if_pos hs]
    have b2 : (s.state == 2) = false := by simpa using hs.1
    have b5 : (s.state == 5) = false := by simpa using hs.2
    clear hs
    unfold agg Cel.cells
    go_enter Tryd.func38, Tryd.ntmps38
    go_upto_region 1 with fail
    obtain ⟨w3, g0, g1, e3, e0, e1, hB⟩ : ∃ w3 g0 g1, w3 = (w.alloc (.cells #[.bool s.again, .int .i64 s.tries, .int .i64 s.base, .int .i64 s.factor, .int .i64 s.cap, .int .i64 s.state, .int .i64 s.gen, .int .i64 s.task, .int .i64 s.fails, .int .i64 s.next, .int .i64 s.last, .int .i64 s.kind, (.slice A n c), (.slice B m d)] 56)).alloc (.cells #[.bool false, .int .i64 0, .int .i64 0, .int .i64 0, .int .i64 0, .int .i64 0, .int .i64 0, .int .i64 0, .int .i64 0, .int .i64 0, .int .i64 0, .int .i64 0, .slice none 0 0, .slice none 0 0] 56) ∧ g0 = w.heap.size ∧ g1 = w.heap.size + 1 ∧ B2 w w3 g0 g1 s (.slice A n c) (.slice B m d) := ⟨_, _, _, rfl, rfl, rfl, B2.mk2 w s (.slice A n c) (.slice B m d)⟩
    rw [← e3, ← e1, ← e0]
    have HB := Lib.hid hB
    obtain ⟨a0, a1, a2, a3, a4, a5, a6, a7, a8, a9, a10, a11, a12, a13, af⟩ := hB.c.facts
    obtain ⟨b0, b1, b2, b3, b4, b5, b6, b7, b8, b9, b10, b11, b12, b13, bf⟩ := hB.facts
    have hne := hB.ne
    have hne2 := Ne.symm hB.ne
    clear e3 e0 e1 hB
    have HE := Lib.hid (show B2 w (w3.setCell ⟨g0, 5, none⟩ (.int .i64 5)) g0 g1 { s with state := 5 } (.slice A n c) (.slice B m d) from HB.out.set ((Chg.refl (· = g0) w3).setCell (p := ⟨g0, 5, none⟩) rfl _) ((blk_set HB.out.c 5 _).trans rfl))
    go_wp2_with fail
    have HP := Lib.hid (HE.out.put)
    refine bodyPost_ret (results_ct rfl _ _ g1 56 ({ s with state := 5 : Cel }.cells (.slice A n c) (.slice B m d)) (0, 0) _ rfl HP.out.1 Tryd.underlying56 rfl (by kernel_rfl)) rfl ?_
    exact ⟨rfl, HP.out.2⟩
  · rw [if_neg hs, if_neg hs]
    have hs' : s.state = 2 ∨ s.state = 5 := by omega
    have HO := Lib.hid hs'
    clear hs hs'
    unfold agg Cel.cells
    go_enter Tryd.func38, Tryd.ntmps38
    go_upto_region 1 with fail
    obtain ⟨w3, g0, g1, e3, e0, e1, hB⟩ : ∃ w3 g0 g1, w3 = (w.alloc (.cells #[.bool s.again, .int .i64 s.tries, .int .i64 s.base, .int .i64 s.factor, .int .i64 s.cap, .int .i64 s.state, .int .i64 s.gen, .int .i64 s.task, .int .i64 s.fails, .int .i64 s.next, .int .i64 s.last, .int .i64 s.kind, (.slice A n c), (.slice B m d)] 56)).alloc (.cells #[.bool false, .int .i64 0, .int .i64 0, .int .i64 0, .int .i64 0, .int .i64 0, .int .i64 0, .int .i64 0, .int .i64 0, .int .i64 0, .int .i64 0, .int .i64 0, .slice none 0 0, .slice none 0 0] 56) ∧ g0 = w.heap.size ∧ g1 = w.heap.size + 1 ∧ B2 w w3 g0 g1 s (.slice A n c) (.slice B m d) := ⟨_, _, _, rfl, rfl, rfl, B2.mk2 w s (.slice A n c) (.slice B m d)⟩
    rw [← e3, ← e1, ← e0]
    have HB := Lib.hid hB
    obtain ⟨a0, a1, a2, a3, a4, a5, a6, a7, a8, a9, a10, a11, a12, a13, af⟩ := hB.c.facts
    obtain ⟨b0, b1, b2, b3, b4, b5, b6, b7, b8, b9, b10, b11, b12, b13, bf⟩ := hB.facts
    have hne := hB.ne
    have hne2 := Ne.symm hB.ne
    clear e3 e0 e1 hB
    rcases HO.out with h2 | h5
    · have b2 : (s.state == 2) = true := by simpa using h2
      clear h2
      go_wp2_with fail
      have HP := Lib.hid (HB.out.put)
      refine bodyPost_ret (results_ct rfl _ _ g1 56 (s.cells (.slice A n c) (.slice B m d)) (0, 0) _ rfl HP.out.1 Tryd.underlying56 rfl (by kernel_rfl)) rfl ?_
      exact ⟨rfl, HP.out.2⟩
    · have b2 : (s.state == 2) = false := by rw [h5]; rfl
      have b5 : (s.state == 5) = true := by simpa using h5
      clear h5
      go_wp2_with fail
      have HP := Lib.hid (HB.out.put)
      refine bodyPost_ret (results_ct rfl _ _ g1 56 (s.cells (.slice A n c) (.slice B m d)) (0, 0) _ rfl HP.out.1 Tryd.underlying56 rfl (by kernel_rfl)) rfl ?_
      exact ⟨rfl, HP.out.2⟩
end Go.Proofs.YtchbammjcnhkiaaDoor.Ce
namespace Go.Proofs.YtchbammjcnhkiaaDoor.Ce
open Go.RowKit Go.Maps Go.Proofs.YtchbammjcnhkiaaDoor Go.Proofs.YtchbammjcnhkiaaDoorW.PrintWords Go.Proofs.YtchbammjcnhkiaaDoorW.PrintLast Go.Proofs.YtchbammjcnhkiaaDoorW.PrintMore PCellPlays
attribute [local go_sem] max2_int min2_int max_two min_two max_three min_three
def badB (s : Cel) (t : Int) : Bool := decide (t < s.last) || decide (1099511627776 < t)
theorem bad_now {s : Cel} (h : 0 ≤ s.last) (t : Int) : badB s t = !nowB s t := by
  have e : nowB s t = decide (okAt t ∧ s.last ≤ t) := by unfold nowB; rw [Bool.decide_and]
  have e2 : badB s t = decide (¬ (okAt t ∧ s.last ≤ t)) := by
    unfold badB
    rw [← Bool.decide_or]
    exact decide_eq_decide.2 (by unfold okAt; omega)
  rw [e, e2, decide_not]
theorem bad_be (w : World) (s : Cel) (A B : Option Addr) (n c m d : Nat) (t : Int) {r : Bool} (h : badB s t = r) : Calls Tryd.prog 51 #[agg s (.slice A n c) (.slice B m d), .int .i64 t] w fun e w' => e = .returned (.bool r) ∧ Below w.heap.size w w' := h ▸ bad_at w s A B n c m d t
def idledR (s : Cel) (t : Int) : Cel := { s with state := 1, fails := 0, next := 0, last := t, kind := 0 }
set_option maxHeartbeats 2000000 in
set_option maxRecDepth 100000 in
theorem reset_bad (w : World) (s : Cel) (A B : Option Addr) (n c m d : Nat) (t : Int) (hb : badB s t = true) : Calls Tryd.prog 37 #[agg s (.slice A n c) (.slice B m d), .int .i64 t] w fun e w' => e = .returned (.tuple #[agg s (.slice A n c) (.slice B m d), .int .i64 1]) ∧ Below w.heap.size w w' := by
  have HD := Lib.hid hb
  clear hb
  unfold agg Cel.cells
  go_enter Tryd.func37, Tryd.ntmps37
  go_upto_region 1 with fail
  obtain ⟨w3, g0, g1, e3, e0, e1, hB⟩ : ∃ w3 g0 g1, w3 = (w.alloc (.cells #[.bool s.again, .int .i64 s.tries, .int .i64 s.base, .int .i64 s.factor, .int .i64 s.cap, .int .i64 s.state, .int .i64 s.gen, .int .i64 s.task, .int .i64 s.fails, .int .i64 s.next, .int .i64 s.last, .int .i64 s.kind, (.slice A n c), (.slice B m d)] 56)).alloc (.cells #[.bool false, .int .i64 0, .int .i64 0, .int .i64 0, .int .i64 0, .int .i64 0, .int .i64 0, .int .i64 0, .int .i64 0, .int .i64 0, .int .i64 0, .int .i64 0, .slice none 0 0, .slice none 0 0] 56) ∧ g0 = w.heap.size ∧ g1 = w.heap.size + 1 ∧ B2 w w3 g0 g1 s (.slice A n c) (.slice B m d) := ⟨_, _, _, rfl, rfl, rfl, B2.mk2 w s (.slice A n c) (.slice B m d)⟩
  rw [← e3, ← e1, ← e0]
  have HB := Lib.hid hB
  obtain ⟨a0, a1, a2, a3, a4, a5, a6, a7, a8, a9, a10, a11, a12, a13, af⟩ := hB.c.facts
  obtain ⟨b0, b1, b2, b3, b4, b5, b6, b7, b8, b9, b10, b11, b12, b13, bf⟩ := hB.facts
  have hne := hB.ne
  have hne2 := Ne.symm hB.ne
  clear e3 e0 e1 hB
  go_wp2_with fail
  refine (bad_be _ s A B n c m d t HD.out).mono ?_
  rintro _ w4 ⟨rfl, hb4⟩
  have HB4 := Lib.hid (HB.out.below hb4)
  clear a0 a1 a2 a3 a4 a5 a6 a7 a8 a9 a10 a11 a12 a13 af b0 b1 b2 b3 b4 b5 b6 b7 b8 b9 b10 b11 b12 b13 bf hb4
  obtain ⟨a0, a1, a2, a3, a4, a5, a6, a7, a8, a9, a10, a11, a12, a13, af⟩ := HB4.out.c.facts
  obtain ⟨b0, b1, b2, b3, b4, b5, b6, b7, b8, b9, b10, b11, b12, b13, bf⟩ := HB4.out.facts
  go_wp2_with fail
  have HP := Lib.hid (HB4.out.put)
  refine bodyPost_ret (results_ct rfl _ _ g1 56 (s.cells (.slice A n c) (.slice B m d)) (0, 0) _ rfl HP.out.1 Tryd.underlying56 rfl (by kernel_rfl)) rfl ?_
  exact ⟨rfl, HP.out.2⟩
set_option maxHeartbeats 2000000 in
set_option maxRecDepth 100000 in
theorem reset_not (w : World) (s : Cel) (A B : Option Addr) (n c m d : Nat) (t : Int) (hb : badB s t = false) (hs : (s.state == 2) = true ∨ ((s.state == 2) = false ∧ (s.state == 5) = true)) : Calls Tryd.prog 37 #[agg s (.slice A n c) (.slice B m d), .int .i64 t] w fun e w' => e = .returned (.tuple #[agg s (.slice A n c) (.slice B m d), .int .i64 7]) ∧ Below w.heap.size w w' := by
  have HD := Lib.hid hb
  have HO := Lib.hid hs
  clear hb hs
  unfold agg Cel.cells
  go_enter Tryd.func37, Tryd.ntmps37
  go_upto_region 1 with fail
  obtain ⟨w3, g0, g1, e3, e0, e1, hB⟩ : ∃ w3 g0 g1, w3 = (w.alloc (.cells #[.bool s.again, .int .i64 s.tries, .int .i64 s.base, .int .i64 s.factor, .int .i64 s.cap, .int .i64 s.state, .int .i64 s.gen, .int .i64 s.task, .int .i64 s.fails, .int .i64 s.next, .int .i64 s.last, .int .i64 s.kind, (.slice A n c), (.slice B m d)] 56)).alloc (.cells #[.bool false, .int .i64 0, .int .i64 0, .int .i64 0, .int .i64 0, .int .i64 0, .int .i64 0, .int .i64 0, .int .i64 0, .int .i64 0, .int .i64 0, .int .i64 0, .slice none 0 0, .slice none 0 0] 56) ∧ g0 = w.heap.size ∧ g1 = w.heap.size + 1 ∧ B2 w w3 g0 g1 s (.slice A n c) (.slice B m d) := ⟨_, _, _, rfl, rfl, rfl, B2.mk2 w s (.slice A n c) (.slice B m d)⟩
  rw [← e3, ← e1, ← e0]
  have HB := Lib.hid hB
  obtain ⟨a0, a1, a2, a3, a4, a5, a6, a7, a8, a9, a10, a11, a12, a13, af⟩ := hB.c.facts
  obtain ⟨b0, b1, b2, b3, b4, b5, b6, b7, b8, b9, b10, b11, b12, b13, bf⟩ := hB.facts
  have hne := hB.ne
  have hne2 := Ne.symm hB.ne
  clear e3 e0 e1 hB
  go_wp2_with fail
  refine (bad_be _ s A B n c m d t HD.out).mono ?_
  rintro _ w4 ⟨rfl, hb4⟩
  have HB4 := Lib.hid (HB.out.below hb4)
  clear a0 a1 a2 a3 a4 a5 a6 a7 a8 a9 a10 a11 a12 a13 af b0 b1 b2 b3 b4 b5 b6 b7 b8 b9 b10 b11 b12 b13 bf hb4
  obtain ⟨a0, a1, a2, a3, a4, a5, a6, a7, a8, a9, a10, a11, a12, a13, af⟩ := HB4.out.c.facts
  obtain ⟨b0, b1, b2, b3, b4, b5, b6, b7, b8, b9, b10, b11, b12, b13, bf⟩ := HB4.out.facts
  rcases HO.out with b2 | ⟨b2, b5⟩
  · go_wp2_with fail
    have HP := Lib.hid (HB4.out.put)
    refine bodyPost_ret (results_ct rfl _ _ g1 56 (s.cells (.slice A n c) (.slice B m d)) (0, 0) _ rfl HP.out.1 Tryd.underlying56 rfl (by kernel_rfl)) rfl ?_
    exact ⟨rfl, HP.out.2⟩
  · go_wp2_with fail
    have HP := Lib.hid (HB4.out.put)
    refine bodyPost_ret (results_ct rfl _ _ g1 56 (s.cells (.slice A n c) (.slice B m d)) (0, 0) _ rfl HP.out.1 Tryd.underlying56 rfl (by kernel_rfl)) rfl ?_
    exact ⟨rfl, HP.out.2⟩
set_option maxHeartbeats 2000000 in
set_option maxRecDepth 100000 in
theorem reset_one (w : World) (s : Cel) (A B : Option Addr) (n c m d : Nat) (t : Int) (hb : badB s t = false) (b2 : (s.state == 2) = false) (b5 : (s.state == 5) = false) (ha : s.again = false) : Calls Tryd.prog 37 #[agg s (.slice A n c) (.slice B m d), .int .i64 t] w fun e w' => e = .returned (.tuple #[agg s (.slice A n c) (.slice B m d), .int .i64 7]) ∧ Below w.heap.size w w' := by
  obtain ⟨ag, tr, ba, fa, ca, st, ge, ta, fl, nx, la, ki⟩ := s
  dsimp only at ha b2 b5
  subst ha
  have HD := Lib.hid hb
  clear hb
  unfold agg Cel.cells
  dsimp only
  go_enter Tryd.func37, Tryd.ntmps37
  go_upto_region 1 with fail
  obtain ⟨w3, g0, g1, e3, e0, e1, hB⟩ : ∃ w3 g0 g1, w3 = (w.alloc (.cells #[.bool false, .int .i64 tr, .int .i64 ba, .int .i64 fa, .int .i64 ca, .int .i64 st, .int .i64 ge, .int .i64 ta, .int .i64 fl, .int .i64 nx, .int .i64 la, .int .i64 ki, (.slice A n c), (.slice B m d)] 56)).alloc (.cells #[.bool false, .int .i64 0, .int .i64 0, .int .i64 0, .int .i64 0, .int .i64 0, .int .i64 0, .int .i64 0, .int .i64 0, .int .i64 0, .int .i64 0, .int .i64 0, .slice none 0 0, .slice none 0 0] 56) ∧ g0 = w.heap.size ∧ g1 = w.heap.size + 1 ∧ B2 w w3 g0 g1 ⟨false, tr, ba, fa, ca, st, ge, ta, fl, nx, la, ki⟩ (.slice A n c) (.slice B m d) := ⟨_, _, _, rfl, rfl, rfl, B2.mk2 w ⟨false, tr, ba, fa, ca, st, ge, ta, fl, nx, la, ki⟩ (.slice A n c) (.slice B m d)⟩
  rw [← e3, ← e1, ← e0]
  have HB := Lib.hid hB
  have ff := hB.c.facts
  dsimp only at ff
  obtain ⟨a0, a1, a2, a3, a4, a5, a6, a7, a8, a9, a10, a11, a12, a13, af⟩ := ff
  obtain ⟨b0, b1, b2, b3, b4, b5, b6, b7, b8, b9, b10, b11, b12, b13, bf⟩ := hB.facts
  have hne := hB.ne
  have hne2 := Ne.symm hB.ne
  clear e3 e0 e1 hB
  go_wp2_with fail
  refine (bad_be _ ⟨false, tr, ba, fa, ca, st, ge, ta, fl, nx, la, ki⟩ A B n c m d t HD.out).mono ?_
  rintro _ w4 ⟨rfl, hb4⟩
  have HB4 := Lib.hid (HB.out.below hb4)
  clear a0 a1 a2 a3 a4 a5 a6 a7 a8 a9 a10 a11 a12 a13 af b0 b1 b2 b3 b4 b5 b6 b7 b8 b9 b10 b11 b12 b13 bf hb4
  have ff := HB4.out.c.facts
  dsimp only at ff
  obtain ⟨a0, a1, a2, a3, a4, a5, a6, a7, a8, a9, a10, a11, a12, a13, af⟩ := ff
  obtain ⟨b0, b1, b2, b3, b4, b5, b6, b7, b8, b9, b10, b11, b12, b13, bf⟩ := HB4.out.facts
  have hp := HB4.out.put
  dsimp only at hp
  have HP := Lib.hid hp
  clear hp
  go_wp2_with fail
  refine bodyPost_ret (results_ct rfl _ _ g1 56 _ (0, 0) _ rfl HP.out.1 Tryd.underlying56 rfl (by kernel_rfl)) rfl ?_
  exact ⟨rfl, HP.out.2⟩
set_option maxHeartbeats 4000000 in
set_option maxRecDepth 100000 in
theorem reset_good (w : World) (s : Cel) (A B : Option Addr) (n c m d : Nat) (t : Int) (hb : badB s t = false) (b2 : (s.state == 2) = false) (b5 : (s.state == 5) = false) (ha : s.again = true) : Calls Tryd.prog 37 #[agg s (.slice A n c) (.slice B m d), .int .i64 t] w fun e w' => e = .returned (.tuple #[agg (idledR s t) (.slice none 0 0) (.slice none 0 0), .int .i64 0]) ∧ Below w.heap.size w w' := by
  obtain ⟨ag, tr, ba, fa, ca, st, ge, ta, fl, nx, la, ki⟩ := s
  dsimp only at ha b2 b5
  subst ha
  unfold idledR
  dsimp only
  have HD := Lib.hid hb
  clear hb
  unfold agg Cel.cells
  dsimp only
  go_enter Tryd.func37, Tryd.ntmps37
  go_upto_region 1 with fail
  obtain ⟨w3, g0, g1, e3, e0, e1, hB⟩ : ∃ w3 g0 g1, w3 = (w.alloc (.cells #[.bool true, .int .i64 tr, .int .i64 ba, .int .i64 fa, .int .i64 ca, .int .i64 st, .int .i64 ge, .int .i64 ta, .int .i64 fl, .int .i64 nx, .int .i64 la, .int .i64 ki, (.slice A n c), (.slice B m d)] 56)).alloc (.cells #[.bool false, .int .i64 0, .int .i64 0, .int .i64 0, .int .i64 0, .int .i64 0, .int .i64 0, .int .i64 0, .int .i64 0, .int .i64 0, .int .i64 0, .int .i64 0, .slice none 0 0, .slice none 0 0] 56) ∧ g0 = w.heap.size ∧ g1 = w.heap.size + 1 ∧ B2 w w3 g0 g1 ⟨true, tr, ba, fa, ca, st, ge, ta, fl, nx, la, ki⟩ (.slice A n c) (.slice B m d) := ⟨_, _, _, rfl, rfl, rfl, B2.mk2 w ⟨true, tr, ba, fa, ca, st, ge, ta, fl, nx, la, ki⟩ (.slice A n c) (.slice B m d)⟩
  rw [← e3, ← e1, ← e0]
  have HB := Lib.hid hB
  have ff := hB.c.facts
  dsimp only at ff
  obtain ⟨a0, a1, a2, a3, a4, a5, a6, a7, a8, a9, a10, a11, a12, a13, af⟩ := ff
  obtain ⟨b0, b1, b2, b3, b4, b5, b6, b7, b8, b9, b10, b11, b12, b13, bf⟩ := hB.facts
  have hne := hB.ne
  have hne2 := Ne.symm hB.ne
  clear e3 e0 e1 hB
  go_wp2_with fail
  refine (bad_be _ ⟨true, tr, ba, fa, ca, st, ge, ta, fl, nx, la, ki⟩ A B n c m d t HD.out).mono ?_
  rintro _ w4 ⟨rfl, hb4⟩
  have HB4 := Lib.hid (HB.out.below hb4)
  clear a0 a1 a2 a3 a4 a5 a6 a7 a8 a9 a10 a11 a12 a13 af b0 b1 b2 b3 b4 b5 b6 b7 b8 b9 b10 b11 b12 b13 bf hb4
  have ff := HB4.out.c.facts
  dsimp only at ff
  obtain ⟨a0, a1, a2, a3, a4, a5, a6, a7, a8, a9, a10, a11, a12, a13, af⟩ := ff
  obtain ⟨b0, b1, b2, b3, b4, b5, b6, b7, b8, b9, b10, b11, b12, b13, bf⟩ := HB4.out.facts
  have HE := Lib.hid (show B2 w (((((((w4.setCell ⟨g0, 5, none⟩ (.int .i64 1)).setCell ⟨g0, 8, none⟩ (.int .i64 0)).setCell ⟨g0, 9, none⟩ (.int .i64 0)).setCell ⟨g0, 10, none⟩ (.int .i64 t)).setCell ⟨g0, 11, none⟩ (.int .i64 0)).setCell ⟨g0, 12, none⟩ (.slice none 0 0)).setCell ⟨g0, 13, none⟩ (.slice none 0 0)) g0 g1 ⟨true, tr, ba, fa, ca, 1, ge, ta, 0, 0, t, 0⟩ (.slice none 0 0) (.slice none 0 0) from by
    refine HB4.out.set ((((((((Chg.refl (· = g0) w4).setCell (p := ⟨g0, 5, none⟩) rfl _).setCell (p := ⟨g0, 8, none⟩) rfl _).setCell (p := ⟨g0, 9, none⟩) rfl _).setCell (p := ⟨g0, 10, none⟩) rfl _).setCell (p := ⟨g0, 11, none⟩) rfl _).setCell (p := ⟨g0, 12, none⟩) rfl _).setCell (p := ⟨g0, 13, none⟩) rfl _) ?_
    refine Eq.trans (blk_set (blk_set (blk_set (blk_set (blk_set (blk_set (blk_set HB4.out.c 5 (.int .i64 1)) 8 (.int .i64 0)) 9 (.int .i64 0)) 10 (.int .i64 t)) 11 (.int .i64 0)) 12 (.slice none 0 0)) 13 (.slice none 0 0)) ?_
    simp [Cel.cells])
  have hp := HE.out.put
  dsimp only at hp
  have HP := Lib.hid hp
  clear hp
  go_wp2_with fail
  refine bodyPost_ret (results_ct rfl _ _ g1 56 _ (0, 0) _ rfl HP.out.1 Tryd.underlying56 rfl (by kernel_rfl)) rfl ?_
  exact ⟨rfl, HP.out.2⟩
end Go.Proofs.YtchbammjcnhkiaaDoor.Ce
namespace Go.Proofs.YtchbammjcnhkiaaDoor.Ce
open Go.RowKit Go.Maps Go.Proofs.YtchbammjcnhkiaaDoor Go.Proofs.YtchbammjcnhkiaaDoorW.PrintWords Go.Proofs.YtchbammjcnhkiaaDoorW.PrintLast Go.Proofs.YtchbammjcnhkiaaDoorW.PrintMore PCellPlays
attribute [local go_sem] max2_int min2_int max_two min_two max_three min_three
set_option maxHeartbeats 2000000 in
set_option maxRecDepth 100000 in
theorem askr_low (w : World) (s : Cel) (A B : Option Addr) (n c m d : Nat) (t : Int) (ht : ¬ okAt t) : Calls Tryd.prog 40 #[agg s (.slice A n c) (.slice B m d), .int .i64 t] w fun e w' => e = .returned (.int .i64 0) ∧ Below w.heap.size w w' := by
  unfold okAt at ht
  unfold agg Cel.cells
  by_cases h0 : t < 0
  · clear ht
    go_enter Tryd.func40, Tryd.ntmps40
    go_wp2
    go_ret
    exact ⟨rfl, (Below.refl _ _).alloc (Nat.le_refl _) _⟩
  · have h1 : 1099511627776 < t := by omega
    clear ht
    go_enter Tryd.func40, Tryd.ntmps40
    go_wp2
    go_ret
    exact ⟨rfl, (Below.refl _ _).alloc (Nat.le_refl _) _⟩
set_option maxHeartbeats 2000000 in
set_option maxRecDepth 100000 in
theorem askr_flat (w : World) (s : Cel) (A B : Option Addr) (n c m d : Nat) (t r : Int) (ht : okAt t) (hs : ((s.state == 1) = true ∧ r = 1) ∨ ((s.state == 1) = false ∧ (s.state == 2) = true ∧ r = 2) ∨ ((s.state == 1) = false ∧ (s.state == 2) = false ∧ (s.state == 5) = true ∧ r = 4)) : Calls Tryd.prog 40 #[agg s (.slice A n c) (.slice B m d), .int .i64 t] w fun e w' => e = .returned (.int .i64 r) ∧ Below w.heap.size w w' := by
  have h0 : ¬ t < 0 := by have := ht.1; omega
  have h1 : ¬ 1099511627776 < t := by have := ht.2; omega
  clear ht
  unfold agg Cel.cells
  rcases hs with ⟨b1, rfl⟩ | ⟨b1, b2, rfl⟩ | ⟨b1, b2, b5, rfl⟩
  · go_enter Tryd.func40, Tryd.ntmps40
    go_wp2
    go_ret
    exact ⟨rfl, (Below.refl _ _).alloc (Nat.le_refl _) _⟩
  · go_enter Tryd.func40, Tryd.ntmps40
    go_wp2
    go_ret
    exact ⟨rfl, (Below.refl _ _).alloc (Nat.le_refl _) _⟩
  · go_enter Tryd.func40, Tryd.ntmps40
    go_wp2
    go_ret
    exact ⟨rfl, (Below.refl _ _).alloc (Nat.le_refl _) _⟩
set_option maxHeartbeats 2000000 in
set_option maxRecDepth 100000 in
theorem askr_due (w : World) (s : Cel) (A B : Option Addr) (n c m d : Nat) (t : Int) (ht : okAt t) (b1 : (s.state == 1) = false) (b2 : (s.state == 2) = false) (b5 : (s.state == 5) = false) : Calls Tryd.prog 40 #[agg s (.slice A n c) (.slice B m d), .int .i64 t] w fun e w' => e = .returned (.int .i64 (if mayB s = true ∧ s.next ≤ t then 1 else 3)) ∧ Below w.heap.size w w' := by
  have h0 : ¬ t < 0 := by have := ht.1; omega
  have h1 : ¬ 1099511627776 < t := by have := ht.2; omega
  clear ht
  cases hm : mayB s with
  | false =>
    rw [if_neg (by simp)]
    have HM := Lib.hid hm
    clear hm
    unfold agg Cel.cells
    go_enter Tryd.func40, Tryd.ntmps40
    go_wp2_with fail
    refine (due_be _ s A B n c m d HM.out).mono ?_
    rintro _ w1 ⟨rfl, hb⟩
    have HB := Lib.hid (below_via hb)
    clear hb
    go_wp2_with fail
    go_ret
    exact ⟨rfl, HB.out⟩
  | true =>
    have HM := Lib.hid hm
    clear hm
    by_cases hn : s.next ≤ t
    · rw [if_pos ⟨rfl, hn⟩]
      unfold agg Cel.cells
      go_enter Tryd.func40, Tryd.ntmps40
      go_wp2_with fail
      refine (due_be _ s A B n c m d HM.out).mono ?_
      rintro _ w1 ⟨rfl, hb⟩
      have HB := Lib.hid (below_via hb)
      have k9 := (blk_cell (blk_below (blk_new w _) hb) 9).trans rfl
      clear hb
      go_wp2_with fail
      go_ret
      exact ⟨rfl, HB.out⟩
    · rw [if_neg (fun h => hn h.2)]
      unfold agg Cel.cells
      go_enter Tryd.func40, Tryd.ntmps40
      go_wp2_with fail
      refine (due_be _ s A B n c m d HM.out).mono ?_
      rintro _ w1 ⟨rfl, hb⟩
      have HB := Lib.hid (below_via hb)
      have k9 := (blk_cell (blk_below (blk_new w _) hb) 9).trans rfl
      clear hb
      go_wp2_with fail
      go_ret
      exact ⟨rfl, HB.out⟩
theorem ask_at (w : World) (s : Cel) (A B : Option Addr) (n c m d : Nat) (t : Int) (hs : s.state = 1 ∨ s.state = 2 ∨ s.state = 3 ∨ s.state = 4 ∨ s.state = 5) : Calls Tryd.prog 40 #[agg s (.slice A n c) (.slice B m d), .int .i64 t] w fun e w' => e = .returned (.int .i64 (askB s t)) ∧ Below w.heap.size w w' := by
  unfold askB
  by_cases ht : okAt t
  · rw [if_pos ht]
    unfold meet
    rcases hs with h | h | h | h | h
    · rw [if_pos h]; exact askr_flat w s A B n c m d t 1 ht (.inl ⟨by rw [h]; rfl, rfl⟩)
    · rw [if_neg (by omega), if_pos h]; exact askr_flat w s A B n c m d t 2 ht (.inr (.inl ⟨by rw [h]; rfl, by rw [h]; rfl, rfl⟩))
    · rw [if_neg (by omega), if_neg (by omega), if_pos h]
      have hm : mayB s = false := by unfold mayB; rw [h]; rfl
      have := askr_due w s A B n c m d t ht (by rw [h]; rfl) (by rw [h]; rfl) (by rw [h]; rfl)
      rw [hm, if_neg (by simp)] at this
      exact this
    · rw [if_neg (by omega), if_neg (by omega), if_neg (by omega), if_pos h]
      exact askr_due w s A B n c m d t ht (by rw [h]; rfl) (by rw [h]; rfl) (by rw [h]; rfl)
    · rw [if_neg (by omega), if_neg (by omega), if_neg (by omega), if_neg (by omega)]
      exact askr_flat w s A B n c m d t 4 ht (.inr (.inr ⟨by rw [h]; rfl, by rw [h]; rfl, by rw [h]; rfl, rfl⟩))
  · rw [if_neg ht]; exact askr_low w s A B n c m d t ht
structure T3 (w w3 : World) (g0 g1 g2 : Nat) (s : Cel) (u v : Value) : Prop where
  c : Bx w3 g0 s u v
  z : w3.heap[g1]? = some (.cells #[.int .i64 0, .int .i64 0, .int .i64 0, .int .i64 0, .int .i64 0] 48 (0, 0))
  t : w3.heap[g2]? = some (.cells #[.int .i64 s.state, .int .i64 s.gen, .int .i64 s.task, .int .i64 s.fails, .int .i64 0] 48 (0, 0))
  n1 : g1 ≠ g2
  h1 : w.heap.size ≤ g1
  h2 : w.heap.size ≤ g2
  bel : Below w.heap.size w w3
theorem T3.mk3 (w : World) (s : Cel) (u v : Value) : T3 w (((w.alloc (.cells (s.cells u v) 56)).alloc (.cells #[.int .i64 0, .int .i64 0, .int .i64 0, .int .i64 0, .int .i64 0] 48)).alloc (.cells #[.int .i64 s.state, .int .i64 s.gen, .int .i64 s.task, .int .i64 s.fails, .int .i64 0] 48)) w.heap.size (w.heap.size + 1) (w.heap.size + 2) s u v := by
  refine ⟨blk_alloc (blk_alloc (blk_new _ _) _) _, ?_, ?_, by omega, by omega, by omega, (((Below.refl _ _).alloc (Nat.le_refl _) _).alloc (by simp only [World.size_alloc]; omega) _).alloc (by simp only [World.size_alloc]; omega) _⟩
  · have := blk_new (w.alloc (.cells (s.cells u v) 56)) (.cells #[.int .i64 0, .int .i64 0, .int .i64 0, .int .i64 0, .int .i64 0] 48)
    rw [show (w.alloc (.cells (s.cells u v) 56)).heap.size = w.heap.size + 1 by simp] at this
    exact blk_alloc this _
  · have := blk_new ((w.alloc (.cells (s.cells u v) 56)).alloc (.cells #[.int .i64 0, .int .i64 0, .int .i64 0, .int .i64 0, .int .i64 0] 48)) (.cells #[.int .i64 s.state, .int .i64 s.gen, .int .i64 s.task, .int .i64 s.fails, .int .i64 0] 48)
    rwa [show ((w.alloc (.cells (s.cells u v) 56)).alloc (.cells #[.int .i64 0, .int .i64 0, .int .i64 0, .int .i64 0, .int .i64 0] 48)).heap.size = w.heap.size + 2 by simp] at this
theorem T3.below {w w3 w4 : World} {g0 g1 g2 : Nat} {s : Cel} {u v : Value} (h : T3 w w3 g0 g1 g2 s u v) (hb : Below w3.heap.size w3 w4) : T3 w w4 g0 g1 g2 s u v := ⟨blk_below h.c hb, blk_below h.z hb, blk_below h.t hb, h.n1, h.h1, h.h2, below_step h.bel hb⟩
/-- What the document's cell tells. -/
def toldR (s : Cel) : Value := .agg #[.int .i64 s.state, .int .i64 s.gen, .int .i64 s.task, .int .i64 s.fails, .int .i64 (if mayB s = true then s.next else 0)]
set_option maxHeartbeats 4000000 in
set_option maxRecDepth 100000 in
theorem told_at (w : World) (s : Cel) (A B : Option Addr) (n c m d : Nat) : Calls Tryd.prog 39 #[agg s (.slice A n c) (.slice B m d)] w fun e w' => e = .returned (toldR s) ∧ Below w.heap.size w w' := by
  unfold toldR
  cases hm : mayB s with
  | false =>
    rw [if_neg (by simp)]
    have HM := Lib.hid hm
    clear hm
    unfold agg Cel.cells
    go_enter Tryd.func39, Tryd.ntmps39
    go_upto_region 2 with fail
    obtain ⟨w3, g0, g1, g2, e3, e0, e1, e2, hB⟩ : ∃ w3 g0 g1 g2, w3 = ((w.alloc (.cells #[.bool s.again, .int .i64 s.tries, .int .i64 s.base, .int .i64 s.factor, .int .i64 s.cap, .int .i64 s.state, .int .i64 s.gen, .int .i64 s.task, .int .i64 s.fails, .int .i64 s.next, .int .i64 s.last, .int .i64 s.kind, (.slice A n c), (.slice B m d)] 56)).alloc (.cells #[.int .i64 0, .int .i64 0, .int .i64 0, .int .i64 0, .int .i64 0] 48)).alloc (.cells #[.int .i64 s.state, .int .i64 s.gen, .int .i64 s.task, .int .i64 s.fails, .int .i64 0] 48) ∧ g0 = w.heap.size ∧ g1 = w.heap.size + 1 ∧ g2 = w.heap.size + 2 ∧ T3 w w3 g0 g1 g2 s (.slice A n c) (.slice B m d) := ⟨_, _, _, _, rfl, rfl, rfl, rfl, T3.mk3 w s (.slice A n c) (.slice B m d)⟩
    rw [← e3, ← e2, ← e1, ← e0]
    have H3 := Lib.hid hB
    obtain ⟨a0, a1, a2, a3, a4, a5, a6, a7, a8, a9, a10, a11, a12, a13, af⟩ := hB.c.facts
    clear e3 e0 e1 e2 hB
    go_wp2_with fail
    refine (due_be _ s A B n c m d HM.out).mono ?_
    rintro _ w4 ⟨rfl, hb⟩
    have H4 := Lib.hid (H3.out.below hb)
    clear a0 a1 a2 a3 a4 a5 a6 a7 a8 a9 a10 a11 a12 a13 af hb
    have k9 := H4.out.c.facts.2.2.2.2.2.2.2.2.2.1
    have t0 := (blk_cell H4.out.t 0).trans rfl
    have t1 := (blk_cell H4.out.t 1).trans rfl
    have t2 := (blk_cell H4.out.t 2).trans rfl
    have t3 := (blk_cell H4.out.t 3).trans rfl
    have t4 := (blk_cell H4.out.t 4).trans rfl
    have tf := blk_frozen H4.out.t
    have z0 := (blk_cell H4.out.z 0).trans rfl
    have z1 := (blk_cell H4.out.z 1).trans rfl
    have z2 := (blk_cell H4.out.z 2).trans rfl
    have z3 := (blk_cell H4.out.z 3).trans rfl
    have z4 := (blk_cell H4.out.z 4).trans rfl
    have zf := blk_frozen H4.out.z
    have hne := H4.out.n1
    have hne2 := Ne.symm hne
    have HP := Lib.hid (show (((((w4.setCell ⟨g1, 0, none⟩ (.int .i64 s.state)).setCell ⟨g1, 1, none⟩ (.int .i64 s.gen)).setCell ⟨g1, 2, none⟩ (.int .i64 s.task)).setCell ⟨g1, 3, none⟩ (.int .i64 s.fails)).setCell ⟨g1, 4, none⟩ (.int .i64 0)).heap[g1]? = some (.cells #[.int .i64 s.state, .int .i64 s.gen, .int .i64 s.task, .int .i64 s.fails, .int .i64 0] 48 (0, 0)) ∧ Below w.heap.size w (((((w4.setCell ⟨g1, 0, none⟩ (.int .i64 s.state)).setCell ⟨g1, 1, none⟩ (.int .i64 s.gen)).setCell ⟨g1, 2, none⟩ (.int .i64 s.task)).setCell ⟨g1, 3, none⟩ (.int .i64 s.fails)).setCell ⟨g1, 4, none⟩ (.int .i64 0)) from
      ⟨(blk_set (blk_set (blk_set (blk_set (blk_set (H4.out.z) 0 _) 1 _) 2 _) 3 _) 4 _).trans rfl, Chg.below H4.out.bel (((((((Chg.refl (fun k => k = g1 ∨ k = g2) w4)).setCell (p := ⟨g1, 0, none⟩) (.inl rfl) _).setCell (p := ⟨g1, 1, none⟩) (.inl rfl) _).setCell (p := ⟨g1, 2, none⟩) (.inl rfl) _).setCell (p := ⟨g1, 3, none⟩) (.inl rfl) _).setCell (p := ⟨g1, 4, none⟩) (.inl rfl) _) (fun i hi => by have := H4.out.h1; have := H4.out.h2; omega) H4.out.bel.size⟩)
    go_wp2_with fail
    refine bodyPost_ret (results_single (r := .cell 2 48) rfl (.cell g1 48 #[.int .i64 s.state, .int .i64 s.gen, .int .i64 s.task, .int .i64 s.fails, .int .i64 0] (0, 0) _ rfl HP.out.1 Tryd.underlying48 rfl (by kernel_rfl) .nil)) rfl ?_
    exact ⟨rfl, HP.out.2⟩
  | true =>
    rw [if_pos rfl]
    have HM := Lib.hid hm
    clear hm
    unfold agg Cel.cells
    go_enter Tryd.func39, Tryd.ntmps39
    go_upto_region 2 with fail
    obtain ⟨w3, g0, g1, g2, e3, e0, e1, e2, hB⟩ : ∃ w3 g0 g1 g2, w3 = ((w.alloc (.cells #[.bool s.again, .int .i64 s.tries, .int .i64 s.base, .int .i64 s.factor, .int .i64 s.cap, .int .i64 s.state, .int .i64 s.gen, .int .i64 s.task, .int .i64 s.fails, .int .i64 s.next, .int .i64 s.last, .int .i64 s.kind, (.slice A n c), (.slice B m d)] 56)).alloc (.cells #[.int .i64 0, .int .i64 0, .int .i64 0, .int .i64 0, .int .i64 0] 48)).alloc (.cells #[.int .i64 s.state, .int .i64 s.gen, .int .i64 s.task, .int .i64 s.fails, .int .i64 0] 48) ∧ g0 = w.heap.size ∧ g1 = w.heap.size + 1 ∧ g2 = w.heap.size + 2 ∧ T3 w w3 g0 g1 g2 s (.slice A n c) (.slice B m d) := ⟨_, _, _, _, rfl, rfl, rfl, rfl, T3.mk3 w s (.slice A n c) (.slice B m d)⟩
    rw [← e3, ← e2, ← e1, ← e0]
    have H3 := Lib.hid hB
    obtain ⟨a0, a1, a2, a3, a4, a5, a6, a7, a8, a9, a10, a11, a12, a13, af⟩ := hB.c.facts
    clear e3 e0 e1 e2 hB
    go_wp2_with fail
    refine (due_be _ s A B n c m d HM.out).mono ?_
    rintro _ w4 ⟨rfl, hb⟩
    have H4 := Lib.hid (H3.out.below hb)
    clear a0 a1 a2 a3 a4 a5 a6 a7 a8 a9 a10 a11 a12 a13 af hb
    have k9 := H4.out.c.facts.2.2.2.2.2.2.2.2.2.1
    have t0 := (blk_cell H4.out.t 0).trans rfl
    have t1 := (blk_cell H4.out.t 1).trans rfl
    have t2 := (blk_cell H4.out.t 2).trans rfl
    have t3 := (blk_cell H4.out.t 3).trans rfl
    have t4 := (blk_cell H4.out.t 4).trans rfl
    have tf := blk_frozen H4.out.t
    have z0 := (blk_cell H4.out.z 0).trans rfl
    have z1 := (blk_cell H4.out.z 1).trans rfl
    have z2 := (blk_cell H4.out.z 2).trans rfl
    have z3 := (blk_cell H4.out.z 3).trans rfl
    have z4 := (blk_cell H4.out.z 4).trans rfl
    have zf := blk_frozen H4.out.z
    have hne := H4.out.n1
    have hne2 := Ne.symm hne
    have HP := Lib.hid (show ((((((w4.setCell ⟨g2, 4, none⟩ (.int .i64 s.next)).setCell ⟨g1, 0, none⟩ (.int .i64 s.state)).setCell ⟨g1, 1, none⟩ (.int .i64 s.gen)).setCell ⟨g1, 2, none⟩ (.int .i64 s.task)).setCell ⟨g1, 3, none⟩ (.int .i64 s.fails)).setCell ⟨g1, 4, none⟩ (.int .i64 s.next)).heap[g1]? = some (.cells #[.int .i64 s.state, .int .i64 s.gen, .int .i64 s.task, .int .i64 s.fails, .int .i64 s.next] 48 (0, 0)) ∧ Below w.heap.size w ((((((w4.setCell ⟨g2, 4, none⟩ (.int .i64 s.next)).setCell ⟨g1, 0, none⟩ (.int .i64 s.state)).setCell ⟨g1, 1, none⟩ (.int .i64 s.gen)).setCell ⟨g1, 2, none⟩ (.int .i64 s.task)).setCell ⟨g1, 3, none⟩ (.int .i64 s.fails)).setCell ⟨g1, 4, none⟩ (.int .i64 s.next)) from
      ⟨(blk_set (blk_set (blk_set (blk_set (blk_set ((Below.heap_setCell _ _ _ _ H4.out.n1).trans H4.out.z) 0 _) 1 _) 2 _) 3 _) 4 _).trans rfl, Chg.below H4.out.bel (((((((Chg.refl (fun k => k = g1 ∨ k = g2) w4).setCell (p := ⟨g2, 4, none⟩) (.inr rfl) _).setCell (p := ⟨g1, 0, none⟩) (.inl rfl) _).setCell (p := ⟨g1, 1, none⟩) (.inl rfl) _).setCell (p := ⟨g1, 2, none⟩) (.inl rfl) _).setCell (p := ⟨g1, 3, none⟩) (.inl rfl) _).setCell (p := ⟨g1, 4, none⟩) (.inl rfl) _) (fun i hi => by have := H4.out.h1; have := H4.out.h2; omega) H4.out.bel.size⟩)
    go_wp2_with fail
    refine bodyPost_ret (results_single (r := .cell 2 48) rfl (.cell g1 48 #[.int .i64 s.state, .int .i64 s.gen, .int .i64 s.task, .int .i64 s.fails, .int .i64 s.next] (0, 0) _ rfl HP.out.1 Tryd.underlying48 rfl (by kernel_rfl) .nil)) rfl ?_
    exact ⟨rfl, HP.out.2⟩
end Go.Proofs.YtchbammjcnhkiaaDoor.Ce
namespace Go.Proofs.YtchbammjcnhkiaaDoor.Ce
open Go.RowKit Go.Maps Go.Proofs.YtchbammjcnhkiaaDoor Go.Proofs.YtchbammjcnhkiaaDoorW.PrintWords Go.Proofs.YtchbammjcnhkiaaDoorW.PrintLast Go.Proofs.YtchbammjcnhkiaaDoorW.PrintMore PCellPlays
attribute [local go_sem] max2_int min2_int max_two min_two max_three min_three
structure O2 (w w3 : World) (g0 g1 : Nat) (s : Cel) (u v : Value) : Prop where
  c : Bx w3 g0 s u v
  z : w3.heap[g1]? = some (.cells #[.int .i64 0, .slice none 0 0, .slice none 0 0] 37 (0, 0))
  ne : g0 ≠ g1
  h1 : w.heap.size ≤ g1
  bel : Below w.heap.size w w3
theorem O2.mk2 (w : World) (s : Cel) (u v : Value) : O2 w ((w.alloc (.cells (s.cells u v) 56)).alloc (.cells #[.int .i64 0, .slice none 0 0, .slice none 0 0] 37)) w.heap.size (w.heap.size + 1) s u v := by
  refine ⟨blk_alloc (blk_new _ _) _, ?_, by omega, by omega, ((Below.refl _ _).alloc (Nat.le_refl _) _).alloc (by simp) _⟩
  have := blk_new (w.alloc (.cells (s.cells u v) 56)) (.cells #[.int .i64 0, .slice none 0 0, .slice none 0 0] 37)
  rwa [show (w.alloc (.cells (s.cells u v) 56)).heap.size = w.heap.size + 1 by simp] at this
theorem O2.below {w w3 w4 : World} {g0 g1 : Nat} {s : Cel} {u v : Value} (h : O2 w w3 g0 g1 s u v) (hb : Below w3.heap.size w3 w4) : O2 w w4 g0 g1 s u v := ⟨blk_below h.c hb, blk_below h.z hb, h.ne, h.h1, below_step h.bel hb⟩
theorem O2.put {w w3 : World} {g0 g1 : Nat} {s : Cel} {u v : Value} (h : O2 w w3 g0 g1 s u v) (x y z : Value) : (((w3.setCell ⟨g1, 0, none⟩ x).setCell ⟨g1, 1, none⟩ y).setCell ⟨g1, 2, none⟩ z).heap[g1]? = some (.cells #[x, y, z] 37 (0, 0)) ∧ Chg (· = g1) w3 (((w3.setCell ⟨g1, 0, none⟩ x).setCell ⟨g1, 1, none⟩ y).setCell ⟨g1, 2, none⟩ z) ∧ Below w.heap.size w (((w3.setCell ⟨g1, 0, none⟩ x).setCell ⟨g1, 1, none⟩ y).setCell ⟨g1, 2, none⟩ z) := by
  have hc : Chg (· = g1) w3 (((w3.setCell ⟨g1, 0, none⟩ x).setCell ⟨g1, 1, none⟩ y).setCell ⟨g1, 2, none⟩ z) := (((Chg.refl (· = g1) w3).setCell (p := ⟨g1, 0, none⟩) rfl _).setCell (p := ⟨g1, 1, none⟩) rfl _).setCell (p := ⟨g1, 2, none⟩) rfl _
  exact ⟨(blk_set (blk_set (blk_set h.z 0 x) 1 y) 2 z).trans rfl, hc, Chg.below h.bel hc (fun i hi => hi ▸ h.h1) h.bel.size⟩
set_option maxHeartbeats 2000000 in
set_option maxRecDepth 100000 in
theorem outcome_at (w : World) (s : Cel) (A B : Option Addr) (c d : Nat) (l : List S80) (m : List S64) (hp : Put w A B c d l m) : Calls Tryd.prog 41 #[agg s (.slice A l.length c) (.slice B m.length d)] w fun e w' => ∃ A' B' c' d', e = .returned (.tuple #[.agg #[.int .i64 s.kind, .slice A' (outL s l).length c', .slice B' (outF s m).length d'], .int .i64 (outE s)]) ∧ Told w w' A' B' c' d' (outL s l) (outF s m) ∧ Below w.heap.size w w' := by
  have HPP := Lib.hid hp
  clear hp
  unfold outL outF outE agg Cel.cells
  by_cases hk : s.kind = 0
  · rw [if_pos hk, if_pos hk, if_pos hk]
    have hkb : (s.kind == 0) = true := by simpa using hk
    have HK := Lib.hid hk
    clear hk
    go_enter Tryd.func41, Tryd.ntmps41
    go_upto_region 1 with fail
    obtain ⟨w3, g0, g1, e3, e0, e1, hB⟩ : ∃ w3 g0 g1, w3 = (w.alloc (.cells #[.bool s.again, .int .i64 s.tries, .int .i64 s.base, .int .i64 s.factor, .int .i64 s.cap, .int .i64 s.state, .int .i64 s.gen, .int .i64 s.task, .int .i64 s.fails, .int .i64 s.next, .int .i64 s.last, .int .i64 s.kind, (.slice A l.length c), (.slice B m.length d)] 56)).alloc (.cells #[.int .i64 0, .slice none 0 0, .slice none 0 0] 37) ∧ g0 = w.heap.size ∧ g1 = w.heap.size + 1 ∧ O2 w w3 g0 g1 s (.slice A l.length c) (.slice B m.length d) := ⟨_, _, _, rfl, rfl, rfl, O2.mk2 w s (.slice A l.length c) (.slice B m.length d)⟩
    rw [← e3, ← e1, ← e0]
    have HB := Lib.hid hB
    obtain ⟨a0, a1, a2, a3, a4, a5, a6, a7, a8, a9, a10, a11, a12, a13, af⟩ := hB.c.facts
    have b0 := (blk_cell hB.z 0).trans rfl
    have b1 := (blk_cell hB.z 1).trans rfl
    have b2 := (blk_cell hB.z 2).trans rfl
    have bf := blk_frozen hB.z
    have hne := hB.ne
    clear e3 e0 e1 hB
    go_wp2_with fail
    have HP := Lib.hid (HB.out.put (.int .i64 0) (.slice none 0 0) (.slice none 0 0))
    refine bodyPost_ret (results_ct rfl _ _ g1 37 #[.int .i64 0, .slice none 0 0, .slice none 0 0] (0, 0) _ rfl HP.out.1 Tryd.underlying37 rfl (by kernel_rfl)) rfl ?_
    exact ⟨none, none, 0, 0, by rw [HK.out]; rfl, ⟨Kd.R_nil _ _ _ _ _, Kd.R_nil _ _ _ _ _⟩, HP.out.2.2⟩
  · rw [if_neg hk, if_neg hk, if_neg hk]
    have hkb : (s.kind == 0) = false := by simpa using hk
    clear hk
    go_enter Tryd.func41, Tryd.ntmps41
    go_upto_region 1 with fail
    obtain ⟨w3, g0, g1, e3, e0, e1, hB⟩ : ∃ w3 g0 g1, w3 = (w.alloc (.cells #[.bool s.again, .int .i64 s.tries, .int .i64 s.base, .int .i64 s.factor, .int .i64 s.cap, .int .i64 s.state, .int .i64 s.gen, .int .i64 s.task, .int .i64 s.fails, .int .i64 s.next, .int .i64 s.last, .int .i64 s.kind, (.slice A l.length c), (.slice B m.length d)] 56)).alloc (.cells #[.int .i64 0, .slice none 0 0, .slice none 0 0] 37) ∧ g0 = w.heap.size ∧ g1 = w.heap.size + 1 ∧ O2 w w3 g0 g1 s (.slice A l.length c) (.slice B m.length d) := ⟨_, _, _, rfl, rfl, rfl, O2.mk2 w s (.slice A l.length c) (.slice B m.length d)⟩
    rw [← e3, ← e1, ← e0]
    have HB := Lib.hid hB
    obtain ⟨a0, a1, a2, a3, a4, a5, a6, a7, a8, a9, a10, a11, a12, a13, af⟩ := hB.c.facts
    have hne := hB.ne
    clear e3 e0 e1 hB
    go_wp2_with fail
    refine (copy_out _ s.kind A B c d l m (HPP.out.below HB.out.bel)).mono ?_
    rintro _ w4 ⟨A', B', c', d', rfl, -, hu, hv, hb⟩
    have HB4 := Lib.hid (HB.out.below hb)
    have HR := Lib.hid (And.intro (row_apart (w := w) (b := g1) hu (blk_lt HB.out.z) HB.out.bel.size) (row_apart (w := w) (b := g1) hv (blk_lt HB.out.z) HB.out.bel.size))
    clear a0 a1 a2 a3 a4 a5 a6 a7 a8 a9 a10 a11 a12 a13 af hu hv hb
    have b0 := (blk_cell HB4.out.z 0).trans rfl
    have b1 := (blk_cell HB4.out.z 1).trans rfl
    have b2 := (blk_cell HB4.out.z 2).trans rfl
    have bf := blk_frozen HB4.out.z
    go_wp2_with fail
    have HP := Lib.hid (HB4.out.put (.int .i64 s.kind) (.slice A' l.length c') (.slice B' m.length d'))
    refine bodyPost_ret (results_ct rfl _ _ g1 37 #[.int .i64 s.kind, .slice A' l.length c', .slice B' m.length d'] (0, 0) _ rfl HP.out.1 Tryd.underlying37 rfl (by kernel_rfl)) rfl ?_
    exact ⟨_, _, _, _, rfl, ⟨Kd.R_mono (Kd.R_step HR.out.1 (fun k ho hlt => HP.out.2.1.block k hlt ho)) (fun _ _ => trivial), Kd.R_mono (Kd.R_step HR.out.2 (fun k ho hlt => HP.out.2.1.block k hlt ho)) (fun _ _ => trivial)⟩, HP.out.2.2⟩
theorem policy_is (tr ba fa ca : Int) : oncewebref05_GoodPolicy.f tr ba fa ca = some (decide (polOk tr ba fa ca)) := by
  unfold oncewebref05_GoodPolicy.f polOk
  by_cases hz : tr = 0 ∧ ba = 0 ∧ fa = 0 ∧ ca = 0
  · obtain ⟨rfl, rfl, rfl, rfl⟩ := hz
    rfl
  · rw [if_neg (by simp; omega)]
    repeat' split
    all_goals
      refine congrArg some ?_
      first
        | (refine decide_eq_decide.2 ?_; omega)
        | (refine Eq.symm (decide_eq_false ?_); omega)
theorem newr_good (w : World) (a : Bool) (tr ba fa ca : Int) (h : polOk tr ba fa ca) : Calls Tryd.prog 19 #[.bool a, .agg #[.int .i64 tr, .int .i64 ba, .int .i64 fa, .int .i64 ca]] w fun e w' => ∃ u v, e = .returned (.tuple #[agg (freshC a tr ba fa ca) u v, .int .i64 0]) ∧ Kd.R k80 80 w' w.heap.size (fun _ => True) u [] ∧ Kd.R k64 64 w' w.heap.size (fun _ => True) v [] ∧ Below w.heap.size w w' := by
  refine oncewebref11_New.calls a tr ba fa ca a tr ba fa ca 1 0 0 0 0 0 0 [] [] 0 w ?_
  unfold oncewebref11_New.f
  rw [policy_is, Option.bind_some, decide_eq_true h, if_pos rfl]
theorem newr_bad (w : World) (a : Bool) (tr ba fa ca : Int) (h : ¬ polOk tr ba fa ca) : Calls Tryd.prog 19 #[.bool a, .agg #[.int .i64 tr, .int .i64 ba, .int .i64 fa, .int .i64 ca]] w fun e w' => ∃ u v, e = .returned (.tuple #[agg ⟨false, 0, 0, 0, 0, 0, 0, 0, 0, 0, 0, 0⟩ u v, .int .i64 50]) ∧ Kd.R k80 80 w' w.heap.size (fun _ => True) u [] ∧ Kd.R k64 64 w' w.heap.size (fun _ => True) v [] ∧ Below w.heap.size w w' := by
  refine oncewebref11_New.calls a tr ba fa ca false 0 0 0 0 0 0 0 0 0 0 0 [] [] 50 w ?_
  unfold oncewebref11_New.f
  rw [policy_is, Option.bind_some, decide_eq_false h, if_neg (by decide)]
end Go.Proofs.YtchbammjcnhkiaaDoor.Ce
