/- What End makes of a cell. -/
import Derived.Test.YtchbammjcnhkiaaDoorCk
namespace Go.Proofs.YtchbammjcnhkiaaDoor.Ce
open Go.RowKit Go.Maps Go.Proofs.YtchbammjcnhkiaaDoor Go.Proofs.YtchbammjcnhkiaaDoorW.PrintWords Go.Proofs.YtchbammjcnhkiaaDoorW.PrintLast Go.Proofs.YtchbammjcnhkiaaDoorW.PrintMore PCellPlays
attribute [local go_sem] max2_int min2_int max_two min_two max_three min_three
def readyC (s : Cel) (t : Int) : Cel := { s with state := 3, task := 0, last := t, kind := 1 }
def failC (s : Cel) (k t : Int) : Cel := { s with state := 4, task := 0, fails := s.fails + 1, last := t, kind := k }
def againC (s : Cel) (k t : Int) : Cel := { failC s k t with next := min (t + pauseB (failC s k t) (s.fails + 1)) 1099511627776 }
/-- An outcome that lies in memory, and the three variables beside it. -/
structure Put (w : World) (A B : Option Addr) (c d : Nat) (l : List S80) (m : List S64) : Prop where
  r1 : Kd.C k80 w A l.length l
  c1 : l.length ≤ c
  s1 : l.length * 40 ≤ 140737488351232
  r2 : Kd.C k64 w B m.length m
  c2 : m.length ≤ d
  s2 : m.length * 32 ≤ 140737488351232
  laid : Laid w
theorem Put.below {w w' : World} {A B : Option Addr} {c d : Nat} {l : List S80} {m : List S64} (h : Put w A B c d l m) (hb : Below w.heap.size w w') : Put w' A B c d l m :=
  ⟨Kd.C_below h.r1 hb, h.c1, h.s1, Kd.C_below h.r2 hb, h.c2, h.s2, h.laid.below hb⟩
theorem Put.right {w : World} {A B : Option Addr} {c d : Nat} {l : List S80} {m : List S64} (h : Put w A B c d l m) (k : Int) {r : Bool} (hr : rightB k l m = r) :
    Calls Tryd.prog 24 #[.agg #[.int .i64 k, .slice A l.length c, .slice B m.length d]] w fun e w' => e = .returned (.bool r) ∧ Below w.heap.size w w' := hr ▸ right_is w k A B c d l m h.r1 h.c1 h.r2 h.c2 h.laid
theorem Put.copied {w : World} {A B : Option Addr} {c d : Nat} {l : List S80} {m : List S64} (h : Put w A B c d l m) (k : Int) :
    Calls Tryd.prog 25 #[.agg #[.int .i64 k, .slice A l.length c, .slice B m.length d]] w fun e w' => ∃ u v, e = .returned (.agg #[.int .i64 k, u, v]) ∧ Kd.R k80 80 w' w.heap.size (fun _ => True) u l ∧ Kd.R k64 64 w' w.heap.size (fun _ => True) v m ∧ Below w.heap.size w w' := copied_is w k A B c d l m h.r1 (by have := h.s1; omega) h.r2 (by have := h.s2; omega)
abbrev EndC (w : World) (b : Nat) (task k : Int) (A B : Option Addr) (c d : Nat) (l : List S80) (m : List S64) (t r : Int) (Q : World → Prop) : Prop :=
  Calls Tryd.prog 11 #[.pointer (some ⟨b, 0, none⟩), .int .i64 task, .agg #[.int .i64 k, .slice A l.length c, .slice B m.length d], .int .i64 t] w fun e w' => e = .returned (.int .i64 r) ∧ Q w'
theorem end_low (w : World) (b : Nat) (task k : Int) (A B : Option Addr) (c d : Nat) (l : List S80) (m : List S64) (t : Int) (h : ¬ (0 ≤ task ∧ task < 128)) : EndC w b task k A B c d l m t 1 (fun w' => Below w.heap.size w w') := by
  by_cases h0 : task < 0
  · clear h
    unfold EndC
    go_enter Tryd.func11, Tryd.ntmps11
    go_wp2
    go_ret
    exact ⟨rfl, (Below.refl _ _).alloc (Nat.le_refl _) _⟩
  · have h1 : 128 ≤ task := by omega
    clear h
    unfold EndC
    go_enter Tryd.func11, Tryd.ntmps11
    go_wp2
    go_ret
    exact ⟨rfl, (Below.refl _ _).alloc (Nat.le_refl _) _⟩
theorem end_state (w : World) (b : Nat) (s : Cel) (u v : Value) (task k : Int) (A B : Option Addr) (c d : Nat) (l : List S80) (m : List S64) (t : Int) (h : At w b s u v) (h0 : 0 ≤ task) (h1 : task < 128) (hs : ¬ (s.state = 2 ∧ s.task = task)) : EndC w b task k A B c d l m t 7 (fun w' => Below w.heap.size w w') := by
  obtain ⟨-, -, -, -, -, f5, -, f7, -⟩ := At.facts (w := w.alloc (.cells #[.int .i64 k, .slice A l.length c, .slice B m.length d] 37)) (blk_alloc h _)
  have h0' : ¬ task < 0 := by omega
  have h1' : ¬ 128 ≤ task := by omega
  by_cases hs2 : s.state = 2
  · have hb : (s.task != task) = true := by simpa using fun e => hs ⟨hs2, e⟩
    rw [hs2] at f5
    clear h hs hs2
    unfold EndC
    go_enter Tryd.func11, Tryd.ntmps11
    go_wp2
    go_ret
    exact ⟨rfl, (Below.refl _ _).alloc (Nat.le_refl _) _⟩
  · have hb : (s.state != 2) = true := by simpa using hs2
    clear h hs hs2
    unfold EndC
    go_enter Tryd.func11, Tryd.ntmps11
    go_wp2
    go_ret
    exact ⟨rfl, (Below.refl _ _).alloc (Nat.le_refl _) _⟩
theorem end_bad (w : World) (b : Nat) (s : Cel) (u v : Value) (task k : Int) (A B : Option Addr) (c d : Nat) (l : List S80) (m : List S64) (t : Int) (h : At w b s u v) (hp : Put w A B c d l m) (h0 : 0 ≤ task) (h1 : task < 128) (hs : s.state = 2) (ht : s.task = task) (hr : rightB k l m = false) : EndC w b task k A B c d l m t 110 (fun w' => Below w.heap.size w w') := by
  obtain ⟨-, -, -, -, -, f5, -, f7, -⟩ := At.facts (w := w.alloc (.cells #[.int .i64 k, .slice A l.length c, .slice B m.length d] 37)) (blk_alloc h _)
  have h0' : ¬ task < 0 := by omega
  have h1' : ¬ 128 ≤ task := by omega
  have HP := Lib.hid (hp.below ((Below.refl w.heap.size w).alloc (Nat.le_refl _) (.cells #[.int .i64 k, .slice A l.length c, .slice B m.length d] 37)))
  have HR := Lib.hid hr
  rw [hs] at f5
  rw [ht] at f7
  clear h hp hs ht hr
  unfold EndC
  go_enter Tryd.func11, Tryd.ntmps11
  go_wp2_with (go_at_call 24; refine (HP.out.right k HR.out).mono ?_; rintro _ w2 ⟨rfl, hb⟩; have HB := Lib.hid (below_via hb); clear hb)
  go_ret
  exact ⟨rfl, HB.out⟩
theorem end_late (w : World) (b : Nat) (s : Cel) (u v : Value) (task k : Int) (A B : Option Addr) (c d : Nat) (l : List S80) (m : List S64) (t : Int) (h : At w b s u v) (hp : Put w A B c d l m) (h0 : 0 ≤ task) (h1 : task < 128) (hs : s.state = 2) (ht : s.task = task) (hr : rightB k l m = true) (hn : nowB s t = false) : EndC w b task k A B c d l m t 1 (fun w' => Below w.heap.size w w') := by
  obtain ⟨-, -, -, -, -, f5, -, f7, -⟩ := At.facts (w := w.alloc (.cells #[.int .i64 k, .slice A l.length c, .slice B m.length d] 37)) (blk_alloc h _)
  have h0' : ¬ task < 0 := by omega
  have h1' : ¬ 128 ≤ task := by omega
  have HP := Lib.hid (hp.below ((Below.refl w.heap.size w).alloc (Nat.le_refl _) (.cells #[.int .i64 k, .slice A l.length c, .slice B m.length d] 37)))
  have HR := Lib.hid hr
  have HN := Lib.hid hn
  have HA := Lib.hid h
  rw [hs] at f5
  rw [ht] at f7
  clear h hp hs ht hr hn
  unfold EndC
  go_enter Tryd.func11, Tryd.ntmps11
  go_wp2_with (first | (go_at_call 24; refine (HP.out.right k HR.out).mono ?_; rintro _ w2 ⟨rfl, hb⟩; have HB := Lib.hid (below_via hb); clear hb) | (go_at_call 23; refine (now_is _ b s u v t (blk_below HA.out HB.out) HN.out).mono ?_; rintro _ w3 ⟨rfl, rfl⟩))
  go_ret
  exact ⟨rfl, HB.out⟩
/-- A cell with an outcome of its own. -/
def Owns (w : World) (b base : Nat) (s : Cel) (l : List S80) (m : List S64) : Prop := ∃ u v, At w b s u v ∧ Kd.R k80 80 w base (fun k => k ≠ b) u l ∧ Kd.R k64 64 w base (fun k => k ≠ b) v m
theorem Owns.chg {w w' : World} {b base : Nat} {s' : Cel} {u v : Value} {l : List S80} {m : List S64} (h1 : Kd.R k80 80 w base (fun k => k ≠ b) u l) (h2 : Kd.R k64 64 w base (fun k => k ≠ b) v m) (hc : Chg (· = b) w w') (ha : At w' b s' u v) : Owns w' b base s' l m :=
  ⟨u, v, ha, Kd.R_step h1 (fun k ho hlt => hc.block k hlt ho), Kd.R_step h2 (fun k ho hlt => hc.block k hlt ho)⟩
theorem row_apart {α : Type} {d : Kd α} {e b base : Nat} {w w2 : World} {v : Value} {xs : List α} (h : Kd.R d e w2 base (fun _ => True) v xs) (hb : b < base) (hl : w.heap.size ≤ base) : Kd.R d e w2 w.heap.size (fun k => k ≠ b) v xs :=
  Kd.R_lower (Kd.R_mono (Kd.R_bound h) (fun k hk => by have := hk.2.1; omega)) hl
theorem readyW_at (w4 : World) (b : Nat) (s : Cel) (u v : Value) (t : Int) (A1 A2 : Option Addr) (l : List S80) (m : List S64) (c1 c2 : Nat) (h4 : At w4 b s u v) : At ((((((w4.setCell ⟨b, 10, none⟩ (.int .i64 t)).setCell ⟨b, 11, none⟩ (.int .i64 1)).setCell ⟨b, 12, none⟩ (.slice A1 l.length c1)).setCell ⟨b, 13, none⟩ (.slice A2 m.length c2)).setCell ⟨b, 7, none⟩ (.int .i64 0)).setCell ⟨b, 5, none⟩ (.int .i64 3)) b (readyC s t) (.slice A1 l.length c1) (.slice A2 m.length c2) ∧ Chg (· = b) w4 ((((((w4.setCell ⟨b, 10, none⟩ (.int .i64 t)).setCell ⟨b, 11, none⟩ (.int .i64 1)).setCell ⟨b, 12, none⟩ (.slice A1 l.length c1)).setCell ⟨b, 13, none⟩ (.slice A2 m.length c2)).setCell ⟨b, 7, none⟩ (.int .i64 0)).setCell ⟨b, 5, none⟩ (.int .i64 3)) := by
  refine ⟨?_, (((((((Chg.refl (· = b) w4).setCell (p := ⟨b, 10, none⟩) rfl _).setCell (p := ⟨b, 11, none⟩) rfl _).setCell (p := ⟨b, 12, none⟩) rfl _).setCell (p := ⟨b, 13, none⟩) rfl _).setCell (p := ⟨b, 7, none⟩) rfl _).setCell (p := ⟨b, 5, none⟩) rfl _)⟩
  refine Eq.trans (blk_set (blk_set (blk_set (blk_set (blk_set (blk_set h4 10 (.int .i64 t)) 11 (.int .i64 1)) 12 (.slice A1 l.length c1)) 13 (.slice A2 m.length c2)) 7 (.int .i64 0)) 5 (.int .i64 3)) ?_
  simp [Cel.cells, readyC]
theorem failW_at (w4 : World) (b : Nat) (s : Cel) (u v : Value) (t k : Int) (A1 A2 : Option Addr) (l : List S80) (m : List S64) (c1 c2 : Nat) (h4 : At w4 b s u v) : At (((((((w4.setCell ⟨b, 10, none⟩ (.int .i64 t)).setCell ⟨b, 11, none⟩ (.int .i64 k)).setCell ⟨b, 12, none⟩ (.slice A1 l.length c1)).setCell ⟨b, 13, none⟩ (.slice A2 m.length c2)).setCell ⟨b, 7, none⟩ (.int .i64 0)).setCell ⟨b, 5, none⟩ (.int .i64 4)).setCell ⟨b, 8, none⟩ (.int .i64 (s.fails + 1))) b (failC s k t) (.slice A1 l.length c1) (.slice A2 m.length c2) ∧ Chg (· = b) w4 (((((((w4.setCell ⟨b, 10, none⟩ (.int .i64 t)).setCell ⟨b, 11, none⟩ (.int .i64 k)).setCell ⟨b, 12, none⟩ (.slice A1 l.length c1)).setCell ⟨b, 13, none⟩ (.slice A2 m.length c2)).setCell ⟨b, 7, none⟩ (.int .i64 0)).setCell ⟨b, 5, none⟩ (.int .i64 4)).setCell ⟨b, 8, none⟩ (.int .i64 (s.fails + 1))) := by
  refine ⟨?_, ((((((((Chg.refl (· = b) w4).setCell (p := ⟨b, 10, none⟩) rfl _).setCell (p := ⟨b, 11, none⟩) rfl _).setCell (p := ⟨b, 12, none⟩) rfl _).setCell (p := ⟨b, 13, none⟩) rfl _).setCell (p := ⟨b, 7, none⟩) rfl _).setCell (p := ⟨b, 5, none⟩) rfl _).setCell (p := ⟨b, 8, none⟩) rfl _)⟩
  refine Eq.trans (blk_set (blk_set (blk_set (blk_set (blk_set (blk_set (blk_set h4 10 (.int .i64 t)) 11 (.int .i64 k)) 12 (.slice A1 l.length c1)) 13 (.slice A2 m.length c2)) 7 (.int .i64 0)) 5 (.int .i64 4)) 8 (.int .i64 (s.fails + 1))) ?_
  simp [Cel.cells, failC]
set_option maxHeartbeats 1000000 in
set_option maxRecDepth 100000 in
theorem end_ready (w : World) (b : Nat) (s : Cel) (u v : Value) (task : Int) (A B : Option Addr) (c d : Nat) (l : List S80) (m : List S64) (t : Int) (h : At w b s u v) (hp : Put w A B c d l m) (h0 : 0 ≤ task) (h1 : task < 128) (hs : s.state = 2) (ht : s.task = task) (hr : rightB 1 l m = true) (hn : nowB s t = true) : EndC w b task 1 A B c d l m t 0 (fun w' => Chg (· = b) w w' ∧ Owns w' b w.heap.size (readyC s t) l m) := by
  obtain ⟨-, -, -, -, -, f5, -, f7, -⟩ := At.facts (w := w.alloc (.cells #[.int .i64 1, .slice A l.length c, .slice B m.length d] 37)) (blk_alloc h _)
  have h0' : ¬ task < 0 := by omega
  have h1' : ¬ 128 ≤ task := by omega
  have hbl := blk_lt h
  have HP := Lib.hid (hp.below ((Below.refl w.heap.size w).alloc (Nat.le_refl _) (.cells #[.int .i64 1, .slice A l.length c, .slice B m.length d] 37)))
  have HP0 := Lib.hid hp
  have HR := Lib.hid hr
  have HN := Lib.hid hn
  have HA := Lib.hid h
  rw [hs] at f5
  rw [ht] at f7
  clear h hp hs ht hr hn
  unfold EndC
  go_enter Tryd.func11, Tryd.ntmps11
  go_wp2_with (first | (go_at_call 24; refine (HP.out.right 1 HR.out).mono ?_; rintro _ w2 ⟨rfl, hb⟩; have kb := blk_below (blk_new w _) hb; have HKB := Lib.hid kb; have k0 := (blk_cell kb 0).trans rfl; have k1 := (blk_cell kb 1).trans rfl; have k2 := (blk_cell kb 2).trans rfl; have HB := Lib.hid (below_via hb); clear hb kb) | (go_at_call 23; refine (now_is _ b s u v t (blk_below HA.out HB.out) HN.out).mono ?_; rintro _ w3 ⟨rfl, rfl⟩) | (go_at_call 25; refine ((HP0.out.below HB.out).copied 1).mono ?_; rintro _ w4 ⟨u2, v2, rfl, hu, hv, hb4⟩; obtain ⟨A1, c1, rfl⟩ := Kd.R_slice hu; obtain ⟨A2, c2, rfl⟩ := Kd.R_slice hv; have HU := Lib.hid (And.intro (row_apart (w := w) (b := b) hu (Nat.lt_of_lt_of_le hbl HB.out.size) HB.out.size) (row_apart (w := w) (b := b) hv (Nat.lt_of_lt_of_le hbl HB.out.size) HB.out.size)); have HB4 := Lib.hid (below_step HB.out hb4); have k3 := (blk_cell (blk_below HKB.out hb4) 0).trans rfl; have HA4 := Lib.hid (show At w4 b s u v from blk_below (blk_below HA.out HB.out) hb4); have hne : w.heap.size ≠ b := Nat.ne_of_gt hbl; obtain ⟨g0, g1, g2, g3, g4, g5, g6, g7, g8, g9, g10, g11, g12, g13, gf⟩ := HA4.out.facts; clear hu hv hb4; have HE := Lib.hid (readyW_at w4 b s u v t A1 A2 l m c1 c2 HA4.out)))
  go_ret
  exact ⟨rfl, (Chg.of_below HB4.out).trans HE.out.2, Owns.chg HU.out.1 HU.out.2 HE.out.2 HE.out.1⟩
set_option maxHeartbeats 1000000 in
set_option maxRecDepth 100000 in
theorem end_fail (w : World) (b : Nat) (s : Cel) (u v : Value) (task k : Int) (A B : Option Addr) (c d : Nat) (l : List S80) (m : List S64) (t : Int) (h : At w b s u v) (hp : Put w A B c d l m) (h0 : 0 ≤ task) (h1 : task < 128) (hs : s.state = 2) (ht : s.task = task) (hk : k ≠ 1) (hr : rightB k l m = true) (hn : nowB s t = true) (hf0 : 0 ≤ s.fails) (hf1 : s.fails < 1000) (hm : mayB (failC s k t) = false) : EndC w b task k A B c d l m t 0 (fun w' => Chg (· = b) w w' ∧ Owns w' b w.heap.size (failC s k t) l m) := by
  obtain ⟨-, -, -, -, -, f5, -, f7, -⟩ := At.facts (w := w.alloc (.cells #[.int .i64 k, .slice A l.length c, .slice B m.length d] 37)) (blk_alloc h _)
  have h0' : ¬ task < 0 := by omega
  have h1' : ¬ 128 ≤ task := by omega
  have hbl := blk_lt h
  have HP := Lib.hid (hp.below ((Below.refl w.heap.size w).alloc (Nat.le_refl _) (.cells #[.int .i64 k, .slice A l.length c, .slice B m.length d] 37)))
  have HP0 := Lib.hid hp
  have HR := Lib.hid hr
  have HN := Lib.hid hn
  have HA := Lib.hid h
  rw [hs] at f5
  rw [ht] at f7
  have hkb : (k == 1) = false := by simpa using hk
  have hfw : wrap64 (s.fails + 1) = s.fails + 1 := by rw [← i64_w, IntWalk.i64_in _ (by omega)]
  have HM := Lib.hid hm
  have HFB := Lib.hid (And.intro hf0 hf1)
  clear hk hf0 hf1 hm
  clear h hp hs ht hr hn
  unfold EndC
  go_enter Tryd.func11, Tryd.ntmps11
  go_wp2_with (first | (go_at_call 24; refine (HP.out.right k HR.out).mono ?_; rintro _ w2 ⟨rfl, hb⟩; have kb := blk_below (blk_new w _) hb; have HKB := Lib.hid kb; have k0 := (blk_cell kb 0).trans rfl; have k1 := (blk_cell kb 1).trans rfl; have k2 := (blk_cell kb 2).trans rfl; have HB := Lib.hid (below_via hb); clear hb kb) | (go_at_call 23; refine (now_is _ b s u v t (blk_below HA.out HB.out) HN.out).mono ?_; rintro _ w3 ⟨rfl, rfl⟩) | (go_at_call 25; refine ((HP0.out.below HB.out).copied k).mono ?_; rintro _ w4 ⟨u2, v2, rfl, hu, hv, hb4⟩; obtain ⟨A1, c1, rfl⟩ := Kd.R_slice hu; obtain ⟨A2, c2, rfl⟩ := Kd.R_slice hv; have HU := Lib.hid (And.intro (row_apart (w := w) (b := b) hu (Nat.lt_of_lt_of_le hbl HB.out.size) HB.out.size) (row_apart (w := w) (b := b) hv (Nat.lt_of_lt_of_le hbl HB.out.size) HB.out.size)); have HB4 := Lib.hid (below_step HB.out hb4); have k3 := (blk_cell (blk_below HKB.out hb4) 0).trans rfl; have HA4 := Lib.hid (show At w4 b s u v from blk_below (blk_below HA.out HB.out) hb4); have hne : w.heap.size ≠ b := Nat.ne_of_gt hbl; obtain ⟨g0, g1, g2, g3, g4, g5, g6, g7, g8, g9, g10, g11, g12, g13, gf⟩ := HA4.out.facts; clear hu hv hb4; have HE := Lib.hid (failW_at w4 b s u v t k A1 A2 l m c1 c2 HA4.out)) | (go_at_call 26; refine (may_is _ b (failC s k t) _ _ HE.out.1 HM.out).mono ?_; rintro _ w5 ⟨rfl, n, rfl⟩))
  go_ret
  exact ⟨rfl, ((Chg.of_below HB4.out).trans HE.out.2).drewN _, Owns.chg HU.out.1 HU.out.2 (HE.out.2.drewN _) (HE.out.1.drewN _)⟩
theorem pause_be (w : World) (b : Nat) (s : Cel) (u v : Value) (f : Int) (h : At w b s u v) (hp : Pol s) (hf : 0 ≤ f) (hf2 : f ≤ 1000) {z : Int} (hz : pauseB s f = z) :
    Calls Tryd.prog 27 #[.pointer (some ⟨b, 0, none⟩), .int .i64 f] w fun e w' => e = .returned (.int .i64 z) ∧ ∃ n, w' = w.drewN n := hz ▸ pause_is w b s u v f h hp hf hf2
theorem now_ok {s : Cel} {t : Int} (h : nowB s t = true) : okAt t := by
  unfold nowB at h
  simp at h
  exact h.1
set_option maxHeartbeats 1000000 in
set_option maxRecDepth 100000 in
theorem end_again (w : World) (b : Nat) (s : Cel) (u v : Value) (task k : Int) (A B : Option Addr) (c d : Nat) (l : List S80) (m : List S64) (t : Int) (h : At w b s u v) (hp : Put w A B c d l m) (h0 : 0 ≤ task) (h1 : task < 128) (hs : s.state = 2) (ht : s.task = task) (hk : k ≠ 1) (hr : rightB k l m = true) (hn : nowB s t = true) (hf0 : 0 ≤ s.fails) (hf1 : s.fails < 1000) (hm : mayB (failC s k t) = true) (hpol : Pol s) : EndC w b task k A B c d l m t 0 (fun w' => Chg (· = b) w w' ∧ Owns w' b w.heap.size (againC s k t) l m) := by
  obtain ⟨-, -, -, -, -, f5, -, f7, -⟩ := At.facts (w := w.alloc (.cells #[.int .i64 k, .slice A l.length c, .slice B m.length d] 37)) (blk_alloc h _)
  have h0' : ¬ task < 0 := by omega
  have h1' : ¬ 128 ≤ task := by omega
  have hbl := blk_lt h
  have HP := Lib.hid (hp.below ((Below.refl w.heap.size w).alloc (Nat.le_refl _) (.cells #[.int .i64 k, .slice A l.length c, .slice B m.length d] 37)))
  have HP0 := Lib.hid hp
  have HR := Lib.hid hr
  have HN := Lib.hid hn
  have HA := Lib.hid h
  rw [hs] at f5
  rw [ht] at f7
  have hkb : (k == 1) = false := by simpa using hk
  have hfw : wrap64 (s.fails + 1) = s.fails + 1 := by rw [← i64_w, IntWalk.i64_in _ (by omega)]
  have HM := Lib.hid hm
  have HFB := Lib.hid (And.intro hf0 hf1)
  have HPOL := Lib.hid (show Pol (failC s k t) from ⟨hpol.b0, hpol.b1, hpol.c1, hpol.f0, hpol.f1⟩)
  have htt := now_ok hn
  have hz1 := pause_low HPOL.out (s.fails + 1)
  have hz2 : pauseB (failC s k t) (s.fails + 1) ≤ 1099511627776 := Int.le_trans (pause_high HPOL.out _) hpol.c1
  have HAG := Lib.hid (show ∀ x, x = min (t + pauseB (failC s k t) (s.fails + 1)) 1099511627776 → againC s k t = { failC s k t with next := x } from fun x hx => by rw [hx]; rfl)
  generalize hzz : pauseB (failC s k t) (s.fails + 1) = z at hz1 hz2 HAG
  have HZZ := Lib.hid hzz
  have hwz : wrap64 (t + z) = t + z := by have := htt.1; have := htt.2; rw [← i64_w, IntWalk.i64_in _ (by omega)]
  clear hk hf0 hf1 hm hpol hzz hz1 hz2 htt
  clear h hp hs ht hr hn
  unfold EndC
  go_enter Tryd.func11, Tryd.ntmps11
  go_wp2_with (first | (go_at_call 24; refine (HP.out.right k HR.out).mono ?_; rintro _ w2 ⟨rfl, hb⟩; have kb := blk_below (blk_new w _) hb; have HKB := Lib.hid kb; have k0 := (blk_cell kb 0).trans rfl; have k1 := (blk_cell kb 1).trans rfl; have k2 := (blk_cell kb 2).trans rfl; have HB := Lib.hid (below_via hb); clear hb kb) | (go_at_call 23; refine (now_is _ b s u v t (blk_below HA.out HB.out) HN.out).mono ?_; rintro _ w3 ⟨rfl, rfl⟩) | (go_at_call 25; refine ((HP0.out.below HB.out).copied k).mono ?_; rintro _ w4 ⟨u2, v2, rfl, hu, hv, hb4⟩; obtain ⟨A1, c1, rfl⟩ := Kd.R_slice hu; obtain ⟨A2, c2, rfl⟩ := Kd.R_slice hv; have HU := Lib.hid (And.intro (row_apart (w := w) (b := b) hu (Nat.lt_of_lt_of_le hbl HB.out.size) HB.out.size) (row_apart (w := w) (b := b) hv (Nat.lt_of_lt_of_le hbl HB.out.size) HB.out.size)); have HB4 := Lib.hid (below_step HB.out hb4); have k3 := (blk_cell (blk_below HKB.out hb4) 0).trans rfl; have HA4 := Lib.hid (show At w4 b s u v from blk_below (blk_below HA.out HB.out) hb4); have hne : w.heap.size ≠ b := Nat.ne_of_gt hbl; obtain ⟨g0, g1, g2, g3, g4, g5, g6, g7, g8, g9, g10, g11, g12, g13, gf⟩ := HA4.out.facts; clear hu hv hb4; have HE := Lib.hid (failW_at w4 b s u v t k A1 A2 l m c1 c2 HA4.out)))
  refine (may_is _ b (failC s k t) _ _ HE.out.1 HM.out).mono ?_
  rintro _ w5 ⟨rfl, n, rfl⟩
  obtain ⟨w6, e6, HG1⟩ : ∃ w6, w6 = (((((((w4.setCell ⟨b, 10, none⟩ (.int .i64 t)).setCell ⟨b, 11, none⟩ (.int .i64 k)).setCell ⟨b, 12, none⟩ (.slice A1 l.length c1)).setCell ⟨b, 13, none⟩ (.slice A2 m.length c2)).setCell ⟨b, 7, none⟩ (.int .i64 0)).setCell ⟨b, 5, none⟩ (.int .i64 4)).setCell ⟨b, 8, none⟩ (.int .i64 (s.fails + 1))).drewN n ∧ At w6 b (failC s k t) (.slice A1 l.length c1) (.slice A2 m.length c2) ∧ Chg (· = b) w4 w6 := ⟨_, rfl, HE.out.1.drewN n, HE.out.2.drewN n⟩
  rw [← e6]
  have HG := Lib.hid HG1
  clear e6 HE HG1 g0 g1 g2 g3 g4 g5 g6 g7 g8 g9 g10 g11 g12 g13 gf f5 f7 k0 k1 k2 k3
  obtain ⟨g0, g1, g2, g3, g4, g5, g6, g7, g8, g9, g10, g11, g12, g13, gf⟩ := HG.out.1.facts
  have e8 : (failC s k t).fails = s.fails + 1 := rfl
  rw [e8] at g8
  go_wp2_with fail
  refine (pause_be _ b (failC s k t) _ _ (s.fails + 1) HG.out.1 HPOL.out (by have := HFB.out; omega) (by have := HFB.out; omega) HZZ.out).mono ?_
  rintro _ w7 ⟨rfl, n2, rfl⟩
  go_wp2_with fail
  all_goals
    have HQ := Lib.hid (HG.out.2.drewN n2)
    go_ret
    refine ⟨rfl, (Chg.of_below HB4.out).trans (Chg.setCell HQ.out (p := ⟨b, 9, none⟩) rfl _), Owns.chg HU.out.1 HU.out.2 (Chg.setCell HQ.out (p := ⟨b, 9, none⟩) rfl _) ?_⟩
    rw [HAG.out _ (Eq.refl _)]
    refine Eq.trans (blk_set (HG.out.1.drewN n2) 9 _) ?_
    first
      | (rw [show min (t + z) 1099511627776 = 1099511627776 by omega]; rfl)
      | (rw [show min (t + z) 1099511627776 = t + z by omega]; rfl)
end Go.Proofs.YtchbammjcnhkiaaDoor.Ce
