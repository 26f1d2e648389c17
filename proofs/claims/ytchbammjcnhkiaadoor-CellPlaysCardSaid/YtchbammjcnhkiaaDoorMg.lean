/- The code's cell and the document's, one to the other; Clone. -/
import Derived.Test.YtchbammjcnhkiaaDoorMf
import Derived.Deep.Cut
import Derived.Test.YtchbammjcnhkiaaDoorCs
set_option linter.unusedVariables false
set_option linter.unusedSimpArgs false
namespace Go.Proofs.YtchbammjcnhkiaaDoor.Ce
open Go.RowKit Go.Maps Go.Proofs.YtchbammjcnhkiaaDoor Go.Proofs.YtchbammjcnhkiaaDoorW.PrintWords Go.Proofs.YtchbammjcnhkiaaDoorW.PrintLast Go.Proofs.YtchbammjcnhkiaaDoorW.PrintMore PCellPlays
attribute [local go_sem] max2_int min2_int max_two min_two max_three min_three
theorem now_of_bad {s : Cel} {t : Int} (h : badB s t = false) : s.last ≤ t ∧ t ≤ 1099511627776 := by
  unfold badB at h
  simp at h
  omega
/-- What the document's End makes of a cell. -/
def endR (s : Cel) (k t : Int) : Cel := if k = 1 then { s with state := 3, task := 0, last := t, kind := k } else { s with state := 4, task := 0, fails := s.fails + 1, next := min 1099511627776 (t + pauseB s (s.fails + 1)), last := t, kind := k }
theorem rows_apart {α : Type} {d : Kd α} {e g0 g1 base : Nat} {w w2 : World} {v : Value} {xs : List α} (h : Kd.R d e w2 base (fun _ => True) v xs) (h0 : g0 < base) (h1 : g1 < base) (hl : w.heap.size ≤ base) : Kd.R d e w2 w.heap.size (fun k => k ≠ g0 ∧ k ≠ g1) v xs :=
  Kd.R_lower (Kd.R_mono (Kd.R_bound h) (fun k hk => by have := hk.2.1; omega)) hl
theorem row_chg {α : Type} {d : Kd α} {e g0 g1 base : Nat} {w2 w3 : World} {v : Value} {xs : List α} (h : Kd.R d e w2 base (fun k => k ≠ g0 ∧ k ≠ g1) v xs) {S : Nat → Prop} (hc : Chg S w2 w3) (hs : ∀ k, S k → k = g0 ∨ k = g1) : Kd.R d e w3 base (fun k => k ≠ g0 ∧ k ≠ g1) v xs :=
  Kd.R_step h (fun k ho hlt => hc.block k hlt (fun s => by rcases hs k s with r | r; exact ho.1 r; exact ho.2 r))
set_option maxHeartbeats 4000000 in
set_option maxRecDepth 100000 in
theorem endr_ready (w : World) (s : Cel) (A B : Option Addr) (n c m d : Nat) (task k : Int) (A2 B2 : Option Addr) (c2 d2 : Nat) (vl : List S80) (fl : List S64) (t : Int) (hp : Put w A2 B2 c2 d2 vl fl) (h0 : 0 ≤ task) (h1 : task < 128) (hs : s.state = 2) (ht : s.task = task) (hg : rightB k vl fl = true) (hb : badB s t = false) (hk : k = 1) : EndR w s A B n c m d task k A2 B2 c2 d2 vl fl t fun e w' => ∃ A' B' c' d', e = .returned (.tuple #[agg (endR s k t) (.slice A' vl.length c') (.slice B' fl.length d'), .int .i64 0]) ∧ Kd.R k80 80 w' w.heap.size (fun _ => True) (.slice A' vl.length c') vl ∧ Kd.R k64 64 w' w.heap.size (fun _ => True) (.slice B' fl.length d') fl ∧ Below w.heap.size w w' := by
  have HPUT := Lib.hid hp
  have HG := Lib.hid hg
  have g0' : ¬ task < 0 := by omega
  have g1' : ¬ 128 ≤ task := by omega
  have hs1 : (s.state != 2) = false := by rw [hs]; rfl
  have hs2 : (s.task != task) = false := by rw [ht]; simp
  have HD := Lib.hid hb
  have hkb : (k != 1) = false := by rw [hk]; rfl
  have HKR := Lib.hid (show endR s k t = { s with state := 3, task := 0, last := t, kind := k } from if_pos hk)
  clear hp hg h0 h1 hs ht hb hk
  unfold EndR agg Cel.cells
  go_enter Tryd.func36, Tryd.ntmps36
  go_upto_region 1 with fail
  obtain ⟨w3, g0, g1, gO, e3, e0, e1, eO, hE⟩ : ∃ w3 g0 g1 gO, w3 = ((w.alloc (.cells #[.bool s.again, .int .i64 s.tries, .int .i64 s.base, .int .i64 s.factor, .int .i64 s.cap, .int .i64 s.state, .int .i64 s.gen, .int .i64 s.task, .int .i64 s.fails, .int .i64 s.next, .int .i64 s.last, .int .i64 s.kind, (.slice A n c), (.slice B m d)] 56)).alloc (.cells #[.int .i64 k, .slice A2 vl.length c2, .slice B2 fl.length d2] 37)).alloc (.cells #[.bool false, .int .i64 0, .int .i64 0, .int .i64 0, .int .i64 0, .int .i64 0, .int .i64 0, .int .i64 0, .int .i64 0, .int .i64 0, .int .i64 0, .int .i64 0, .slice none 0 0, .slice none 0 0] 56) ∧ g0 = w.heap.size ∧ g1 = w.heap.size + 2 ∧ gO = w.heap.size + 1 ∧ E3 w w3 g0 g1 gO s (.slice A n c) (.slice B m d) #[.int .i64 k, .slice A2 vl.length c2, .slice B2 fl.length d2] := ⟨_, _, _, _, rfl, rfl, rfl, rfl, E3.mk3 w s (.slice A n c) (.slice B m d) #[.int .i64 k, .slice A2 vl.length c2, .slice B2 fl.length d2]⟩
  rw [← e3, ← e1, ← eO, ← e0]
  have HE3 := Lib.hid hE
  clear e3 e0 e1 eO hE
  obtain ⟨a0, a1, a2, a3, a4, a5, a6, a7, a8, a9, a10, a11, a12, a13, af⟩ := HE3.out.b.c.facts
  obtain ⟨b0, b1, b2, b3, b4, b5, b6, b7, b8, b9, b10, b11, b12, b13, bf⟩ := HE3.out.b.facts
  have o0 := (blk_cell HE3.out.o 0).trans rfl
  have o1 := (blk_cell HE3.out.o 1).trans rfl
  have o2 := (blk_cell HE3.out.o 2).trans rfl
  have hne := HE3.out.b.ne
  have hne2 := Ne.symm hne
  go_wp2_with fail
  refine (good_be _ k A2 B2 c2 d2 vl fl (HPUT.out.below HE3.out.b.bel) HG.out).mono ?_
  rintro _ w4 ⟨rfl, hb4⟩
  have HE4 := Lib.hid (HE3.out.below hb4)
  clear a0 a1 a2 a3 a4 a5 a6 a7 a8 a9 a10 a11 a12 a13 af b0 b1 b2 b3 b4 b5 b6 b7 b8 b9 b10 b11 b12 b13 bf o0 o1 o2 hne hne2 hb4
  obtain ⟨a0, a1, a2, a3, a4, a5, a6, a7, a8, a9, a10, a11, a12, a13, af⟩ := HE4.out.b.c.facts
  obtain ⟨b0, b1, b2, b3, b4, b5, b6, b7, b8, b9, b10, b11, b12, b13, bf⟩ := HE4.out.b.facts
  have o0 := (blk_cell HE4.out.o 0).trans rfl
  have o1 := (blk_cell HE4.out.o 1).trans rfl
  have o2 := (blk_cell HE4.out.o 2).trans rfl
  have hne := HE4.out.b.ne
  have hne2 := Ne.symm hne
  go_wp2_with fail
  refine (bad_be _ s A B n c m d t HD.out).mono ?_
  rintro _ w5 ⟨rfl, hb5⟩
  have HE5 := Lib.hid (HE4.out.below hb5)
  clear a0 a1 a2 a3 a4 a5 a6 a7 a8 a9 a10 a11 a12 a13 af b0 b1 b2 b3 b4 b5 b6 b7 b8 b9 b10 b11 b12 b13 bf o0 o1 o2 hne hne2 hb5
  obtain ⟨a0, a1, a2, a3, a4, a5, a6, a7, a8, a9, a10, a11, a12, a13, af⟩ := HE5.out.b.c.facts
  obtain ⟨b0, b1, b2, b3, b4, b5, b6, b7, b8, b9, b10, b11, b12, b13, bf⟩ := HE5.out.b.facts
  have o0 := (blk_cell HE5.out.o 0).trans rfl
  have o1 := (blk_cell HE5.out.o 1).trans rfl
  have o2 := (blk_cell HE5.out.o 2).trans rfl
  have hne := HE5.out.b.ne
  have hne2 := Ne.symm hne
  go_wp2_with fail
  refine (copy_out _ k A2 B2 c2 d2 vl fl (HPUT.out.below HE5.out.b.bel)).mono ?_
  rintro _ w6 ⟨A', B', c', d', rfl, -, hu, hv, hb6⟩
  have HR6 := Lib.hid (And.intro (rows_apart (w := w) (g0 := g0) (g1 := g1) hu (blk_lt HE5.out.b.c) (blk_lt HE5.out.b.z) HE5.out.b.bel.size) (rows_apart (w := w) (g0 := g0) (g1 := g1) hv (blk_lt HE5.out.b.c) (blk_lt HE5.out.b.z) HE5.out.b.bel.size))
  have HE6 := Lib.hid (HE5.out.below hb6)
  clear a0 a1 a2 a3 a4 a5 a6 a7 a8 a9 a10 a11 a12 a13 af b0 b1 b2 b3 b4 b5 b6 b7 b8 b9 b10 b11 b12 b13 bf o0 o1 o2 hne hne2 hb6 hu hv
  obtain ⟨a0, a1, a2, a3, a4, a5, a6, a7, a8, a9, a10, a11, a12, a13, af⟩ := HE6.out.b.c.facts
  obtain ⟨b0, b1, b2, b3, b4, b5, b6, b7, b8, b9, b10, b11, b12, b13, bf⟩ := HE6.out.b.facts
  have o0 := (blk_cell HE6.out.o 0).trans rfl
  have o1 := (blk_cell HE6.out.o 1).trans rfl
  have o2 := (blk_cell HE6.out.o 2).trans rfl
  have hne := HE6.out.b.ne
  have hne2 := Ne.symm hne
  go_upto_region 10 with fail
  obtain ⟨w7, e7, hE7, hR7⟩ : ∃ w7, w7 = ((((((w6.setCell ⟨g0, 5, none⟩ (.int .i64 3)).setCell ⟨g0, 7, none⟩ (.int .i64 0)).setCell ⟨g0, 10, none⟩ (.int .i64 t)).setCell ⟨g0, 11, none⟩ (.int .i64 k)).setCell ⟨g0, 12, none⟩ (.slice A' vl.length c')).setCell ⟨g0, 13, none⟩ (.slice B' fl.length d')) ∧ E3 w w7 g0 g1 gO { s with state := 3, task := 0, last := t, kind := k } (.slice A' vl.length c') (.slice B' fl.length d') #[.int .i64 k, .slice A2 vl.length c2, .slice B2 fl.length d2] ∧ Chg (· = g0) w6 w7 := by
    have hc : Chg (· = g0) w6 ((((((w6.setCell ⟨g0, 5, none⟩ (.int .i64 3)).setCell ⟨g0, 7, none⟩ (.int .i64 0)).setCell ⟨g0, 10, none⟩ (.int .i64 t)).setCell ⟨g0, 11, none⟩ (.int .i64 k)).setCell ⟨g0, 12, none⟩ (.slice A' vl.length c')).setCell ⟨g0, 13, none⟩ (.slice B' fl.length d')) := ((((((Chg.refl (· = g0) w6).setCell (p := ⟨g0, 5, none⟩) rfl _).setCell (p := ⟨g0, 7, none⟩) rfl _).setCell (p := ⟨g0, 10, none⟩) rfl _).setCell (p := ⟨g0, 11, none⟩) rfl _).setCell (p := ⟨g0, 12, none⟩) rfl _).setCell (p := ⟨g0, 13, none⟩) rfl _
    refine ⟨_, rfl, HE6.out.set hc ?_, hc⟩
    refine Eq.trans (blk_set (blk_set (blk_set (blk_set (blk_set (blk_set HE6.out.b.c 5 (.int .i64 3)) 7 (.int .i64 0)) 10 (.int .i64 t)) 11 (.int .i64 k)) 12 (.slice A' vl.length c')) 13 (.slice B' fl.length d')) ?_
    simp [Cel.cells]
  rw [← e7]
  have HR7 := Lib.hid (And.intro (row_chg HR6.out.1 hR7 (fun k h => .inl h)) (row_chg HR6.out.2 hR7 (fun k h => .inl h)))
  have HE7 := Lib.hid hE7
  clear a0 a1 a2 a3 a4 a5 a6 a7 a8 a9 a10 a11 a12 a13 af b0 b1 b2 b3 b4 b5 b6 b7 b8 b9 b10 b11 b12 b13 bf o0 o1 o2 hne hne2 e7 hE7 hR7
  have ff := HE7.out.b.c.facts
  dsimp only at ff
  obtain ⟨a0, a1, a2, a3, a4, a5, a6, a7, a8, a9, a10, a11, a12, a13, af⟩ := ff
  obtain ⟨b0, b1, b2, b3, b4, b5, b6, b7, b8, b9, b10, b11, b12, b13, bf⟩ := HE7.out.b.facts
  have o0 := (blk_cell HE7.out.o 0).trans rfl
  have hne := HE7.out.b.ne
  have hne2 := Ne.symm hne
  have hp := HE7.out.b.put
  dsimp only at hp
  have HP := Lib.hid hp
  have hq := HE7.out.chgput
  dsimp only at hq
  have HQ := Lib.hid hq
  clear hp hq
  go_wp2_with fail
  refine bodyPost_ret (results_ct rfl _ _ g1 56 _ (0, 0) _ rfl HP.out.1 Tryd.underlying56 rfl (by kernel_rfl)) rfl ?_
  exact ⟨A', B', c', d', by rw [HKR.out]; rfl, Kd.R_mono (row_chg HR7.out.1 HQ.out (fun k h => .inr h)) (fun _ _ => trivial), Kd.R_mono (row_chg HR7.out.2 HQ.out (fun k h => .inr h)) (fun _ _ => trivial), HP.out.2⟩
set_option maxHeartbeats 4000000 in
set_option maxRecDepth 100000 in
theorem endr_fail (w : World) (s : Cel) (A B : Option Addr) (n c m d : Nat) (task k : Int) (A2 B2 : Option Addr) (c2 d2 : Nat) (vl : List S80) (fl : List S64) (t : Int) (hp : Put w A2 B2 c2 d2 vl fl) (h0 : 0 ≤ task) (h1 : task < 128) (hs : s.state = 2) (ht : s.task = task) (hg : rightB k vl fl = true) (hb : badB s t = false) (hk : k ≠ 1) (hl0 : 0 ≤ s.last) (hpol : Pol s) (hf0 : 0 ≤ s.fails) (hf1 : s.fails < 1000) : EndR w s A B n c m d task k A2 B2 c2 d2 vl fl t fun e w' => ∃ A' B' c' d', e = .returned (.tuple #[agg (endR s k t) (.slice A' vl.length c') (.slice B' fl.length d'), .int .i64 0]) ∧ Kd.R k80 80 w' w.heap.size (fun _ => True) (.slice A' vl.length c') vl ∧ Kd.R k64 64 w' w.heap.size (fun _ => True) (.slice B' fl.length d') fl ∧ Below w.heap.size w w' := by
  have HPUT := Lib.hid hp
  have HG := Lib.hid hg
  have g0' : ¬ task < 0 := by omega
  have g1' : ¬ 128 ≤ task := by omega
  have hs1 : (s.state != 2) = false := by rw [hs]; rfl
  have hs2 : (s.task != task) = false := by rw [ht]; simp
  have HD := Lib.hid hb
  have hkb : (k != 1) = true := by simpa using hk
  have hfw : wrap64 (s.fails + 1) = s.fails + 1 := w64 (by omega) (by omega)
  have htt : 0 ≤ t ∧ t ≤ 1099511627776 := by have := now_of_bad hb; omega
  have hz1 := pause_low hpol (s.fails + 1)
  have hz2 : pauseB s (s.fails + 1) ≤ 1099511627776 := Int.le_trans (pause_high hpol _) hpol.c1
  have HAG := Lib.hid (show ∀ x, x = min 1099511627776 (t + pauseB s (s.fails + 1)) → endR s k t = { s with state := 4, task := 0, fails := s.fails + 1, next := x, last := t, kind := k } from fun x hx => by rw [hx]; exact if_neg hk)
  generalize hzz : pauseB s (s.fails + 1) = z at hz1 hz2 HAG
  have HZZ := Lib.hid hzz
  have HPOL := Lib.hid hpol
  have HFB := Lib.hid (And.intro hf0 hf1)
  have hwz : -4611686018427387904 ≤ t + z → wrap64 (t + z) = t + z := fun h => w64 h (by omega)
  have HW := Lib.hid hwz
  have HTT := Lib.hid (And.intro htt (And.intro hz1 hz2))
  clear hp hg h0 h1 hs ht hb hk hl0 hpol hf0 hf1 hzz hz1 hz2 htt hwz
  unfold EndR agg Cel.cells
  go_enter Tryd.func36, Tryd.ntmps36
  go_upto_region 1 with fail
  obtain ⟨w3, g0, g1, gO, e3, e0, e1, eO, hE⟩ : ∃ w3 g0 g1 gO, w3 = ((w.alloc (.cells #[.bool s.again, .int .i64 s.tries, .int .i64 s.base, .int .i64 s.factor, .int .i64 s.cap, .int .i64 s.state, .int .i64 s.gen, .int .i64 s.task, .int .i64 s.fails, .int .i64 s.next, .int .i64 s.last, .int .i64 s.kind, (.slice A n c), (.slice B m d)] 56)).alloc (.cells #[.int .i64 k, .slice A2 vl.length c2, .slice B2 fl.length d2] 37)).alloc (.cells #[.bool false, .int .i64 0, .int .i64 0, .int .i64 0, .int .i64 0, .int .i64 0, .int .i64 0, .int .i64 0, .int .i64 0, .int .i64 0, .int .i64 0, .int .i64 0, .slice none 0 0, .slice none 0 0] 56) ∧ g0 = w.heap.size ∧ g1 = w.heap.size + 2 ∧ gO = w.heap.size + 1 ∧ E3 w w3 g0 g1 gO s (.slice A n c) (.slice B m d) #[.int .i64 k, .slice A2 vl.length c2, .slice B2 fl.length d2] := ⟨_, _, _, _, rfl, rfl, rfl, rfl, E3.mk3 w s (.slice A n c) (.slice B m d) #[.int .i64 k, .slice A2 vl.length c2, .slice B2 fl.length d2]⟩
  rw [← e3, ← e1, ← eO, ← e0]
  have HE3 := Lib.hid hE
  clear e3 e0 e1 eO hE
  obtain ⟨a0, a1, a2, a3, a4, a5, a6, a7, a8, a9, a10, a11, a12, a13, af⟩ := HE3.out.b.c.facts
  obtain ⟨b0, b1, b2, b3, b4, b5, b6, b7, b8, b9, b10, b11, b12, b13, bf⟩ := HE3.out.b.facts
  have o0 := (blk_cell HE3.out.o 0).trans rfl
  have o1 := (blk_cell HE3.out.o 1).trans rfl
  have o2 := (blk_cell HE3.out.o 2).trans rfl
  have hne := HE3.out.b.ne
  have hne2 := Ne.symm hne
  go_wp2_with fail
  refine (good_be _ k A2 B2 c2 d2 vl fl (HPUT.out.below HE3.out.b.bel) HG.out).mono ?_
  rintro _ w4 ⟨rfl, hb4⟩
  have HE4 := Lib.hid (HE3.out.below hb4)
  clear a0 a1 a2 a3 a4 a5 a6 a7 a8 a9 a10 a11 a12 a13 af b0 b1 b2 b3 b4 b5 b6 b7 b8 b9 b10 b11 b12 b13 bf o0 o1 o2 hne hne2 hb4
  obtain ⟨a0, a1, a2, a3, a4, a5, a6, a7, a8, a9, a10, a11, a12, a13, af⟩ := HE4.out.b.c.facts
  obtain ⟨b0, b1, b2, b3, b4, b5, b6, b7, b8, b9, b10, b11, b12, b13, bf⟩ := HE4.out.b.facts
  have o0 := (blk_cell HE4.out.o 0).trans rfl
  have o1 := (blk_cell HE4.out.o 1).trans rfl
  have o2 := (blk_cell HE4.out.o 2).trans rfl
  have hne := HE4.out.b.ne
  have hne2 := Ne.symm hne
  go_wp2_with fail
  refine (bad_be _ s A B n c m d t HD.out).mono ?_
  rintro _ w5 ⟨rfl, hb5⟩
  have HE5 := Lib.hid (HE4.out.below hb5)
  clear a0 a1 a2 a3 a4 a5 a6 a7 a8 a9 a10 a11 a12 a13 af b0 b1 b2 b3 b4 b5 b6 b7 b8 b9 b10 b11 b12 b13 bf o0 o1 o2 hne hne2 hb5
  obtain ⟨a0, a1, a2, a3, a4, a5, a6, a7, a8, a9, a10, a11, a12, a13, af⟩ := HE5.out.b.c.facts
  obtain ⟨b0, b1, b2, b3, b4, b5, b6, b7, b8, b9, b10, b11, b12, b13, bf⟩ := HE5.out.b.facts
  have o0 := (blk_cell HE5.out.o 0).trans rfl
  have o1 := (blk_cell HE5.out.o 1).trans rfl
  have o2 := (blk_cell HE5.out.o 2).trans rfl
  have hne := HE5.out.b.ne
  have hne2 := Ne.symm hne
  go_wp2_with fail
  refine (copy_out _ k A2 B2 c2 d2 vl fl (HPUT.out.below HE5.out.b.bel)).mono ?_
  rintro _ w6 ⟨A', B', c', d', rfl, -, hu, hv, hb6⟩
  have HR6 := Lib.hid (And.intro (rows_apart (w := w) (g0 := g0) (g1 := g1) hu (blk_lt HE5.out.b.c) (blk_lt HE5.out.b.z) HE5.out.b.bel.size) (rows_apart (w := w) (g0 := g0) (g1 := g1) hv (blk_lt HE5.out.b.c) (blk_lt HE5.out.b.z) HE5.out.b.bel.size))
  have HE6 := Lib.hid (HE5.out.below hb6)
  clear a0 a1 a2 a3 a4 a5 a6 a7 a8 a9 a10 a11 a12 a13 af b0 b1 b2 b3 b4 b5 b6 b7 b8 b9 b10 b11 b12 b13 bf o0 o1 o2 hne hne2 hb6 hu hv
  obtain ⟨a0, a1, a2, a3, a4, a5, a6, a7, a8, a9, a10, a11, a12, a13, af⟩ := HE6.out.b.c.facts
  obtain ⟨b0, b1, b2, b3, b4, b5, b6, b7, b8, b9, b10, b11, b12, b13, bf⟩ := HE6.out.b.facts
  have o0 := (blk_cell HE6.out.o 0).trans rfl
  have o1 := (blk_cell HE6.out.o 1).trans rfl
  have o2 := (blk_cell HE6.out.o 2).trans rfl
  have hne := HE6.out.b.ne
  have hne2 := Ne.symm hne
  go_upto_region 10 with fail
  obtain ⟨w7, e7, hE7, hR7⟩ : ∃ w7, w7 = ((((((w6.setCell ⟨g0, 5, none⟩ (.int .i64 3)).setCell ⟨g0, 7, none⟩ (.int .i64 0)).setCell ⟨g0, 10, none⟩ (.int .i64 t)).setCell ⟨g0, 11, none⟩ (.int .i64 k)).setCell ⟨g0, 12, none⟩ (.slice A' vl.length c')).setCell ⟨g0, 13, none⟩ (.slice B' fl.length d')) ∧ E3 w w7 g0 g1 gO { s with state := 3, task := 0, last := t, kind := k } (.slice A' vl.length c') (.slice B' fl.length d') #[.int .i64 k, .slice A2 vl.length c2, .slice B2 fl.length d2] ∧ Chg (· = g0) w6 w7 := by
    have hc : Chg (· = g0) w6 ((((((w6.setCell ⟨g0, 5, none⟩ (.int .i64 3)).setCell ⟨g0, 7, none⟩ (.int .i64 0)).setCell ⟨g0, 10, none⟩ (.int .i64 t)).setCell ⟨g0, 11, none⟩ (.int .i64 k)).setCell ⟨g0, 12, none⟩ (.slice A' vl.length c')).setCell ⟨g0, 13, none⟩ (.slice B' fl.length d')) := ((((((Chg.refl (· = g0) w6).setCell (p := ⟨g0, 5, none⟩) rfl _).setCell (p := ⟨g0, 7, none⟩) rfl _).setCell (p := ⟨g0, 10, none⟩) rfl _).setCell (p := ⟨g0, 11, none⟩) rfl _).setCell (p := ⟨g0, 12, none⟩) rfl _).setCell (p := ⟨g0, 13, none⟩) rfl _
    refine ⟨_, rfl, HE6.out.set hc ?_, hc⟩
    refine Eq.trans (blk_set (blk_set (blk_set (blk_set (blk_set (blk_set HE6.out.b.c 5 (.int .i64 3)) 7 (.int .i64 0)) 10 (.int .i64 t)) 11 (.int .i64 k)) 12 (.slice A' vl.length c')) 13 (.slice B' fl.length d')) ?_
    simp [Cel.cells]
  rw [← e7]
  have HR7 := Lib.hid (And.intro (row_chg HR6.out.1 hR7 (fun k h => .inl h)) (row_chg HR6.out.2 hR7 (fun k h => .inl h)))
  have HE7 := Lib.hid hE7
  clear a0 a1 a2 a3 a4 a5 a6 a7 a8 a9 a10 a11 a12 a13 af b0 b1 b2 b3 b4 b5 b6 b7 b8 b9 b10 b11 b12 b13 bf o0 o1 o2 hne hne2 e7 hE7 hR7
  have ff := HE7.out.b.c.facts
  dsimp only at ff
  obtain ⟨a0, a1, a2, a3, a4, a5, a6, a7, a8, a9, a10, a11, a12, a13, af⟩ := ff
  obtain ⟨b0, b1, b2, b3, b4, b5, b6, b7, b8, b9, b10, b11, b12, b13, bf⟩ := HE7.out.b.facts
  have o0 := (blk_cell HE7.out.o 0).trans rfl
  have hne := HE7.out.b.ne
  have hne2 := Ne.symm hne
  go_upto_region 13 with fail
  obtain ⟨w8, e8, hE8, hR8⟩ : ∃ w8, w8 = (w7.setCell ⟨g0, 5, none⟩ (.int .i64 4)).setCell ⟨g0, 8, none⟩ (.int .i64 (s.fails + 1)) ∧ E3 w w8 g0 g1 gO { s with state := 4, task := 0, fails := s.fails + 1, last := t, kind := k } (.slice A' vl.length c') (.slice B' fl.length d') #[.int .i64 k, .slice A2 vl.length c2, .slice B2 fl.length d2] ∧ Chg (· = g0) w7 w8 := by
    have hc : Chg (· = g0) w7 ((w7.setCell ⟨g0, 5, none⟩ (.int .i64 4)).setCell ⟨g0, 8, none⟩ (.int .i64 (s.fails + 1))) := ((Chg.refl (· = g0) w7).setCell (p := ⟨g0, 5, none⟩) rfl _).setCell (p := ⟨g0, 8, none⟩) rfl _
    refine ⟨_, rfl, HE7.out.set hc ?_, hc⟩
    refine Eq.trans (blk_set (blk_set HE7.out.b.c 5 (.int .i64 4)) 8 (.int .i64 (s.fails + 1))) ?_
    simp [Cel.cells]
  rw [← e8]
  have HR8 := Lib.hid (And.intro (row_chg HR7.out.1 hR8 (fun k h => .inl h)) (row_chg HR7.out.2 hR8 (fun k h => .inl h)))
  have HE8 := Lib.hid hE8
  clear a0 a1 a2 a3 a4 a5 a6 a7 a8 a9 a10 a11 a12 a13 af b0 b1 b2 b3 b4 b5 b6 b7 b8 b9 b10 b11 b12 b13 bf o0 hne hne2 e8 hE8 hR8
  have ff := HE8.out.b.c.facts
  dsimp only at ff
  obtain ⟨a0, a1, a2, a3, a4, a5, a6, a7, a8, a9, a10, a11, a12, a13, af⟩ := ff
  obtain ⟨b0, b1, b2, b3, b4, b5, b6, b7, b8, b9, b10, b11, b12, b13, bf⟩ := HE8.out.b.facts
  have o0 := (blk_cell HE8.out.o 0).trans rfl
  have hne := HE8.out.b.ne
  have hne2 := Ne.symm hne
  go_wp2_with fail
  refine (pause_at _ s (s.fails + 1) HPOL.out (by have := HFB.out; omega) (by have := HFB.out; omega) HZZ.out).mono ?_
  rintro _ w9 ⟨rfl, hb9⟩
  have HR9 := Lib.hid (And.intro (Kd.R_below HR8.out.1 hb9) (Kd.R_below HR8.out.2 hb9))
  have HE9 := Lib.hid (HE8.out.below hb9)
  clear a0 a1 a2 a3 a4 a5 a6 a7 a8 a9 a10 a11 a12 a13 af b0 b1 b2 b3 b4 b5 b6 b7 b8 b9 b10 b11 b12 b13 bf o0 hne hne2 hb9
  have ff := HE9.out.b.c.facts
  dsimp only at ff
  obtain ⟨a0, a1, a2, a3, a4, a5, a6, a7, a8, a9, a10, a11, a12, a13, af⟩ := ff
  obtain ⟨b0, b1, b2, b3, b4, b5, b6, b7, b8, b9, b10, b11, b12, b13, bf⟩ := HE9.out.b.facts
  have o0 := (blk_cell HE9.out.o 0).trans rfl
  have hne := HE9.out.b.ne
  have hne2 := Ne.symm hne
  have hwz2 : wrap64 (t + z) = t + z := HW.out (by have := HTT.out.1.1; have := HTT.out.2.1; omega)
  go_upto_region 14 with fail
  all_goals
    obtain ⟨w10, nx, e10, en, hnx, hE10, hR10⟩ : ∃ w10 nx, w10 = w9.setCell ⟨g0, 9, none⟩ (.int .i64 (if t + z < 1099511627776 then t + z else 1099511627776)) ∧ nx = (if t + z < 1099511627776 then t + z else 1099511627776) ∧ nx = min 1099511627776 (t + z) ∧ E3 w w10 g0 g1 gO { s with state := 4, task := 0, fails := s.fails + 1, next := nx, last := t, kind := k } (.slice A' vl.length c') (.slice B' fl.length d') #[.int .i64 k, .slice A2 vl.length c2, .slice B2 fl.length d2] ∧ Chg (· = g0) w9 w10 := by
      have hc : Chg (· = g0) w9 (w9.setCell ⟨g0, 9, none⟩ (.int .i64 (if t + z < 1099511627776 then t + z else 1099511627776))) := (Chg.refl (· = g0) w9).setCell (p := ⟨g0, 9, none⟩) rfl _
      refine ⟨_, _, rfl, rfl, by split <;> omega, HE9.out.set hc ?_, hc⟩
      refine Eq.trans (blk_set HE9.out.b.c 9 _) ?_
      simp [Cel.cells]
    rw [← e10]
    have HNX := Lib.hid hnx
    have HR10 := Lib.hid (And.intro (row_chg HR9.out.1 hR10 (fun k h => .inl h)) (row_chg HR9.out.2 hR10 (fun k h => .inl h)))
    have HE10 := Lib.hid hE10
    clear a0 a1 a2 a3 a4 a5 a6 a7 a8 a9 a10 a11 a12 a13 af b0 b1 b2 b3 b4 b5 b6 b7 b8 b9 b10 b11 b12 b13 bf o0 hne hne2 e10 en hnx hE10 hR10 hwz2
    have ff := HE10.out.b.c.facts
    dsimp only at ff
    obtain ⟨a0, a1, a2, a3, a4, a5, a6, a7, a8, a9, a10, a11, a12, a13, af⟩ := ff
    obtain ⟨b0, b1, b2, b3, b4, b5, b6, b7, b8, b9, b10, b11, b12, b13, bf⟩ := HE10.out.b.facts
    have o0 := (blk_cell HE10.out.o 0).trans rfl
    have hne := HE10.out.b.ne
    have hne2 := Ne.symm hne
    have hp := HE10.out.b.put
    dsimp only at hp
    have HP := Lib.hid hp
    have hq := HE10.out.chgput
    dsimp only at hq
    have HQ := Lib.hid hq
    clear hp hq
    go_wp2_with fail
    all_goals
      refine bodyPost_ret (results_ct rfl _ _ g1 56 _ (0, 0) _ rfl HP.out.1 Tryd.underlying56 rfl (by kernel_rfl)) rfl ?_
      exact ⟨A', B', c', d', by rw [HAG.out nx HNX.out]; rfl, Kd.R_mono (row_chg HR10.out.1 HQ.out (fun k h => .inr h)) (fun _ _ => trivial), Kd.R_mono (row_chg HR10.out.2 HQ.out (fun k h => .inr h)) (fun _ _ => trivial), HP.out.2⟩
end Go.Proofs.YtchbammjcnhkiaaDoor.Ce
namespace Go.Proofs.YtchbammjcnhkiaaDoor.Ce
open Go.RowKit Go.Maps Go.Proofs.YtchbammjcnhkiaaDoor Go.Proofs.YtchbammjcnhkiaaDoorW.PrintWords Go.Proofs.YtchbammjcnhkiaaDoorW.PrintLast Go.Proofs.YtchbammjcnhkiaaDoorW.PrintMore PCellPlays
/-- The document's cell is the code's but for when it is due, which the code keeps only where it is. -/
structure Rel (s y : Cel) : Prop where
  e : y = { s with next := y.next }
  nx : s.next = if mayB s = true then y.next else 0
  tk : s.state ≠ 2 → s.task = 0
theorem Rel.may {s y : Cel} (h : Rel s y) : mayB y = mayB s := by rw [h.e]; rfl
theorem Rel.ask {s y : Cel} (h : Rel s y) (t : Int) : askB y t = askB s t := by
  have h1 : y.state = s.state := by rw [h.e]
  have h2 := h.nx
  unfold askB meet
  rw [h1, h.may]
  by_cases hm : mayB s = true
  · rw [if_pos hm] at h2
    rw [h2]
  · simp [hm]
theorem Rel.bad {s y : Cel} (h : Rel s y) (hw : Well s) (t : Int) : badB y t = !nowB s t := by
  rw [← bad_now hw.l0]
  rw [h.e]
  rfl
theorem Rel.st {s y : Cel} (h : Rel s y) : y.state = s.state := by rw [h.e]
theorem Rel.stw {s y : Cel} (h : Rel s y) (hw : Well s) : y.state = 1 ∨ y.state = 2 ∨ y.state = 3 ∨ y.state = 4 ∨ y.state = 5 := by rw [h.st]; exact hw.st
theorem Rel.gen {s y : Cel} (h : Rel s y) : y.gen = s.gen := by rw [h.e]
theorem Rel.task {s y : Cel} (h : Rel s y) : y.task = s.task := by rw [h.e]
theorem Rel.kind {s y : Cel} (h : Rel s y) : y.kind = s.kind := by rw [h.e]
theorem Rel.again {s y : Cel} (h : Rel s y) : y.again = s.again := by rw [h.e]
theorem Rel.fails {s y : Cel} (h : Rel s y) : y.fails = s.fails := by rw [h.e]
theorem Rel.last {s y : Cel} (h : Rel s y) : y.last = s.last := by rw [h.e]
theorem Rel.pause {s y : Cel} (h : Rel s y) (f : Int) : pauseB y f = pauseB s f := by rw [h.e]; rfl
theorem Well.polz {s : Cel} (h : Well s) : Pol s := by
  rcases h.pol with ⟨h1, h2, h3, h4⟩ | ⟨_, ⟨h3, _⟩, ⟨h5, h6⟩, h7, h8⟩
  · exact ⟨by omega, by omega, by omega, by omega, by omega⟩
  · exact ⟨h3, h7, h8, by omega, h6⟩
theorem Rel.pol {s y : Cel} (h : Rel s y) (hw : Well s) : Pol y := by
  have := hw.polz
  rw [h.e]
  exact ⟨this.b0, this.b1, this.c1, this.f0, this.f1⟩
theorem Rel.told {s y : Cel} (h : Rel s y) : toldR y = .agg #[.int .i64 s.state, .int .i64 s.gen, .int .i64 s.task, .int .i64 s.fails, .int .i64 s.next] := by
  unfold toldR
  rw [h.may, ← h.nx, h.st, h.gen, h.task, h.fails]
theorem Rel.fresh (a : Bool) (tr ba fa ca : Int) : Rel (freshC a tr ba fa ca) (freshC a tr ba fa ca) := ⟨rfl, by unfold freshC; split <;> rfl, fun _ => rfl⟩
theorem Rel.begun {s y : Cel} (h : Rel s y) (task t : Int) : Rel (begunC s task t) (begunR y task t) := by
  refine ⟨?_, ?_, fun h2 => absurd rfl h2⟩
  · unfold begunR begunC
    rw [h.e]
  · rw [if_neg (by unfold mayB begunC; simp)]
    rfl
theorem Rel.idled {s y : Cel} (h : Rel s y) (h2 : s.state ≠ 2) (t : Int) : Rel (idled s t) (idledR y t) := by
  refine ⟨?_, ?_, fun _ => rfl⟩
  · unfold Ce.idled idledR
    rw [h.e]
    simp [h.tk h2]
  · rw [if_neg (by unfold mayB Ce.idled; simp)]
    rfl
theorem Rel.closed {s y : Cel} (h : Rel s y) (h2 : s.state ≠ 2) (h5 : s.state ≠ 5) : Rel (closedC s) (closeR y) := by
  have h2' : y.state ≠ 2 := by rw [h.st]; exact h2
  have h5' : y.state ≠ 5 := by rw [h.st]; exact h5
  unfold closeR
  rw [if_pos ⟨h2', h5'⟩]
  refine ⟨?_, ?_, fun _ => h.tk h2⟩
  · unfold closedC
    rw [h.e]
  · rw [if_neg (by unfold mayB closedC; simp)]
    rfl
theorem Rel.ended {s y : Cel} (h : Rel s y) (h2 : s.state = 2) (k t : Int) : Rel (endS s k t) (endR y k t) := by
  have hz : s.next = 0 := by
    have := h.nx
    rwa [if_neg (by unfold mayB; simp [h2])] at this
  unfold endS endR
  by_cases hk : k = 1
  · rw [if_pos hk, if_pos hk]
    refine ⟨?_, ?_, fun _ => rfl⟩
    · unfold readyC
      rw [h.e, hk]
    · rw [if_neg (by unfold mayB readyC; simp)]
      exact hz
  · rw [if_neg hk, if_neg hk, h.pause, h.fails]
    by_cases hm : mayB (failC s k t) = true
    · rw [if_pos hm]
      refine ⟨?_, ?_, fun _ => rfl⟩
      · unfold againC failC
        rw [h.e]
      · rw [if_pos (show mayB (againC s k t) = true from hm)]
        show min (t + pauseB (failC s k t) (s.fails + 1)) 1099511627776 = min 1099511627776 (t + pauseB s (s.fails + 1))
        rw [Int.min_comm]
        rfl
    · rw [if_neg hm]
      refine ⟨?_, ?_, fun _ => rfl⟩
      · unfold failC
        rw [h.e]
      · rw [if_neg hm]
        exact hz
/-- The lists of an outcome, in blocks that P names. -/
structure YR (w : World) (base : Nat) (P : Nat → Prop) (u v : Value) (l : List S80) (m : List S64) : Prop where
  u : Kd.R k80 80 w base P u l
  v : Kd.R k64 64 w base P v m
theorem YR.below {w w' : World} {base : Nat} {P : Nat → Prop} {u v : Value} {l : List S80} {m : List S64} (h : YR w base P u v l m) (hb : Below w.heap.size w w') : YR w' base P u v l m := ⟨Kd.R_below h.u hb, Kd.R_below h.v hb⟩
theorem YR.chg {w w' : World} {base : Nat} {P S : Nat → Prop} {u v : Value} {l : List S80} {m : List S64} (h : YR w base P u v l m) (hc : Chg S w w') (hP : ∀ k, P k → ¬ S k) : YR w' base P u v l m := ⟨Kd.R_step h.u (fun k ho hlt => hc.block k hlt (hP k ho)), Kd.R_step h.v (fun k ho hlt => hc.block k hlt (hP k ho))⟩
theorem YR.mono {w : World} {base base' : Nat} {P P' : Nat → Prop} {u v : Value} {l : List S80} {m : List S64} (h : YR w base P u v l m) (hb : base' ≤ base) (hP : ∀ k, P k → base ≤ k → k < w.heap.size → P' k) : YR w base' P' u v l m :=
  ⟨Kd.R_lower (Kd.R_mono (Kd.R_bound h.u) (fun k hk => hP k hk.1 hk.2.1 hk.2.2.1)) hb, Kd.R_lower (Kd.R_mono (Kd.R_bound h.v) (fun k hk => hP k hk.1 hk.2.1 hk.2.2.1)) hb⟩
theorem YR.slices {w : World} {base : Nat} {P : Nat → Prop} {u v : Value} {l : List S80} {m : List S64} (h : YR w base P u v l m) : ∃ A B c d, u = .slice A l.length c ∧ v = .slice B m.length d := by
  obtain ⟨A, c, rfl⟩ := Kd.R_slice h.u
  obtain ⟨B, d, rfl⟩ := Kd.R_slice h.v
  exact ⟨A, B, c, d, rfl, rfl⟩
theorem YR.put {w : World} {base : Nat} {P : Nat → Prop} {A B : Option Addr} {c d : Nat} {l : List S80} {m : List S64} (h : YR w base P (.slice A l.length c) (.slice B m.length d) l m) (hz : Sz l m) (hl : Laid w) : Put w A B c d l m :=
  ⟨(Kd.R_reads' h.u).2.2, (Kd.R_reads' h.u).2.1, by have := hz.1; omega, (Kd.R_reads' h.v).2.2, (Kd.R_reads' h.v).2.1, by have := hz.2; omega, hl⟩
theorem YR.nil (w : World) (base : Nat) (P : Nat → Prop) : YR w base P (.slice none 0 0) (.slice none 0 0) [] [] := ⟨Kd.R_nil _ _ _ _ _, Kd.R_nil _ _ _ _ _⟩
theorem beginr_o (w : World) (base : Nat) (P : Nat → Prop) (s y s' : Cel) (u v : Value) (l l' : List S80) (m m' : List S64) (task t r e : Int) (hr : Rel s y) (hw : Well s) (hy : YR w base P u v l m) (h : BeginRel s task t r e s') (hl1 : e ≠ 0 → l' = l ∧ m' = m) (hl2 : e = 0 → l' = [] ∧ m' = []) :
    Calls Tryd.prog 35 #[agg y u v, .int .i64 task, .int .i64 t] w fun x w' => ∃ y' u' v', x = .returned (.tuple #[agg y' u' v', .int .i64 r, .int .i64 e]) ∧ Rel s' y' ∧ YR w' base P u' v' l' m' ∧ Below w.heap.size w w' := by
  obtain ⟨A, B, c, d, rfl, rfl⟩ := hy.slices
  have hb := hr.bad hw t
  have hst := hr.stw hw
  have hy' : ∀ w', Below w.heap.size w w' → e ≠ 0 → YR w' base P (.slice A l.length c) (.slice B m.length d) l' m' := fun w' hb' he => by
    obtain ⟨rfl, rfl⟩ := hl1 he
    exact hy.below hb'
  rcases h.2 with ⟨he, rfl, rfl⟩ | ⟨he, h0, h1, hn, ha, hg, rfl, rfl⟩
  · have h1 := h.1
    unfold beginE at h1
    by_cases ht : 0 ≤ task ∧ task < 128
    · rw [if_pos ht] at h1
      by_cases hn : nowB s' t = true
      · rw [if_pos hn] at h1
        rw [hn] at hb
        by_cases ha : askB s' t = 1
        · rw [if_pos ha] at h1
          by_cases hg : s'.gen < 1048576
          · rw [if_pos hg] at h1
            exact absurd h1 he
          · rw [if_neg hg] at h1
            subst h1
            refine (beginr_spent w y A B _ c _ d task t ht.1 ht.2 hb hst (by rw [hr.ask]; exact ha) (by rw [hr.gen]; omega)).mono ?_
            rintro _ w' ⟨rfl, hb'⟩
            exact ⟨y, _, _, rfl, hr, hy' w' hb' he, hb'⟩
        · rw [if_neg ha] at h1
          subst h1
          refine (beginr_state w y A B _ c _ d task t ht.1 ht.2 hb hst (by rw [hr.ask]; exact ha)).mono ?_
          rintro _ w' ⟨rfl, hb'⟩
          exact ⟨y, _, _, rfl, hr, hy' w' hb' he, hb'⟩
      · rw [if_neg hn] at h1
        subst h1
        refine (beginr_bad w y A B _ c _ d task t ht.1 ht.2 (by rw [hb]; simpa using hn)).mono ?_
        rintro _ w' ⟨rfl, hb'⟩
        exact ⟨y, _, _, rfl, hr, hy' w' hb' he, hb'⟩
    · rw [if_neg ht] at h1
      subst h1
      refine (beginr_low w y A B _ c _ d task t ht).mono ?_
      rintro _ w' ⟨rfl, hb'⟩
      exact ⟨y, _, _, rfl, hr, hy' w' hb' he, hb'⟩
  · obtain ⟨rfl, rfl⟩ := hl2 he
    subst he
    rw [hn] at hb
    refine (beginr_good w y A B _ c _ d task t h0 h1 hb hst (by rw [hr.ask]; exact ha) (by rw [hr.gen]; exact hg) (by rw [hr.gen]; exact hw.g0)).mono ?_
    rintro _ w' ⟨rfl, hb'⟩
    exact ⟨begunR y task t, _, _, by rw [hr.gen], hr.begun task t, YR.nil _ _ _, hb'⟩
theorem resetr_o (w : World) (base : Nat) (P : Nat → Prop) (s y s' : Cel) (u v : Value) (l l' : List S80) (m m' : List S64) (t e : Int) (hr : Rel s y) (hw : Well s) (hy : YR w base P u v l m) (he : e = resetE s t) (h : (e ≠ 0 ∧ s' = s ∧ l' = l ∧ m' = m) ∨ (e = 0 ∧ nowB s t = true ∧ (s.state ≠ 2 ∧ s.state ≠ 5) ∧ s.again = true ∧ s' = idled s t ∧ l' = [] ∧ m' = [])) :
    Calls Tryd.prog 37 #[agg y u v, .int .i64 t] w fun x w' => ∃ y' u' v', x = .returned (.tuple #[agg y' u' v', .int .i64 e]) ∧ Rel s' y' ∧ YR w' base P u' v' l' m' ∧ Below w.heap.size w w' := by
  obtain ⟨A, B, c, d, rfl, rfl⟩ := hy.slices
  have hb := hr.bad hw t
  rcases h with ⟨h0, rfl, rfl, rfl⟩ | ⟨h0, hn, hs, ha, rfl, rfl, rfl⟩
  · unfold resetE at he
    by_cases hn : nowB s' t = true
    · rw [if_pos hn] at he
      rw [hn] at hb
      by_cases hs : s'.state ≠ 2 ∧ s'.state ≠ 5
      · by_cases ha : s'.again = true
        · rw [if_pos ⟨hs, ha⟩] at he
          exact absurd he h0
        · rw [if_neg (fun k => ha k.2)] at he
          subst he
          refine (reset_one w y A B _ c _ d t hb (by rw [hr.st]; simpa using hs.1) (by rw [hr.st]; simpa using hs.2) (by rw [hr.again]; simpa using ha)).mono ?_
          rintro _ w' ⟨rfl, hb'⟩
          exact ⟨y, _, _, rfl, hr, hy.below hb', hb'⟩
      · rw [if_neg (fun k => hs k.1)] at he
        subst he
        refine (reset_not w y A B _ c _ d t hb (by rw [hr.st]; by_cases h2 : s'.state = 2; exact .inl (by simpa using h2); exact .inr ⟨by simpa using h2, by simpa using (by omega : s'.state = 5)⟩)).mono ?_
        rintro _ w' ⟨rfl, hb'⟩
        exact ⟨y, _, _, rfl, hr, hy.below hb', hb'⟩
    · rw [if_neg hn] at he
      subst he
      refine (reset_bad w y A B _ c _ d t (by rw [hb]; simpa using hn)).mono ?_
      rintro _ w' ⟨rfl, hb'⟩
      exact ⟨y, _, _, rfl, hr, hy.below hb', hb'⟩
  · subst h0
    rw [hn] at hb
    refine (reset_good w y A B _ c _ d t hb (by rw [hr.st]; simpa using hs.1) (by rw [hr.st]; simpa using hs.2) (by rw [hr.again]; exact ha)).mono ?_
    rintro _ w' ⟨rfl, hb'⟩
    exact ⟨idledR y t, _, _, rfl, hr.idled hs.1 t, YR.nil _ _ _, hb'⟩
theorem closer_o (w : World) (base : Nat) (P : Nat → Prop) (s y s' : Cel) (u v : Value) (l : List S80) (m : List S64) (e : Int) (hr : Rel s y) (hy : YR w base P u v l m) (he : e = closeE s) (h : (e ≠ 0 ∧ s' = s) ∨ (e = 0 ∧ (s.state ≠ 2 ∧ s.state ≠ 5) ∧ s' = closedC s)) :
    Calls Tryd.prog 38 #[agg y u v] w fun x w' => ∃ y' u' v', x = .returned (.tuple #[agg y' u' v', .int .i64 e]) ∧ Rel s' y' ∧ YR w' base P u' v' l m ∧ Below w.heap.size w w' := by
  obtain ⟨A, B, c, d, rfl, rfl⟩ := hy.slices
  have hce : closeE y = e := by rw [he]; unfold closeE; rw [hr.st]
  refine (close_at w y A B _ c _ d).mono ?_
  rintro _ w' ⟨rfl, hb'⟩
  refine ⟨closeR y, _, _, by rw [hce], ?_, hy.below hb', hb'⟩
  rcases h with ⟨h0, rfl⟩ | ⟨h0, hs, rfl⟩
  · rw [he] at h0
    unfold closeE at h0
    unfold closeR
    rw [hr.st]
    by_cases hs : s'.state ≠ 2 ∧ s'.state ≠ 5
    · rw [if_pos hs] at h0
      exact absurd rfl h0
    · rw [if_neg hs]
      exact hr
  · exact hr.closed hs.1 hs.2
theorem endr_o (w : World) (base : Nat) (P : Nat → Prop) (s y s' : Cel) (u v : Value) (l l' : List S80) (m m' : List S64) (task k : Int) (A2 B2 : Option Addr) (c2 d2 : Nat) (vl : List S80) (fl : List S64) (t e : Int) (hr : Rel s y) (hw : Well s) (hy : YR w base P u v l m) (hp : Put w A2 B2 c2 d2 vl fl) (he : e = endE s task k vl fl t) (h : (e ≠ 0 ∧ s' = s ∧ l' = l ∧ m' = m) ∨ (e = 0 ∧ (0 ≤ task ∧ task < 128) ∧ (s.state = 2 ∧ s.task = task) ∧ rightB k vl fl = true ∧ nowB s t = true ∧ s' = endS s k t ∧ l' = vl ∧ m' = fl)) :
    Calls Tryd.prog 36 #[agg y u v, .int .i64 task, .agg #[.int .i64 k, .slice A2 vl.length c2, .slice B2 fl.length d2], .int .i64 t] w fun x w' => ∃ y' u' v', x = .returned (.tuple #[agg y' u' v', .int .i64 e]) ∧ Rel s' y' ∧ (e ≠ 0 → YR w' base P u' v' l' m') ∧ (e = 0 → YR w' w.heap.size (fun _ => True) u' v' l' m') ∧ Below w.heap.size w w' := by
  obtain ⟨A, B, c, d, rfl, rfl⟩ := hy.slices
  have hb := hr.bad hw t
  rcases h with ⟨h0, rfl, rfl, rfl⟩ | ⟨h0, ht, hs, hk, hn, rfl, rfl, rfl⟩
  · have fin : ∀ w', Below w.heap.size w w' → ∃ y' u' v', Ending.returned (Value.tuple #[agg y (.slice A l'.length c) (.slice B m'.length d), .int .i64 e]) = .returned (.tuple #[agg y' u' v', .int .i64 e]) ∧ Rel s' y' ∧ (e ≠ 0 → YR w' base P u' v' l' m') ∧ (e = 0 → YR w' w.heap.size (fun _ => True) u' v' l' m') ∧ Below w.heap.size w w' := fun w' hb' => ⟨y, _, _, rfl, hr, fun _ => hy.below hb', fun h => absurd h h0, hb'⟩
    unfold endE at he
    by_cases ht : 0 ≤ task ∧ task < 128
    · rw [if_pos ht] at he
      by_cases hs : s'.state = 2 ∧ s'.task = task
      · rw [if_pos hs] at he
        by_cases hk : rightB k vl fl = true
        · rw [if_pos hk] at he
          by_cases hn : nowB s' t = true
          · rw [if_pos hn] at he
            exact absurd he h0
          · rw [if_neg hn] at he
            subst he
            refine (endr_late w y A B _ c _ d task k A2 B2 c2 d2 vl fl t hp ht.1 ht.2 (by rw [hr.st]; exact hs.1) (by rw [hr.task]; exact hs.2) hk (by rw [hb]; simpa using hn)).mono ?_
            rintro _ w' ⟨rfl, hb'⟩
            exact fin w' hb'
        · rw [if_neg hk] at he
          subst he
          refine (endr_wrong w y A B _ c _ d task k A2 B2 c2 d2 vl fl t hp ht.1 ht.2 (by rw [hr.st]; exact hs.1) (by rw [hr.task]; exact hs.2) (by simpa using hk)).mono ?_
          rintro _ w' ⟨rfl, hb'⟩
          exact fin w' hb'
      · rw [if_neg hs] at he
        subst he
        refine (endr_state w y A B _ c _ d task k A2 B2 c2 d2 vl fl t ht.1 ht.2 (by rw [hr.st, hr.task]; by_cases h2 : s'.state = 2; exact .inr ⟨by simpa using h2, by simpa using (fun h3 => hs ⟨h2, h3⟩ : s'.task ≠ task)⟩; exact .inl (by simpa using h2))).mono ?_
        rintro _ w' ⟨rfl, hb'⟩
        exact fin w' hb'
    · rw [if_neg ht] at he
      subst he
      refine (endr_low w y A B _ c _ d task k A2 B2 c2 d2 vl fl t ht).mono ?_
      rintro _ w' ⟨rfl, hb'⟩
      exact fin w' hb'
  · subst h0
    rw [hn] at hb
    have h2 : y.state = 2 := by rw [hr.st]; exact hs.1
    have h3 : y.task = task := by rw [hr.task]; exact hs.2
    by_cases h1 : k = 1
    · refine (endr_ready w y A B _ c _ d task k A2 B2 c2 d2 _ _ t hp ht.1 ht.2 h2 h3 hk hb h1).mono ?_
      rintro _ w' ⟨A', B', c', d', rfl, hu, hv, hb'⟩
      exact ⟨endR y k t, _, _, rfl, hr.ended hs.1 k t, fun h => absurd rfl h, fun _ => ⟨hu, hv⟩, hb'⟩
    · refine (endr_fail w y A B _ c _ d task k A2 B2 c2 d2 _ _ t hp ht.1 ht.2 h2 h3 hk hb h1 (by rw [hr.last]; exact hw.l0) (hr.pol hw) (by rw [hr.fails]; exact hw.f0) (by rw [hr.fails]; exact hw.fails)).mono ?_
      rintro _ w' ⟨A', B', c', d', rfl, hu, hv, hb'⟩
      exact ⟨endR y k t, _, _, rfl, hr.ended hs.1 k t, fun h => absurd rfl h, fun _ => ⟨hu, hv⟩, hb'⟩
end Go.Proofs.YtchbammjcnhkiaaDoor.Ce
namespace Go.Proofs.YtchbammjcnhkiaaDoor.Ce
open Go.RowKit Go.Maps Go.Proofs.YtchbammjcnhkiaaDoor Go.Proofs.YtchbammjcnhkiaaDoorW.PrintWords Go.Proofs.YtchbammjcnhkiaaDoorW.PrintLast Go.Proofs.YtchbammjcnhkiaaDoorW.PrintMore PCellPlays
attribute [local go_sem] max2_int min2_int max_two min_two max_three min_three
theorem clone_o (w : World) (b base : Nat) (s : Cel) (l : List S80) (m : List S64) (h : Owns w b base s l m) (hz : Sz l m) :
    Calls Tryd.prog 20 #[.pointer (some ⟨b, 0, none⟩)] w fun e w' => ∃ b', e = .returned (.pointer (some ⟨b', 0, none⟩)) ∧ w.heap.size ≤ b' ∧ Owns w' b' w.heap.size s l m ∧ Below w.heap.size w w' := by
  obtain ⟨u, v, ha, hu, hv⟩ := h
  obtain ⟨A1, c1, rfl⟩ := Kd.R_slice hu
  obtain ⟨A2, c2, rfl⟩ := Kd.R_slice hv
  have HU := Lib.hid hu
  have HV := Lib.hid hv
  have HZ := Lib.hid hz
  have HA := Lib.hid ha
  obtain ⟨f0, f1, f2, f3, f4, f5, f6, f7, f8, f9, f10, f11, f12, f13, ff⟩ := At.facts ha
  clear ha hu hv hz
  go_enter Tryd.func20, Tryd.ntmps20
  go_upto_region 2 with fail
  obtain ⟨w1, g, e1, eg, hg, h1, hb1⟩ : ∃ w1 g, w1 = w.alloc (.cells #[.bool s.again, .int .i64 s.tries, .int .i64 s.base, .int .i64 s.factor, .int .i64 s.cap, .int .i64 s.state, .int .i64 s.gen, .int .i64 s.task, .int .i64 s.fails, .int .i64 s.next, .int .i64 s.last, .int .i64 s.kind, .slice A1 l.length c1, .slice A2 m.length c2] 66) ∧ g = w.heap.size ∧ At w1 g s (.slice A1 l.length c1) (.slice A2 m.length c2) ∧ At w1 b s (.slice A1 l.length c1) (.slice A2 m.length c2) ∧ Below w.heap.size w w1 := ⟨_, _, rfl, rfl, blk_new w _, blk_alloc HA.out _, (Below.refl _ _).alloc (Nat.le_refl _) _⟩
  have hgl : w.heap.size ≤ g := Nat.le_of_eq eg.symm
  rw [← e1, ← eg]
  have HG := Lib.hid hg
  have HU1 := Lib.hid (Kd.C_below (Kd.R_reads' HU.out).2.2 hb1)
  have HV1 := Lib.hid (Kd.C_below (Kd.R_reads' HV.out).2.2 hb1)
  have HB1 := Lib.hid hb1
  have HGL := Lib.hid hgl
  clear f0 f1 f2 f3 f4 f5 f6 f7 f8 f9 f10 f11 f12 f13 ff e1 eg hg hb1 hgl
  obtain ⟨f0, f1, f2, f3, f4, f5, f6, f7, f8, f9, f10, f11, f12, f13, ff⟩ := At.facts h1
  clear h1
  go_wp2_with (go_at_call 25; refine (copied_is _ s.kind A1 A2 c1 c2 l m HU1.out (by have := HZ.out.1; omega) HV1.out (by have := HZ.out.2; omega)).mono ?_; rintro _ w3 ⟨u2, v2, rfl, hu, hv, hb⟩; obtain ⟨A3, c3, rfl⟩ := Kd.R_slice hu; obtain ⟨A4, c4, rfl⟩ := Kd.R_slice hv; have kb := blk_below HG.out hb; have HKB := Lib.hid (show At w3 g s (.slice A1 l.length c1) (.slice A2 m.length c2) from kb); have HR := Lib.hid (And.intro (row_apart (w := w) (b := g) hu (blk_lt HG.out) HB1.out.size) (row_apart (w := w) (b := g) hv (blk_lt HG.out) HB1.out.size)); have HB := Lib.hid (below_step HB1.out hb); clear f0 f1 f2 f3 f4 f5 f6 f7 f8 f9 f10 f11 f12 f13 ff; obtain ⟨f0, f1, f2, f3, f4, f5, f6, f7, f8, f9, f10, f11, f12, f13, ff⟩ := At.facts HKB.out; clear hu hv hb kb)
  go_ret
  have hc : Chg (· = g) w3 (((w3.setCell ⟨g, 11, none⟩ (.int .i64 s.kind)).setCell ⟨g, 12, none⟩ (.slice A3 l.length c3)).setCell ⟨g, 13, none⟩ (.slice A4 m.length c4)) := (((Chg.refl (· = g) _).setCell (p := ⟨_, 11, none⟩) rfl _).setCell (p := ⟨_, 12, none⟩) rfl _).setCell (p := ⟨_, 13, none⟩) rfl _
  exact ⟨g, rfl, HGL.out, ⟨_, _, (blk_set (blk_set (blk_set HKB.out 11 _) 12 _) 13 _).trans (by simp [Cel.cells]), Kd.R_step HR.out.1 (fun k ho hlt => hc.block k hlt ho), Kd.R_step HR.out.2 (fun k ho hlt => hc.block k hlt ho)⟩, Chg.below HB.out hc (fun i hi => by rw [hi]; exact HGL.out) HB.out.size⟩
theorem end_p (w : World) (b base : Nat) (s : Cel) (l : List S80) (m : List S64) (task k : Int) (A B : Option Addr) (c d : Nat) (vl : List S80) (fl : List S64) (t : Int) (h : Owns w b base s l m) (hw : Well s) (hp : Put w A B c d vl fl) :
    ∃ e s' l' m', e = endE s task k vl fl t ∧ ((e ≠ 0 ∧ s' = s ∧ l' = l ∧ m' = m) ∨ (e = 0 ∧ (0 ≤ task ∧ task < 128) ∧ (s.state = 2 ∧ s.task = task) ∧ rightB k vl fl = true ∧ nowB s t = true ∧ s' = endS s k t ∧ l' = vl ∧ m' = fl)) ∧ EndC w b task k A B c d vl fl t e (fun w' => Chg (· = b) w w' ∧ (e ≠ 0 → Below w.heap.size w w') ∧ (e = 0 → Owns w' b w.heap.size s' l' m')) := by
  obtain ⟨u, v, ha⟩ := h.at_
  unfold endE
  by_cases h0 : 0 ≤ task ∧ task < 128
  · by_cases hs : s.state = 2 ∧ s.task = task
    · by_cases hr : rightB k vl fl = true
      · by_cases hn : nowB s t = true
        · refine ⟨0, endS s k t, vl, fl, by rw [if_pos h0, if_pos hs, if_pos hr, if_pos hn], .inr ⟨rfl, h0, hs, hr, hn, rfl, rfl, rfl⟩, ?_⟩
          unfold endS
          by_cases hk : k = 1
          · subst hk
            rw [if_pos rfl]
            refine (end_ready w b s u v task A B c d vl fl t ha hp h0.1 h0.2 hs.1 hs.2 hr hn).mono ?_
            rintro _ w' ⟨rfl, h1, h2⟩
            exact ⟨rfl, h1, fun h => absurd rfl h, fun _ => h2⟩
          · rw [if_neg hk]
            by_cases hm : mayB (failC s k t) = true
            · rw [if_pos hm]
              have hp2 : Pol s := by
                refine hw.pols ?_
                unfold mayB failC at hm
                simp at hm
                omega
              refine (end_again w b s u v task k A B c d vl fl t ha hp h0.1 h0.2 hs.1 hs.2 hk hr hn hw.f0 hw.fails hm hp2).mono ?_
              rintro _ w' ⟨rfl, h1, h2⟩
              exact ⟨rfl, h1, fun h => absurd rfl h, fun _ => h2⟩
            · rw [if_neg hm]
              refine (end_fail w b s u v task k A B c d vl fl t ha hp h0.1 h0.2 hs.1 hs.2 hk hr hn hw.f0 hw.fails (by simpa using hm)).mono ?_
              rintro _ w' ⟨rfl, h1, h2⟩
              exact ⟨rfl, h1, fun h => absurd rfl h, fun _ => h2⟩
        · refine ⟨1, s, l, m, by rw [if_pos h0, if_pos hs, if_pos hr, if_neg hn], .inl ⟨by decide, rfl, rfl, rfl⟩, ?_⟩
          refine (end_late w b s u v task k A B c d vl fl t ha hp h0.1 h0.2 hs.1 hs.2 hr (by simpa using hn)).mono ?_
          rintro _ w' ⟨rfl, hb⟩
          exact ⟨rfl, Chg.of_below hb, fun _ => hb, fun h => absurd h (by decide)⟩
      · refine ⟨110, s, l, m, by rw [if_pos h0, if_pos hs, if_neg hr], .inl ⟨by decide, rfl, rfl, rfl⟩, ?_⟩
        refine (end_bad w b s u v task k A B c d vl fl t ha hp h0.1 h0.2 hs.1 hs.2 (by simpa using hr)).mono ?_
        rintro _ w' ⟨rfl, hb⟩
        exact ⟨rfl, Chg.of_below hb, fun _ => hb, fun h => absurd h (by decide)⟩
    · refine ⟨7, s, l, m, by rw [if_pos h0, if_neg hs], .inl ⟨by decide, rfl, rfl, rfl⟩, ?_⟩
      refine (end_state w b s u v task k A B c d vl fl t ha h0.1 h0.2 hs).mono ?_
      rintro _ w' ⟨rfl, hb⟩
      exact ⟨rfl, Chg.of_below hb, fun _ => hb, fun h => absurd h (by decide)⟩
  · refine ⟨1, s, l, m, by rw [if_neg h0], .inl ⟨by decide, rfl, rfl, rfl⟩, ?_⟩
    refine (end_low w b task k A B c d vl fl t h0).mono ?_
    rintro _ w' ⟨rfl, hb⟩
    exact ⟨rfl, Chg.of_below hb, fun _ => hb, fun h => absurd h (by decide)⟩
/-- A block of cells that stands. -/
def Wk (w : World) (g n : Nat) (t : TypeId) : Prop := ∃ cells : Array Value, w.heap[g]? = some (.cells cells t (0, 0)) ∧ n ≤ cells.size
theorem Wk.cell {w : World} {g n : Nat} {t : TypeId} (h : Wk w g n t) {j : Nat} (hj : j < n) : ∃ x, w.cell? ⟨g, j, none⟩ = some x := by
  obtain ⟨cells, h1, h2⟩ := h
  exact ⟨cells[j], (blk_cell h1 j).trans (Array.getElem?_eq_getElem (by omega))⟩
theorem Wk.frozen {w : World} {g n : Nat} {t : TypeId} (h : Wk w g n t) (j : Nat) : w.frozen? ⟨g, j, none⟩ = false := by
  obtain ⟨cells, h1, h2⟩ := h
  exact blk_frozen h1 j
theorem Wk.set {w : World} {g n : Nat} {t : TypeId} (h : Wk w g n t) (j : Nat) (x : Value) : Wk (w.setCell ⟨g, j, none⟩ x) g n t := by
  obtain ⟨cells, h1, h2⟩ := h
  exact ⟨_, blk_set h1 j x, by simpa using h2⟩
theorem Wk.below {w w' : World} {g n : Nat} {t : TypeId} (h : Wk w g n t) (hb : Below w.heap.size w w') : Wk w' g n t := by
  obtain ⟨cells, h1, h2⟩ := h
  exact ⟨cells, blk_below h1 hb, h2⟩
theorem Wk.chg {w w' : World} {g n : Nat} {t : TypeId} {S : Nat → Prop} (h : Wk w g n t) (hc : Chg S w w') (hs : ¬ S g) : Wk w' g n t := by
  obtain ⟨cells, h1, h2⟩ := h
  exact ⟨cells, blk_chg h1 hc hs, h2⟩
theorem Wk.lt {w : World} {g n : Nat} {t : TypeId} (h : Wk w g n t) : g < w.heap.size := by
  obtain ⟨cells, h1, h2⟩ := h
  exact blk_lt h1
/-- The elements of a row of one's own may be written. -/
theorem row_wk {α : Type} {d : Kd α} {e base : Nat} {w : World} {ok : Nat → Prop} {A : Option Addr} {c : Nat} {xs : List α} (h : Kd.R d e w base ok (.slice A xs.length c) xs) (hs : 0 < d.sz) (hp : 0 < xs.length) : ∃ g, A = some ⟨g, 0, none⟩ ∧ base ≤ g ∧ ok g ∧ Wk w g (xs.length * d.sz) e := by
  obtain ⟨inner, ho⟩ := Kd.R_own h
  rcases ho with ⟨h1, ⟨_, h3⟩ | ⟨g, cap, cur, he, hb, hc, hn, _, hs2, _⟩⟩
  · omega
  · have hA : A = some ⟨g, 0, none⟩ := (Value.slice.inj he).1
    subst hA
    exact ⟨g, rfl, hb, h.1 g (by simp [Value.ownBlock]), cur, hc, by rw [hs2]; exact Nat.mul_le_mul_right _ hn⟩
end Go.Proofs.YtchbammjcnhkiaaDoor.Ce
