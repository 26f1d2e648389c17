/- What both cells tell; an act of both. -/
import Derived.Test.YtchbammjcnhkiaaDoorMg
import Derived.Deep.RegionHeld3
set_option linter.unusedVariables false
set_option linter.unusedSimpArgs false
namespace Go.Proofs.YtchbammjcnhkiaaDoor.Ce
open Go.RowKit Go.Maps Go.Proofs.YtchbammjcnhkiaaDoor Go.Proofs.YtchbammjcnhkiaaDoorW.PrintWords Go.Proofs.YtchbammjcnhkiaaDoorW.PrintLast Go.Proofs.YtchbammjcnhkiaaDoorW.PrintMore PCellPlays
attribute [local go_sem] max2_int min2_int max_two min_two max_three min_three
/-- The code's cell in memory, the document's in a box. -/
structure TI (w wr : World) (g b base : Nat) (P : Nat → Prop) (s y : Cel) (l : List S80) (m : List S64) (u v : Value) : Prop where
  o : Owns wr b base s l m
  x : Bx wr g y u v
  r : YR wr base P u v l m
  bel : Below w.heap.size w wr
  rel : Rel s y
  well : Well s
theorem TI.below {w wr w3 : World} {g b base : Nat} {P : Nat → Prop} {s y : Cel} {l : List S80} {m : List S64} {u v : Value} (h : TI w wr g b base P s y l m u v) (hb : Below wr.heap.size wr w3) : TI w w3 g b base P s y l m u v := ⟨h.o.below hb, blk_below h.x hb, h.r.below hb, below_step h.bel hb, h.rel, h.well⟩
theorem TI.told {w wr : World} {g b base : Nat} {P : Nat → Prop} {s y : Cel} {l : List S80} {m : List S64} {u v : Value} (h : TI w wr g b base P s y l m u v) : Calls Tryd.prog 15 #[.pointer (some ⟨b, 0, none⟩)] wr fun e w' => e = .returned (.agg #[.int .i64 s.state, .int .i64 s.gen, .int .i64 s.task, .int .i64 s.fails, .int .i64 s.next]) ∧ Below wr.heap.size wr w' :=
  (told_o wr b base s l m h.o h.well).mono fun _ _ k => ⟨k.1, k.2.1⟩
theorem TI.toldr {w wr : World} {g b base : Nat} {P : Nat → Prop} {s y : Cel} {l : List S80} {m : List S64} {u v : Value} (h : TI w wr g b base P s y l m u v) : Calls Tryd.prog 39 #[agg y u v] wr fun e w' => e = .returned (.agg #[.int .i64 s.state, .int .i64 s.gen, .int .i64 s.task, .int .i64 s.fails, .int .i64 s.next]) ∧ Below wr.heap.size wr w' := by
  obtain ⟨A, B, c, d, rfl, rfl⟩ := h.r.slices
  have := told_at wr y A B l.length c m.length d
  rw [h.rel.told] at this
  exact this
theorem TI.ask {w wr : World} {g b base : Nat} {P : Nat → Prop} {s y : Cel} {l : List S80} {m : List S64} {u v : Value} (h : TI w wr g b base P s y l m u v) (t : Int) : Calls Tryd.prog 18 #[.pointer (some ⟨b, 0, none⟩), .int .i64 t] wr fun e w' => e = .returned (.int .i64 (askB s t)) ∧ Below wr.heap.size wr w' := by
  obtain ⟨_, _, ha⟩ := h.o.at_
  refine (ask_any wr b s _ _ t ha).mono ?_
  rintro _ _ ⟨rfl, n, rfl⟩
  exact ⟨rfl, pw_below_drewN (Below.refl _ _) n⟩
theorem TI.askr {w wr : World} {g b base : Nat} {P : Nat → Prop} {s y : Cel} {l : List S80} {m : List S64} {u v : Value} (h : TI w wr g b base P s y l m u v) (t : Int) : Calls Tryd.prog 40 #[agg y u v, .int .i64 t] wr fun e w' => e = .returned (.int .i64 (askB s t)) ∧ Below wr.heap.size wr w' := by
  obtain ⟨A, B, c, d, rfl, rfl⟩ := h.r.slices
  have := ask_at wr y A B l.length c m.length d t (h.rel.stw h.well)
  rw [h.rel.ask] at this
  exact this
theorem TI.facts {w wr : World} {g b base : Nat} {P : Nat → Prop} {s y : Cel} {l : List S80} {m : List S64} {u v : Value} (h : TI w wr g b base P s y l m u v) : wr.cell? ⟨g, 0, none⟩ = some (.bool y.again) ∧ wr.cell? ⟨g, 1, none⟩ = some (.int .i64 y.tries) ∧ wr.cell? ⟨g, 2, none⟩ = some (.int .i64 y.base) ∧ wr.cell? ⟨g, 3, none⟩ = some (.int .i64 y.factor) ∧ wr.cell? ⟨g, 4, none⟩ = some (.int .i64 y.cap) ∧ wr.cell? ⟨g, 5, none⟩ = some (.int .i64 y.state) ∧ wr.cell? ⟨g, 6, none⟩ = some (.int .i64 y.gen) ∧ wr.cell? ⟨g, 7, none⟩ = some (.int .i64 y.task) ∧ wr.cell? ⟨g, 8, none⟩ = some (.int .i64 y.fails) ∧ wr.cell? ⟨g, 9, none⟩ = some (.int .i64 y.next) ∧ wr.cell? ⟨g, 10, none⟩ = some (.int .i64 y.last) ∧ wr.cell? ⟨g, 11, none⟩ = some (.int .i64 y.kind) ∧ wr.cell? ⟨g, 12, none⟩ = some (u) ∧ wr.cell? ⟨g, 13, none⟩ = some (v) := by
  obtain ⟨b0, b1, b2, b3, b4, b5, b6, b7, b8, b9, b10, b11, b12, b13, bf⟩ := h.x.facts
  exact ⟨b0, b1, b2, b3, b4, b5, b6, b7, b8, b9, b10, b11, b12, b13⟩
theorem YR.slices' {w : World} {base : Nat} {P : Nat → Prop} {u v : Value} {l : List S80} {m : List S64} (h : YR w base P u v l m) : ∃ A B c d, u = .slice A l.length c ∧ v = .slice B m.length d := h.slices
theorem outcome_b (w : World) (b base : Nat) (s : Cel) (l : List S80) (m : List S64) (h : Owns w b base s l m) (hz : Sz l m) :
    Calls Tryd.prog 16 #[.pointer (some ⟨b, 0, none⟩)] w fun e w' => ∃ A B c d, e = .returned (.tuple #[.agg #[.int .i64 s.kind, .slice A (outL s l).length c, .slice B (outF s m).length d], .int .i64 (outE s)]) ∧ YR w' w.heap.size (fun _ => True) (.slice A (outL s l).length c) (.slice B (outF s m).length d) (outL s l) (outF s m) ∧ Below w.heap.size w w' := by
  unfold outL outF outE
  by_cases hk : s.kind = 0
  · obtain ⟨u, v, ha⟩ := h.at_
    rw [if_pos hk, if_pos hk, if_pos hk, hk]
    refine (outcome_no w b s u v ha hk).mono ?_
    rintro _ w' ⟨rfl, hb⟩
    exact ⟨none, none, 0, 0, rfl, YR.nil _ _ _, hb⟩
  · rw [if_neg hk, if_neg hk, if_neg hk]
    refine (outcome_yes w b _ s l m h hz hk).mono ?_
    rintro _ w' ⟨A, B, c, d, rfl, hu, hv, hb⟩
    exact ⟨A, B, c, d, rfl, ⟨hu, hv⟩, hb⟩
theorem TI.outr {w wr : World} {g b base : Nat} {P : Nat → Prop} {s y : Cel} {l : List S80} {m : List S64} {u v : Value} (h : TI w wr g b base P s y l m u v) (hz : Sz l m) (hl : Laid w) : Calls Tryd.prog 41 #[agg y u v] wr fun e w' => ∃ A B c d, e = .returned (.tuple #[.agg #[.int .i64 s.kind, .slice A (outL s l).length c, .slice B (outF s m).length d], .int .i64 (outE s)]) ∧ YR w' wr.heap.size (fun _ => True) (.slice A (outL s l).length c) (.slice B (outF s m).length d) (outL s l) (outF s m) ∧ Below wr.heap.size wr w' := by
  obtain ⟨A, B, c, d, rfl, rfl⟩ := h.r.slices
  have h1 : outL y l = outL s l := by unfold outL; rw [h.rel.kind]
  have h2 : outF y m = outF s m := by unfold outF; rw [h.rel.kind]
  have h3 : outE y = outE s := by unfold outE; rw [h.rel.kind]
  refine (outcome_at wr y A B c d l m (h.r.put hz (hl.below h.bel))).mono ?_
  rintro _ w' ⟨A', B', c', d', rfl, ht, hb⟩
  rw [h1, h2] at ht
  exact ⟨A', B', c', d', by rw [h1, h2, h3, h.rel.kind], ⟨ht.u, ht.v⟩, hb⟩
theorem outSzP (s : Cel) {l : List S80} {m : List S64} (h : Sz l m) : Sz (outL s l) (outF s m) := by
  unfold outL outF
  split
  · exact ⟨by decide, by decide⟩
  · exact h
/-- A list of one's own is written over. -/
structure ML (N1 N2 oa : Nat) (k : Int) (A B : Option Addr) (c d : Nat) (ol : List S80) (om : List S64) (w2 wr : World) : Prop where
  chg : Chg (fun i => N1 ≤ i ∧ i < N2) w2 wr
  a : wr.heap[oa]? = some (.cells #[.int .i64 k, .slice A ol.length c, .slice B om.length d] 37 (0, 0))
  n : N2 ≤ oa
  wa : 0 < ol.length → ∃ g, A = some ⟨g, 0, none⟩ ∧ (N1 ≤ g ∧ g < N2) ∧ Wk wr g (ol.length * 4) 80
  wb : 0 < om.length → ∃ g, B = some ⟨g, 0, none⟩ ∧ (N1 ≤ g ∧ g < N2) ∧ Wk wr g (om.length * 3) 64
theorem ML.start {N1 N2 oa : Nat} {k : Int} {A B : Option Addr} {c d : Nat} {ol : List S80} {om : List S64} {w2 : World} (h : YR w2 N1 (fun i => i < N2) (.slice A ol.length c) (.slice B om.length d) ol om) (ha : w2.heap[oa]? = some (.cells #[.int .i64 k, .slice A ol.length c, .slice B om.length d] 37 (0, 0))) (hn : N2 ≤ oa) : ML N1 N2 oa k A B c d ol om w2 w2 :=
  ⟨Chg.refl _ _, ha, hn, fun hp => by obtain ⟨g, h1, h2, h3, h4⟩ := row_wk h.u (by decide) hp; exact ⟨g, h1, ⟨h2, h3⟩, h4⟩, fun hp => by obtain ⟨g, h1, h2, h3, h4⟩ := row_wk h.v (by decide) hp; exact ⟨g, h1, ⟨h2, h3⟩, h4⟩⟩
theorem Wk.put {w : World} {g n : Nat} {t : TypeId} (h : Wk w g n t) (p : Nat) (j : Nat) (x : Value) : Wk (w.setCell ⟨p, j, none⟩ x) g n t := by
  by_cases hp : g = p
  · subst hp
    exact h.set j x
  · exact h.chg ((Chg.refl (· = p) w).setCell (p := ⟨p, j, none⟩) rfl x) hp
theorem ML.put {N1 N2 oa : Nat} {k : Int} {A B : Option Addr} {c d : Nat} {ol : List S80} {om : List S64} {w2 wr : World} (h : ML N1 N2 oa k A B c d ol om w2 wr) {p : Nat} (hp : N1 ≤ p ∧ p < N2) (j : Nat) (x : Value) : ML N1 N2 oa k A B c d ol om w2 (wr.setCell ⟨p, j, none⟩ x) :=
  ⟨h.chg.setCell (p := ⟨p, j, none⟩) hp x, blk_chg h.a ((Chg.refl (fun i => N1 ≤ i ∧ i < N2) wr).setCell (p := ⟨p, j, none⟩) hp x) (fun q => by have := h.n; omega), h.n, fun q => by obtain ⟨g, h1, h2, h3⟩ := h.wa q; exact ⟨g, h1, h2, h3.put p j x⟩, fun q => by obtain ⟨g, h1, h2, h3⟩ := h.wb q; exact ⟨g, h1, h2, h3.put p j x⟩⟩
set_option maxHeartbeats 8000000 in
set_option maxRecDepth 100000 in
theorem told_both (w : World) (b base : Nat) (P : Nat → Prop) (s y : Cel) (l : List S80) (m : List S64) (u v : Value) (t : Int) (ho : Owns w b base s l m) (hr : Rel s y) (hw : Well s) (hy : YR w base P u v l m) (hz : Sz l m) (hl : Laid w) :
    Calls Tryd.prog 22 #[.pointer (some ⟨b, 0, none⟩), agg y u v, .int .i64 t] w fun e w' => e = .returned (.bool true) ∧ Below w.heap.size w w' := by
  have HT := Lib.hid (show TI w (w.alloc (.cells (y.cells u v) 56)) w.heap.size b base P s y l m u v from ⟨ho.below ((Below.refl _ _).alloc (Nat.le_refl _) _), blk_new w _, hy.below ((Below.refl _ _).alloc (Nat.le_refl _) _), (Below.refl _ _).alloc (Nat.le_refl _) _, hr, hw⟩)
  have HZ := Lib.hid hz
  have HL := Lib.hid hl
  clear ho hr hw hy hz hl
  unfold agg Cel.cells
  go_enter Tryd.func22, Tryd.ntmps22
  go_upto_region 1 with fail
  obtain ⟨w1, g, e1, eg, hT⟩ : ∃ w1 g, w1 = w.alloc (.cells #[.bool y.again, .int .i64 y.tries, .int .i64 y.base, .int .i64 y.factor, .int .i64 y.cap, .int .i64 y.state, .int .i64 y.gen, .int .i64 y.task, .int .i64 y.fails, .int .i64 y.next, .int .i64 y.last, .int .i64 y.kind, u, v] 56) ∧ g = w.heap.size ∧ TI w w1 g b base P s y l m u v := ⟨_, _, rfl, rfl, HT.out⟩
  rw [← e1, ← eg]
  clear HT
  have HT := Lib.hid (hT.below (Below.refl w1.heap.size w1).drew)
  clear e1 eg hT
  go_region_held3 (fun w' => w'.cell? ⟨g, 0, none⟩ = some (.bool y.again) ∧ w'.cell? ⟨g, 1, none⟩ = some (.int .i64 y.tries) ∧ w'.cell? ⟨g, 2, none⟩ = some (.int .i64 y.base) ∧ w'.cell? ⟨g, 3, none⟩ = some (.int .i64 y.factor) ∧ w'.cell? ⟨g, 4, none⟩ = some (.int .i64 y.cap) ∧ w'.cell? ⟨g, 5, none⟩ = some (.int .i64 y.state) ∧ w'.cell? ⟨g, 6, none⟩ = some (.int .i64 y.gen) ∧ w'.cell? ⟨g, 7, none⟩ = some (.int .i64 y.task) ∧ w'.cell? ⟨g, 8, none⟩ = some (.int .i64 y.fails) ∧ w'.cell? ⟨g, 9, none⟩ = some (.int .i64 y.next) ∧ w'.cell? ⟨g, 10, none⟩ = some (.int .i64 y.last) ∧ w'.cell? ⟨g, 11, none⟩ = some (.int .i64 y.kind) ∧ w'.cell? ⟨g, 12, none⟩ = some (u) ∧ w'.cell? ⟨g, 13, none⟩ = some (v)) (exact HT.out.facts) (first | (go_at_call 15; refine HT.out.told.mono ?_; rintro _ w9 ⟨rfl, hb9⟩; replace HT := Lib.hid (HT.out.below hb9); clear hb9) | (go_at_call 39; refine HT.out.toldr.mono ?_; rintro _ w9 ⟨rfl, hb9⟩; replace HT := Lib.hid (HT.out.below hb9); clear hb9) | (go_at_call 18; refine (HT.out.ask _).mono ?_; rintro _ w9 ⟨rfl, hb9⟩; replace HT := Lib.hid (HT.out.below hb9); clear hb9) | (go_at_call 40; refine (HT.out.askr _).mono ?_; rintro _ w9 ⟨rfl, hb9⟩; replace HT := Lib.hid (HT.out.below hb9); clear hb9) | fail)
  go_wp2_with fail
  refine (outcome_b _ b base s l m HT.out.o HZ.out).mono ?_
  rintro _ w2 ⟨A1, B1, c1, d1, rfl, hy2, hb2⟩
  have HT2 := Lib.hid (HT.out.below hb2)
  obtain ⟨wp, hwp⟩ : ∃ x : World, x = w9 := ⟨_, rfl⟩
  rw [← hwp] at hy2 hb2 HT
  go_upto_region 4 with fail
  obtain ⟨w3, oa, e3, eo, hT3, ha3, hy3, hb3, hoa⟩ : ∃ w3 oa, w3 = w2.alloc (.cells #[.int .i64 s.kind, .slice A1 (outL s l).length c1, .slice B1 (outF s m).length d1] 37) ∧ oa = w2.heap.size ∧ TI w w3 g b base P s y l m u v ∧ w3.heap[oa]? = some (.cells #[.int .i64 s.kind, .slice A1 (outL s l).length c1, .slice B1 (outF s m).length d1] 37 (0, 0)) ∧ YR w3 wp.heap.size (fun i => i < oa) (.slice A1 (outL s l).length c1) (.slice B1 (outF s m).length d1) (outL s l) (outF s m) ∧ Below wp.heap.size wp w3 ∧ wp.heap.size ≤ oa := ⟨_, _, rfl, rfl, HT2.out.below ((Below.refl _ _).alloc (Nat.le_refl _) _), blk_new w2 _, (hy2.mono (Nat.le_refl _) (fun _ _ _ h => h)).below ((Below.refl _ _).alloc (Nat.le_refl _) _), hb2.alloc hb2.size _, hb2.size⟩
  rw [← e3, ← eo]
  have HT3 := Lib.hid hT3
  have HA3 := Lib.hid (And.intro ha3 hy3)
  have HB3 := Lib.hid (And.intro hb3 hoa)
  have HOA3 := Lib.hid hoa
  have HWP := Lib.hid HT.out.o
  have HWB := Lib.hid HT.out.bel
  clear e3 eo hT3 ha3 hy3 hb3 hoa HT2 hy2 hb2 hwp
  obtain ⟨b0, b1, b2, b3, b4, b5, b6, b7, b8, b9, b10, b11, b12, b13⟩ := HT3.out.facts
  go_wp2_with fail
  refine (HT3.out.outr HZ.out HL.out).mono ?_
  rintro _ w4 ⟨A2, B2, c2, d2, rfl, hy4, hb4⟩
  have HT4 := Lib.hid (HT3.out.below hb4)
  clear b0 b1 b2 b3 b4 b5 b6 b7 b8 b9 b10 b11 b12 b13
  go_upto_region 5 with fail
  obtain ⟨w5, ob, e5, eb, hw5, ha5, hx5, hy5, hz5, hb5, hob⟩ : ∃ w5 ob, w5 = w4.alloc (.cells #[.int .i64 s.kind, .slice A2 (outL s l).length c2, .slice B2 (outF s m).length d2] 37) ∧ ob = w4.heap.size ∧ Below w.heap.size w w5 ∧ w5.heap[oa]? = some (.cells #[.int .i64 s.kind, .slice A1 (outL s l).length c1, .slice B1 (outF s m).length d1] 37 (0, 0)) ∧ w5.heap[ob]? = some (.cells #[.int .i64 s.kind, .slice A2 (outL s l).length c2, .slice B2 (outF s m).length d2] 37 (0, 0)) ∧ YR w5 wp.heap.size (fun i => i < oa) (.slice A1 (outL s l).length c1) (.slice B1 (outF s m).length d1) (outL s l) (outF s m) ∧ YR w5 oa (fun i => oa < i) (.slice A2 (outL s l).length c2) (.slice B2 (outF s m).length d2) (outL s l) (outF s m) ∧ Below wp.heap.size wp w5 ∧ oa < ob := ⟨_, _, rfl, rfl, HT4.out.bel.alloc HT4.out.bel.size _, blk_alloc (blk_below HA3.out.1 hb4) _, blk_new w4 _, (HA3.out.2.below hb4).below ((Below.refl _ _).alloc (Nat.le_refl _) _), (hy4.mono (Nat.le_of_lt (blk_lt HA3.out.1)) (fun _ _ h _ => Nat.lt_of_lt_of_le (blk_lt HA3.out.1) h)).below ((Below.refl _ _).alloc (Nat.le_refl _) _), (below_step HB3.out.1 hb4).alloc (below_step HB3.out.1 hb4).size _, Nat.lt_of_lt_of_le (blk_lt HA3.out.1) hb4.size⟩
  rw [← e5, ← eb]
  have HW5 := Lib.hid hw5
  have HA5 := Lib.hid ha5
  have HX5 := Lib.hid hx5
  have HY5 := Lib.hid hy5
  have HZ5 := Lib.hid hz5
  have HB5 := Lib.hid (And.intro hb5 hob)
  clear e5 eb hw5 ha5 hx5 hy5 hz5 hb5 hob HT3 HA3 HT4 hy4 hb4
  have a0 := (blk_cell HA5.out 0).trans rfl
  have a1 := (blk_cell HA5.out 1).trans rfl
  have a2 := (blk_cell HA5.out 2).trans rfl
  have q0 := (blk_cell HX5.out 0).trans rfl
  have q1 := (blk_cell HX5.out 1).trans rfl
  have q2 := (blk_cell HX5.out 2).trans rfl
  have hab : oa ≠ ob := Nat.ne_of_lt HB5.out.2
  go_wp2_with fail
  have hp1 := HY5.out.put (outSzP s HZ.out) (HL.out.below HW5.out)
  have hp2 := HZ5.out.put (outSzP s HZ.out) (HL.out.below HW5.out)
  refine (same_out _ s.kind A1 B1 A2 B2 c1 d1 c2 d2 (outL s l) (outF s m) (outSzP s HZ.out) hp1.r1 hp1.c1 hp1.r2 hp1.c2 hp2.r1 hp2.c1 hp2.r2 hp2.c2).mono ?_
  rintro _ w6 ⟨rfl, hb6⟩
  clear hp1 hp2
  have HA6 := Lib.hid (blk_below HA5.out hb6)
  have HX6 := Lib.hid (blk_below HX5.out hb6)
  have HZ6 := Lib.hid (HZ5.out.below hb6)
  have HW6 := Lib.hid (below_step HW5.out hb6)
  have HB6 := Lib.hid (And.intro (below_step HB5.out.1 hb6) HB5.out.2)
  have HM := Lib.hid (ML.start (HY5.out.below hb6) HA6.out (Nat.le_refl oa))
  have HSZ := Lib.hid (outSzP s HZ.out)
  have HOA := Lib.hid HOA3.out
  clear a0 a1 a2 q0 q1 q2 hb6 HA5 HX5 HY5 HZ5 HW5 HB5 HA6
  go_wp2_with fail
  go_loopg [11] (outL s l).length (fun gk v11 wr => ∃ i : Nat, v11 = .int .i64 i ∧ gk = (outL s l).length - i ∧ i ≤ (outL s l).length ∧ Hid (ML wp.heap.size oa oa s.kind A1 B1 c1 d1 (outL s l) (outF s m) w6 wr))
  case atStart => exact ⟨0, rfl, by simp, by omega, HM⟩
  case round =>
    clear HM
    obtain ⟨i, rfl, rfl, hil, HM⟩ := hrel
    have a1 := (blk_cell HM.out.a 1).trans rfl
    by_cases hlt : i < (outL s l).length
    rotate_left
    · have hlt' : ¬ (i : Int) < ((outL s l).length : Int) := by omega
      go_wp2_with fail
      go_loopg [12] (outF s m).length (fun gk v12 wq => ∃ i2 : Nat, v12 = .int .i64 i2 ∧ gk = (outF s m).length - i2 ∧ i2 ≤ (outF s m).length ∧ Hid (ML wp.heap.size oa oa s.kind A1 B1 c1 d1 (outL s l) (outF s m) w6 wq))
      case atStart => exact ⟨0, rfl, by simp, by omega, HM⟩
      case round =>
        clear HM a1 hlt hlt'
        obtain ⟨j, rfl, rfl, hjl, HM⟩ := hrel
        have a2 := (blk_cell HM.out.a 2).trans rfl
        by_cases hlt : j < (outF s m).length
        rotate_left
        · have hlt' : ¬ (j : Int) < ((outF s m).length : Int) := by omega
          go_wp2_with fail
          have HW7 := Lib.hid (Chg.below HB6.out.1 HM.out.chg (fun k hk => hk.1) HB6.out.1.size)
          have HX7 := Lib.hid (blk_chg HX6.out HM.out.chg (fun q => by have := HB6.out.2; omega))
          have HZ7 := Lib.hid (HZ6.out.chg HM.out.chg (fun k hk q => by omega))
          refine (outcome_b _ b base s l m (HWP.out.below HW7.out) HZ.out).mono ?_
          rintro _ w8 ⟨A3, B3, c3, d3, rfl, hy8, hb8⟩
          have HA8 := Lib.hid (blk_below HM.out.a hb8)
          have HX8 := Lib.hid (blk_below HX7.out hb8)
          have HZ8 := Lib.hid (HZ7.out.below hb8)
          have HY8 := Lib.hid (hy8.mono (base' := oa) (P' := fun k => oa < k) (Nat.le_of_lt (blk_lt HM.out.a)) (fun _ _ h _ => Nat.lt_of_lt_of_le (blk_lt HM.out.a) h))
          have HW8 := Lib.hid (below_step HW7.out hb8)
          clear a2 hy8 hb8 HM HW7 HX7 HZ7 HX6 HZ6
          have a0 := (blk_cell HA8.out 0).trans rfl
          have a1 := (blk_cell HA8.out 1).trans rfl
          have a2 := (blk_cell HA8.out 2).trans rfl
          have af := blk_frozen HA8.out
          go_upto_region 16 with fail
          obtain ⟨w9, e9, hA9, hX9, hY9, hZ9, hW9⟩ : ∃ w9, w9 = ((w8.setCell ⟨oa, 0, none⟩ (.int .i64 s.kind)).setCell ⟨oa, 1, none⟩ (.slice A3 (outL s l).length c3)).setCell ⟨oa, 2, none⟩ (.slice B3 (outF s m).length d3) ∧ w9.heap[oa]? = some (.cells #[.int .i64 s.kind, .slice A3 (outL s l).length c3, .slice B3 (outF s m).length d3] 37 (0, 0)) ∧ w9.heap[ob]? = some (.cells #[.int .i64 s.kind, .slice A2 (outL s l).length c2, .slice B2 (outF s m).length d2] 37 (0, 0)) ∧ YR w9 oa (fun k => oa < k) (.slice A3 (outL s l).length c3) (.slice B3 (outF s m).length d3) (outL s l) (outF s m) ∧ YR w9 oa (fun k => oa < k) (.slice A2 (outL s l).length c2) (.slice B2 (outF s m).length d2) (outL s l) (outF s m) ∧ Below wp.heap.size wp w9 := by
            have hc : Chg (· = oa) w8 (((w8.setCell ⟨oa, 0, none⟩ (.int .i64 s.kind)).setCell ⟨oa, 1, none⟩ (.slice A3 (outL s l).length c3)).setCell ⟨oa, 2, none⟩ (.slice B3 (outF s m).length d3)) := (((Chg.refl (· = oa) _).setCell (p := ⟨_, 0, none⟩) rfl _).setCell (p := ⟨_, 1, none⟩) rfl _).setCell (p := ⟨_, 2, none⟩) rfl _
            exact ⟨_, rfl, (blk_set (blk_set (blk_set HA8.out 0 _) 1 _) 2 _).trans (by simp), blk_chg HX8.out hc (fun q => by have := HB6.out.2; omega), HY8.out.chg hc (fun k hk q => by omega), HZ8.out.chg hc (fun k hk q => by omega), Chg.below HW8.out hc (fun k hk => by have := HOA.out; omega) HW8.out.size⟩
          rw [← e9]
          have HA9 := Lib.hid hA9
          have HX9 := Lib.hid hX9
          have HW9 := Lib.hid hW9
          have HL9 := Lib.hid (HL.out.below (below_step HWB.out hW9))
          have hp1 := hY9.put HSZ.out HL9.out
          have hp2 := hZ9.put HSZ.out HL9.out
          have HP12 := Lib.hid (And.intro hp1 hp2)
          clear a0 a1 a2 af e9 hA9 hX9 hY9 hZ9 hW9 hp1 hp2 HA8 HX8 HZ8 HY8 HW8
          have a0 := (blk_cell HA9.out 0).trans rfl
          have a1 := (blk_cell HA9.out 1).trans rfl
          have a2 := (blk_cell HA9.out 2).trans rfl
          have q0 := (blk_cell HX9.out 0).trans rfl
          have q1 := (blk_cell HX9.out 1).trans rfl
          have q2 := (blk_cell HX9.out 2).trans rfl
          go_wp2_with fail
          refine (same_out _ s.kind A3 B3 A2 B2 c3 d3 c2 d2 (outL s l) (outF s m) HSZ.out HP12.out.1.r1 HP12.out.1.c1 HP12.out.1.r2 HP12.out.1.c2 HP12.out.2.r1 HP12.out.2.c1 HP12.out.2.r2 HP12.out.2.c2).mono ?_
          rintro _ w10 ⟨rfl, hb10⟩
          have HW10 := Lib.hid (below_step HWB.out (below_step HW9.out hb10))
          clear hb10 a0 a1 a2 q0 q1 q2
          go_wp2_with fail
          go_ret
          exact ⟨rfl, HW10.out⟩
        have hlt' : (j : Int) < ((outF s m).length : Int) := by omega
        obtain ⟨ga, hA, hga, hwk⟩ := HM.out.wb (by omega)
        subst hA
        obtain ⟨x0, k0⟩ := hwk.cell (j := j * 3) (by omega)
        obtain ⟨x1, k1⟩ := hwk.cell (j := j * 3 + 1) (by omega)
        obtain ⟨x2, k2⟩ := hwk.cell (j := j * 3 + 2) (by omega)
        have kf := hwk.frozen
        have hwi : wrap64 ((j : Int) + 1) = ((j + 1 : Nat) : Int) := by
          have h9 := HSZ.out.2
          rw [← i64_w, IntWalk.i64_in _ (by omega)]; omega
        clear hwk
        go_wp2_with fail
        go_roundg ((outF s m).length - (j + 1))
        case measure => omega
        case rel => exact ⟨j + 1, by rw [hwi], rfl, by omega, Lib.hid (((HM.out.put hga _ _).put hga _ _).put hga _ _)⟩
    have hlt' : (i : Int) < ((outL s l).length : Int) := by omega
    obtain ⟨ga, hA, hga, hwk⟩ := HM.out.wa (by omega)
    subst hA
    obtain ⟨x0, k0⟩ := hwk.cell (j := i * 4) (by omega)
    obtain ⟨x1, k1⟩ := hwk.cell (j := i * 4 + 1) (by omega)
    obtain ⟨x2, k2⟩ := hwk.cell (j := i * 4 + 2) (by omega)
    obtain ⟨x3, k3⟩ := hwk.cell (j := i * 4 + 3) (by omega)
    have kf := hwk.frozen
    have hwi : wrap64 ((i : Int) + 1) = ((i + 1 : Nat) : Int) := by
      have h9 := HSZ.out.1
      rw [← i64_w, IntWalk.i64_in _ (by omega)]; omega
    clear hwk
    go_wp2_with fail
    go_roundg ((outL s l).length - (i + 1))
    case measure => omega
    case rel => exact ⟨i + 1, by rw [hwi], rfl, by omega, Lib.hid ((((HM.out.put hga _ _).put hga _ _).put hga _ _).put hga _ _)⟩
end Go.Proofs.YtchbammjcnhkiaaDoor.Ce
namespace Go.Proofs.YtchbammjcnhkiaaDoor.Ce
open Go.RowKit Go.Maps Go.Proofs.YtchbammjcnhkiaaDoor Go.Proofs.YtchbammjcnhkiaaDoorW.PrintWords Go.Proofs.YtchbammjcnhkiaaDoorW.PrintLast Go.Proofs.YtchbammjcnhkiaaDoorW.PrintMore PCellPlays
attribute [local go_sem] max2_int min2_int max_two min_two max_three min_three
theorem Chg.over {S T : Nat → Prop} {a w w' : World} (h : Chg S a w) (k : Chg T w w') (hs : ∀ i, T i → S i ∨ a.heap.size ≤ i) : Chg S a w' :=
  ⟨k.os.trans h.os, k.tape.trans h.tape, k.output.trans h.output, Nat.le_trans h.size k.size, fun i hi hn => (k.block i (Nat.lt_of_lt_of_le hi h.size) (fun q => by rcases hs i q with r | r; exact hn r; omega)).trans (h.block i hi hn)⟩
/-- The frame of an act: the document's cell, the act, what is told. -/
structure PW (w wr : World) (gy ga gz b : Nat) (y : Cel) (u v : Value) (ac : Array Value) : Prop where
  x : Bx wr gy y u v
  a : wr.heap[ga]? = some (.cells ac 39 (0, 0))
  z : wr.heap[gz]? = some (.cells z14 56 (0, 0))
  chg : Chg (· = b) w wr
  hb : b < w.heap.size
  n1 : w.heap.size ≤ gy
  n2 : w.heap.size ≤ ga
  n3 : w.heap.size ≤ gz
  n4 : gz < wr.heap.size
theorem PW.mk3 (w : World) (b : Nat) (y : Cel) (u v : Value) (ac : Array Value) (hb : b < w.heap.size) : PW w (((w.alloc (.cells (y.cells u v) 56)).alloc (.cells ac 39)).alloc (.cells z14 56)) w.heap.size (w.heap.size + 1) (w.heap.size + 2) b y u v ac := by
  refine ⟨blk_alloc (blk_alloc (blk_new _ _) _) _, ?_, ?_, (((Chg.refl _ _).alloc _).alloc _).alloc _, hb, by omega, by omega, by omega, by simp⟩
  · have := blk_new (w.alloc (.cells (y.cells u v) 56)) (.cells ac 39)
    rw [show (w.alloc (.cells (y.cells u v) 56)).heap.size = w.heap.size + 1 by simp] at this
    exact blk_alloc this _
  · have := blk_new ((w.alloc (.cells (y.cells u v) 56)).alloc (.cells ac 39)) (.cells z14 56)
    rwa [show ((w.alloc (.cells (y.cells u v) 56)).alloc (.cells ac 39)).heap.size = w.heap.size + 2 by simp] at this
theorem PW.below {w wr w3 : World} {gy ga gz b : Nat} {y : Cel} {u v : Value} {ac : Array Value} (h : PW w wr gy ga gz b y u v ac) (hb : Below wr.heap.size wr w3) : PW w w3 gy ga gz b y u v ac := ⟨blk_below h.x hb, blk_below h.a hb, blk_below h.z hb, h.chg.trans (Chg.of_below hb), h.hb, h.n1, h.n2, h.n3, Nat.lt_of_lt_of_le h.n4 hb.size⟩
theorem PW.turn {w wr w3 : World} {gy ga gz b : Nat} {y : Cel} {u v : Value} {ac : Array Value} (h : PW w wr gy ga gz b y u v ac) (hc : Chg (· = b) wr w3) : PW w w3 gy ga gz b y u v ac := ⟨blk_chg h.x hc (by have := h.n1; have := h.hb; omega), blk_chg h.a hc (by have := h.n2; have := h.hb; omega), blk_chg h.z hc (by have := h.n3; have := h.hb; omega), h.chg.trans hc, h.hb, h.n1, h.n2, h.n3, Nat.lt_of_lt_of_le h.n4 hc.size⟩
theorem PW.yfacts {w wr : World} {gy ga gz b : Nat} {y : Cel} {u v : Value} {ac : Array Value} (h : PW w wr gy ga gz b y u v ac) : wr.cell? ⟨gy, 0, none⟩ = some (.bool y.again) ∧ wr.cell? ⟨gy, 1, none⟩ = some (.int .i64 y.tries) ∧ wr.cell? ⟨gy, 2, none⟩ = some (.int .i64 y.base) ∧ wr.cell? ⟨gy, 3, none⟩ = some (.int .i64 y.factor) ∧ wr.cell? ⟨gy, 4, none⟩ = some (.int .i64 y.cap) ∧ wr.cell? ⟨gy, 5, none⟩ = some (.int .i64 y.state) ∧ wr.cell? ⟨gy, 6, none⟩ = some (.int .i64 y.gen) ∧ wr.cell? ⟨gy, 7, none⟩ = some (.int .i64 y.task) ∧ wr.cell? ⟨gy, 8, none⟩ = some (.int .i64 y.fails) ∧ wr.cell? ⟨gy, 9, none⟩ = some (.int .i64 y.next) ∧ wr.cell? ⟨gy, 10, none⟩ = some (.int .i64 y.last) ∧ wr.cell? ⟨gy, 11, none⟩ = some (.int .i64 y.kind) ∧ wr.cell? ⟨gy, 12, none⟩ = some (u) ∧ wr.cell? ⟨gy, 13, none⟩ = some (v) := by
  obtain ⟨b0, b1, b2, b3, b4, b5, b6, b7, b8, b9, b10, b11, b12, b13, bf⟩ := h.x.facts
  exact ⟨b0, b1, b2, b3, b4, b5, b6, b7, b8, b9, b10, b11, b12, b13⟩
theorem PW.zfacts {w wr : World} {gy ga gz b : Nat} {y : Cel} {u v : Value} {ac : Array Value} (h : PW w wr gy ga gz b y u v ac) : wr.cell? ⟨gz, 0, none⟩ = some (.bool false) ∧ wr.cell? ⟨gz, 1, none⟩ = some (.int .i64 0) ∧ wr.cell? ⟨gz, 2, none⟩ = some (.int .i64 0) ∧ wr.cell? ⟨gz, 3, none⟩ = some (.int .i64 0) ∧ wr.cell? ⟨gz, 4, none⟩ = some (.int .i64 0) ∧ wr.cell? ⟨gz, 5, none⟩ = some (.int .i64 0) ∧ wr.cell? ⟨gz, 6, none⟩ = some (.int .i64 0) ∧ wr.cell? ⟨gz, 7, none⟩ = some (.int .i64 0) ∧ wr.cell? ⟨gz, 8, none⟩ = some (.int .i64 0) ∧ wr.cell? ⟨gz, 9, none⟩ = some (.int .i64 0) ∧ wr.cell? ⟨gz, 10, none⟩ = some (.int .i64 0) ∧ wr.cell? ⟨gz, 11, none⟩ = some (.int .i64 0) ∧ wr.cell? ⟨gz, 12, none⟩ = some (.slice none 0 0) ∧ wr.cell? ⟨gz, 13, none⟩ = some (.slice none 0 0) ∧ ∀ k, wr.frozen? ⟨gz, k, none⟩ = false := by
  have hz := h.z
  unfold z14 at hz
  exact ⟨(blk_cell hz 0).trans rfl, (blk_cell hz 1).trans rfl, (blk_cell hz 2).trans rfl, (blk_cell hz 3).trans rfl, (blk_cell hz 4).trans rfl, (blk_cell hz 5).trans rfl, (blk_cell hz 6).trans rfl, (blk_cell hz 7).trans rfl, (blk_cell hz 8).trans rfl, (blk_cell hz 9).trans rfl, (blk_cell hz 10).trans rfl, (blk_cell hz 11).trans rfl, (blk_cell hz 12).trans rfl, (blk_cell hz 13).trans rfl, fun k => blk_frozen hz k⟩
theorem PW.afacts {w wr : World} {gy ga gz b : Nat} {y : Cel} {u v : Value} {a : ActV} {A B : Option Addr} {c d : Nat} (h : PW w wr gy ga gz b y u v #[.int .i64 a.kind, .int .i64 a.task, .int .i64 a.time, .int .i64 a.ok, .slice A a.vl.length c, .slice B a.fl.length d]) : wr.cell? ⟨ga, 0, none⟩ = some (.int .i64 a.kind) ∧ wr.cell? ⟨ga, 1, none⟩ = some (.int .i64 a.task) ∧ wr.cell? ⟨ga, 2, none⟩ = some (.int .i64 a.time) ∧ wr.cell? ⟨ga, 3, none⟩ = some (.int .i64 a.ok) ∧ wr.cell? ⟨ga, 4, none⟩ = some (.slice A a.vl.length c) ∧ wr.cell? ⟨ga, 5, none⟩ = some (.slice B a.fl.length d) := by
  have hz := h.a
  exact ⟨(blk_cell hz 0).trans rfl, (blk_cell hz 1).trans rfl, (blk_cell hz 2).trans rfl, (blk_cell hz 3).trans rfl, (blk_cell hz 4).trans rfl, (blk_cell hz 5).trans rfl⟩
/-- What an act leaves. -/
structure PR (w w' : World) (b base : Nat) (P : Nat → Prop) (s y : Cel) (l : List S80) (m : List S64) (u v : Value) : Prop where
  o : Owns w' b base s l m
  well : Well s
  rel : Rel s y
  r : YR w' base P u v l m
  z : Sz l m
  chg : Chg (· = b) w w'
abbrev PlayC (w : World) (b base : Nat) (P : Nat → Prop) (y : Cel) (u v : Value) (a : ActV) (A B : Option Addr) (c d : Nat) : Prop := Calls Tryd.prog 21 #[.pointer (some ⟨b, 0, none⟩), agg y u v, .agg #[.int .i64 a.kind, .int .i64 a.task, .int .i64 a.time, .int .i64 a.ok, .slice A a.vl.length c, .slice B a.fl.length d]] w fun e w' => ∃ s' y' l' m' u' v', e = .returned (.tuple #[agg y' u' v', .bool true]) ∧ PR w w' b base P s' y' l' m' u' v'
theorem row_far {α : Type} {d : Kd α} {e base g t : Nat} {w w' : World} {P : Nat → Prop} {v : Value} {xs : List α} {cs : Array Value} (hE : d.E = []) (h : Kd.R d e w base P v xs) (hb : w.heap[g]? = some (.cells cs t (0, 0))) (ht : e ≠ t) (hc : Chg (· = g) w w') : Kd.R d e w' base P v xs :=
  Kd.R_mono (Kd.R_step (Kd.R_tight2 hE h) (fun k hk hlt => hc.block k hlt (fun q => Kd.R_ne h hb ht (by rw [← q]; exact hk.1)))) (fun _ hk => hk.2)
theorem YR.far {w w' : World} {base g t : Nat} {P : Nat → Prop} {u v : Value} {l : List S80} {m : List S64} {cs : Array Value} (h : YR w base P u v l m) (hb : w.heap[g]? = some (.cells cs t (0, 0))) (h1 : 80 ≠ t) (h2 : 64 ≠ t) (hc : Chg (· = g) w w') : YR w' base P u v l m := ⟨row_far rfl h.u hb h1 hc, row_far rfl h.v hb h2 hc⟩
theorem Owns.far {w w' : World} {b base g t : Nat} {s : Cel} {l : List S80} {m : List S64} {cs : Array Value} (h : Owns w b base s l m) (hb : w.heap[g]? = some (.cells cs t (0, 0))) (h1 : 80 ≠ t) (h2 : 64 ≠ t) (hg : g ≠ b) (hc : Chg (· = g) w w') : Owns w' b base s l m := by
  obtain ⟨u, v, h3, h4, h5⟩ := h
  exact ⟨u, v, blk_chg h3 hc (Ne.symm hg), row_far rfl h4 hb h1 hc, row_far rfl h5 hb h2 hc⟩
set_option maxHeartbeats 8000000 in
set_option maxRecDepth 100000 in
theorem play_begin (w : World) (b base : Nat) (P : Nat → Prop) (s y : Cel) (l : List S80) (m : List S64) (u v : Value) (a : ActV) (A B : Option Addr) (c d : Nat) (ho : Owns w b base s l m) (hw : Well s) (hr : Rel s y) (hy : YR w base P u v l m) (hz : Sz l m) (hP : ¬ P b) (hPn : ∀ k, w.heap.size ≤ k → P k) (hbase : base ≤ w.heap.size) (hk : amongB a.kind = 0) : PlayC w b base P y u v a A B c d := by
  have HO := Lib.hid ho
  have HW := Lib.hid hw
  have HR := Lib.hid hr
  have HY := Lib.hid hy
  have HZ := Lib.hid hz
  have HP := Lib.hid (show ∀ k, P k → ¬ k = b from fun k h e => hP (e ▸ h))
  have HPN := Lib.hid hPn
  have HBA := Lib.hid hbase
  have HW0 := Lib.hid (PW.mk3 w b y u v #[.int .i64 a.kind, .int .i64 a.task, .int .i64 a.time, .int .i64 a.ok, .slice A a.vl.length c, .slice B a.fl.length d] ho.lt)
  have HK := Lib.hid hk
  clear ho hw hr hy hz hP hPn hbase hk
  unfold PlayC agg Cel.cells
  go_enter Tryd.func21, Tryd.ntmps21
  go_upto_region 1 with fail
  obtain ⟨w1, gy, ga, gz, e1, ey, ea, ez, hW, hb1⟩ : ∃ w1 gy ga gz, w1 = ((w.alloc (.cells #[.bool y.again, .int .i64 y.tries, .int .i64 y.base, .int .i64 y.factor, .int .i64 y.cap, .int .i64 y.state, .int .i64 y.gen, .int .i64 y.task, .int .i64 y.fails, .int .i64 y.next, .int .i64 y.last, .int .i64 y.kind, u, v] 56)).alloc (.cells #[.int .i64 a.kind, .int .i64 a.task, .int .i64 a.time, .int .i64 a.ok, .slice A a.vl.length c, .slice B a.fl.length d] 39)).alloc (.cells #[.bool false, .int .i64 0, .int .i64 0, .int .i64 0, .int .i64 0, .int .i64 0, .int .i64 0, .int .i64 0, .int .i64 0, .int .i64 0, .int .i64 0, .int .i64 0, .slice none 0 0, .slice none 0 0] 56) ∧ gy = w.heap.size ∧ ga = w.heap.size + 1 ∧ gz = w.heap.size + 1 + 1 ∧ PW w w1 gy ga gz b y u v #[.int .i64 a.kind, .int .i64 a.task, .int .i64 a.time, .int .i64 a.ok, .slice A a.vl.length c, .slice B a.fl.length d] ∧ Below w.heap.size w w1 := ⟨_, _, _, _, rfl, rfl, rfl, rfl, HW0.out, (((Below.refl _ _).alloc (Nat.le_refl _) _).alloc (by simp) _).alloc (by simp only [World.size_alloc]; omega) _⟩
  rw [← e1, ← ez, ← ea, ← ey]
  have HW1 := Lib.hid hW
  have HO1 := Lib.hid (HO.out.below hb1)
  have HY1 := Lib.hid (HY.out.below hb1)
  have HB1 := Lib.hid hb1
  clear e1 ey ea ez hW hb1 HW0 HO HY
  obtain ⟨a0, a1, a2, a3, a4, a5⟩ := HW1.out.afacts
  go_wp2_with fail
  refine (among_be a.kind _ HK.out).mono ?_
  rintro _ w2 ⟨rfl, n, e2⟩
  have HW2 := Lib.hid (HW1.out.below (w3 := w2) (by rw [e2]; exact pw_below_drewN (Below.refl _ _) n))
  have HO2 := Lib.hid (HO1.out.below (w' := w2) (by rw [e2]; exact pw_below_drewN (Below.refl _ _) n))
  have HY2 := Lib.hid (HY1.out.below (w' := w2) (by rw [e2]; exact pw_below_drewN (Below.refl _ _) n))
  have HB2 := Lib.hid (show Below w.heap.size w w2 by rw [e2]; exact pw_below_drewN HB1.out n)
  clear a0 a1 a2 a3 a4 a5 e2 HW1 HO1 HY1 HB1
  obtain ⟨a0, a1, a2, a3, a4, a5⟩ := HW2.out.afacts
  obtain ⟨r, e, s', l', m', hrel, hl1, hl2, hcall⟩ := begin_o w2 b base s l m a.task a.time HO2.out HW.out
  have HC := Lib.hid hcall
  have HBR := Lib.hid (And.intro hrel (And.intro hl1 hl2))
  have HWELL := Lib.hid (show Well s' from by
    rcases hrel.2 with ⟨_, _, rfl⟩ | ⟨_, _, _, hn, ha, hg, _, rfl⟩
    · exact HW.out
    · exact HW.out.begun hn ha hg)
  have HSZ := Lib.hid (show Sz l' m' from by
    rcases hrel.2 with ⟨h, _, _⟩ | ⟨h, _⟩
    · obtain ⟨rfl, rfl⟩ := hl1 h
      exact HZ.out
    · obtain ⟨rfl, rfl⟩ := hl2 h
      exact ⟨by decide, by decide⟩)
  clear hcall hrel hl1 hl2
  go_wp2_with fail
  refine HC.out.mono ?_
  rintro _ w5 ⟨rfl, hc5, ho5⟩
  have HW5 := Lib.hid (HW2.out.turn hc5)
  have HO5 := Lib.hid ho5
  have HY5 := Lib.hid (HY2.out.chg hc5 HP.out)
  clear HC hc5 ho5 a0 a1 a2 a3 a4 a5 HW2 HO2 HY2
  obtain ⟨a0, a1, a2, a3, a4, a5⟩ := HW5.out.afacts
  obtain ⟨b0, b1, b2, b3, b4, b5, b6, b7, b8, b9, b10, b11, b12, b13⟩ := HW5.out.yfacts
  go_wp2_with fail
  refine (beginr_o _ base P s y s' u v l l' m m' a.task a.time r e HR.out HW.out HY5.out HBR.out.1 HBR.out.2.1 HBR.out.2.2).mono ?_
  rintro _ w6 ⟨y', u', v', rfl, hr6, hy6, hb6⟩
  obtain ⟨A', B', c', d', rfl, rfl⟩ := hy6.slices
  have HREL := Lib.hid hr6
  have HY6 := Lib.hid hy6
  have HW6 := Lib.hid (HW5.out.below hb6)
  have HO6 := Lib.hid (HO5.out.below hb6)
  clear hr6 hy6 hb6 a0 a1 a2 a3 a4 a5 b0 b1 b2 b3 b4 b5 b6 b7 b8 b9 b10 b11 b12 b13 HW5 HO5 HY5
  unfold agg Cel.cells
  go_upto_region 5 with fail
  obtain ⟨w7, gn, e7, en, hW7, hO7, hY7, hn7, hne⟩ : ∃ w7 gn, w7 = w6.alloc (.cells #[.bool y'.again, .int .i64 y'.tries, .int .i64 y'.base, .int .i64 y'.factor, .int .i64 y'.cap, .int .i64 y'.state, .int .i64 y'.gen, .int .i64 y'.task, .int .i64 y'.fails, .int .i64 y'.next, .int .i64 y'.last, .int .i64 y'.kind, (.slice A' l'.length c'), (.slice B' m'.length d')] 56) ∧ gn = w6.heap.size ∧ PW w w7 gy ga gz b y u v #[.int .i64 a.kind, .int .i64 a.task, .int .i64 a.time, .int .i64 a.ok, .slice A a.vl.length c, .slice B a.fl.length d] ∧ Owns w7 b base s' l' m' ∧ YR w7 base P (.slice A' l'.length c') (.slice B' m'.length d') l' m' ∧ Bx w7 gn y' (.slice A' l'.length c') (.slice B' m'.length d') ∧ gz ≠ gn := ⟨_, _, rfl, rfl, HW6.out.below ((Below.refl _ _).alloc (Nat.le_refl _) _), HO6.out.below ((Below.refl _ _).alloc (Nat.le_refl _) _), HY6.out.below ((Below.refl _ _).alloc (Nat.le_refl _) _), blk_new w6 _, by have := HW6.out.n4; omega⟩
  rw [← e7, ← en]
  have HW7 := Lib.hid hW7
  have HO7 := Lib.hid hO7
  have HY7 := Lib.hid hY7
  have HN7 := Lib.hid hn7
  have hne2 := Ne.symm hne
  clear e7 en hW7 hO7 hY7 hn7 HW6 HO6 HY6
  obtain ⟨n0, n1, n2, n3, n4, n5, n6, n7, n8, n9, n10, n11, n12, n13, nf⟩ := HN7.out.facts
  obtain ⟨z0, z1, z2, z3, z4, z5, z6, z7, z8, z9, z10, z11, z12, z13, zf⟩ := HW7.out.zfacts
  have HPUT := Lib.hid (put14 w7 gz y' (.slice A' l'.length c') (.slice B' m'.length d') HW7.out.z)
  go_wp2_with fail
  refine bodyPost_ret (results_ct rfl _ _ gz 56 (y'.cells (.slice A' l'.length c') (.slice B' m'.length d')) (0, 0) _ rfl HPUT.out.1 Tryd.underlying56 rfl (by kernel_rfl)) rfl ?_
  have hcb : Chg (· = gz) w7 _ := HPUT.out.2
  have hgb : gz ≠ b := by have := HW7.out.n3; have := HW7.out.hb; omega
  have hgs : w.heap.size ≤ gz := HW7.out.n3
  exact ⟨s', y', l', m', _, _, rfl, ⟨HO7.out.far HW7.out.z (by decide) (by decide) hgb hcb, HWELL.out, HREL.out, HY7.out.far HW7.out.z (by decide) (by decide) hcb, HSZ.out, Chg.over HW7.out.chg hcb (fun i q => .inr (by rw [q]; exact hgs))⟩⟩
set_option maxHeartbeats 8000000 in
set_option maxRecDepth 100000 in
theorem play_reset (w : World) (b base : Nat) (P : Nat → Prop) (s y : Cel) (l : List S80) (m : List S64) (u v : Value) (a : ActV) (A B : Option Addr) (c d : Nat) (ho : Owns w b base s l m) (hw : Well s) (hr : Rel s y) (hy : YR w base P u v l m) (hz : Sz l m) (hP : ¬ P b) (hPn : ∀ k, w.heap.size ≤ k → P k) (hbase : base ≤ w.heap.size) (hk : amongB a.kind = 2) : PlayC w b base P y u v a A B c d := by
  have HO := Lib.hid ho
  have HW := Lib.hid hw
  have HR := Lib.hid hr
  have HY := Lib.hid hy
  have HZ := Lib.hid hz
  have HP := Lib.hid (show ∀ k, P k → ¬ k = b from fun k h e => hP (e ▸ h))
  have HPN := Lib.hid hPn
  have HBA := Lib.hid hbase
  have HW0 := Lib.hid (PW.mk3 w b y u v #[.int .i64 a.kind, .int .i64 a.task, .int .i64 a.time, .int .i64 a.ok, .slice A a.vl.length c, .slice B a.fl.length d] ho.lt)
  have HK := Lib.hid hk
  clear ho hw hr hy hz hP hPn hbase hk
  unfold PlayC agg Cel.cells
  go_enter Tryd.func21, Tryd.ntmps21
  go_upto_region 1 with fail
  obtain ⟨w1, gy, ga, gz, e1, ey, ea, ez, hW, hb1⟩ : ∃ w1 gy ga gz, w1 = ((w.alloc (.cells #[.bool y.again, .int .i64 y.tries, .int .i64 y.base, .int .i64 y.factor, .int .i64 y.cap, .int .i64 y.state, .int .i64 y.gen, .int .i64 y.task, .int .i64 y.fails, .int .i64 y.next, .int .i64 y.last, .int .i64 y.kind, u, v] 56)).alloc (.cells #[.int .i64 a.kind, .int .i64 a.task, .int .i64 a.time, .int .i64 a.ok, .slice A a.vl.length c, .slice B a.fl.length d] 39)).alloc (.cells #[.bool false, .int .i64 0, .int .i64 0, .int .i64 0, .int .i64 0, .int .i64 0, .int .i64 0, .int .i64 0, .int .i64 0, .int .i64 0, .int .i64 0, .int .i64 0, .slice none 0 0, .slice none 0 0] 56) ∧ gy = w.heap.size ∧ ga = w.heap.size + 1 ∧ gz = w.heap.size + 1 + 1 ∧ PW w w1 gy ga gz b y u v #[.int .i64 a.kind, .int .i64 a.task, .int .i64 a.time, .int .i64 a.ok, .slice A a.vl.length c, .slice B a.fl.length d] ∧ Below w.heap.size w w1 := ⟨_, _, _, _, rfl, rfl, rfl, rfl, HW0.out, (((Below.refl _ _).alloc (Nat.le_refl _) _).alloc (by simp) _).alloc (by simp only [World.size_alloc]; omega) _⟩
  rw [← e1, ← ez, ← ea, ← ey]
  have HW1 := Lib.hid hW
  have HO1 := Lib.hid (HO.out.below hb1)
  have HY1 := Lib.hid (HY.out.below hb1)
  have HB1 := Lib.hid hb1
  clear e1 ey ea ez hW hb1 HW0 HO HY
  obtain ⟨a0, a1, a2, a3, a4, a5⟩ := HW1.out.afacts
  go_wp2_with fail
  refine (among_be a.kind _ HK.out).mono ?_
  rintro _ w2 ⟨rfl, n, e2⟩
  have HW2 := Lib.hid (HW1.out.below (w3 := w2) (by rw [e2]; exact pw_below_drewN (Below.refl _ _) n))
  have HO2 := Lib.hid (HO1.out.below (w' := w2) (by rw [e2]; exact pw_below_drewN (Below.refl _ _) n))
  have HY2 := Lib.hid (HY1.out.below (w' := w2) (by rw [e2]; exact pw_below_drewN (Below.refl _ _) n))
  have HB2 := Lib.hid (show Below w.heap.size w w2 by rw [e2]; exact pw_below_drewN HB1.out n)
  clear a0 a1 a2 a3 a4 a5 e2 HW1 HO1 HY1 HB1
  obtain ⟨a0, a1, a2, a3, a4, a5⟩ := HW2.out.afacts
  obtain ⟨e, s', l', m', he, hcs, hcall⟩ := reset_o w2 b base s l m a.time HO2.out
  have HC := Lib.hid hcall
  have HBR := Lib.hid (And.intro he hcs)
  have HWELL := Lib.hid (show Well s' from by
    rcases hcs with ⟨_, rfl, _, _⟩ | ⟨_, hn, _, _, rfl, _, _⟩
    · exact HW.out
    · exact HW.out.idled hn)
  have HSZ := Lib.hid (show Sz l' m' from by
    rcases hcs with ⟨_, _, rfl, rfl⟩ | ⟨_, _, _, _, _, rfl, rfl⟩
    · exact HZ.out
    · exact ⟨by decide, by decide⟩)
  clear hcall he hcs
  go_wp2_with fail
  refine HC.out.mono ?_
  rintro _ w5 ⟨rfl, hc5, ho5⟩
  have HW5 := Lib.hid (HW2.out.turn hc5)
  have HO5 := Lib.hid ho5
  have HY5 := Lib.hid (HY2.out.chg hc5 HP.out)
  clear HC hc5 ho5 a0 a1 a2 a3 a4 a5 HW2 HO2 HY2
  obtain ⟨a0, a1, a2, a3, a4, a5⟩ := HW5.out.afacts
  obtain ⟨b0, b1, b2, b3, b4, b5, b6, b7, b8, b9, b10, b11, b12, b13⟩ := HW5.out.yfacts
  go_wp2_with fail
  refine (resetr_o _ base P s y s' u v l l' m m' a.time e HR.out HW.out HY5.out HBR.out.1 HBR.out.2).mono ?_
  rintro _ w6 ⟨y', u', v', rfl, hr6, hy6, hb6⟩
  obtain ⟨A', B', c', d', rfl, rfl⟩ := hy6.slices
  have HREL := Lib.hid hr6
  have HY6 := Lib.hid hy6
  have HW6 := Lib.hid (HW5.out.below hb6)
  have HO6 := Lib.hid (HO5.out.below hb6)
  clear hr6 hy6 hb6 a0 a1 a2 a3 a4 a5 b0 b1 b2 b3 b4 b5 b6 b7 b8 b9 b10 b11 b12 b13 HW5 HO5 HY5
  unfold agg Cel.cells
  go_upto_region 24 with fail
  obtain ⟨w7, gn, e7, en, hW7, hO7, hY7, hn7, hne⟩ : ∃ w7 gn, w7 = w6.alloc (.cells #[.bool y'.again, .int .i64 y'.tries, .int .i64 y'.base, .int .i64 y'.factor, .int .i64 y'.cap, .int .i64 y'.state, .int .i64 y'.gen, .int .i64 y'.task, .int .i64 y'.fails, .int .i64 y'.next, .int .i64 y'.last, .int .i64 y'.kind, (.slice A' l'.length c'), (.slice B' m'.length d')] 56) ∧ gn = w6.heap.size ∧ PW w w7 gy ga gz b y u v #[.int .i64 a.kind, .int .i64 a.task, .int .i64 a.time, .int .i64 a.ok, .slice A a.vl.length c, .slice B a.fl.length d] ∧ Owns w7 b base s' l' m' ∧ YR w7 base P (.slice A' l'.length c') (.slice B' m'.length d') l' m' ∧ Bx w7 gn y' (.slice A' l'.length c') (.slice B' m'.length d') ∧ gz ≠ gn := ⟨_, _, rfl, rfl, HW6.out.below ((Below.refl _ _).alloc (Nat.le_refl _) _), HO6.out.below ((Below.refl _ _).alloc (Nat.le_refl _) _), HY6.out.below ((Below.refl _ _).alloc (Nat.le_refl _) _), blk_new w6 _, by have := HW6.out.n4; omega⟩
  rw [← e7, ← en]
  have HW7 := Lib.hid hW7
  have HO7 := Lib.hid hO7
  have HY7 := Lib.hid hY7
  have HN7 := Lib.hid hn7
  have hne2 := Ne.symm hne
  clear e7 en hW7 hO7 hY7 hn7 HW6 HO6 HY6
  obtain ⟨n0, n1, n2, n3, n4, n5, n6, n7, n8, n9, n10, n11, n12, n13, nf⟩ := HN7.out.facts
  obtain ⟨z0, z1, z2, z3, z4, z5, z6, z7, z8, z9, z10, z11, z12, z13, zf⟩ := HW7.out.zfacts
  have HPUT := Lib.hid (put14 w7 gz y' (.slice A' l'.length c') (.slice B' m'.length d') HW7.out.z)
  go_wp2_with fail
  refine bodyPost_ret (results_ct rfl _ _ gz 56 (y'.cells (.slice A' l'.length c') (.slice B' m'.length d')) (0, 0) _ rfl HPUT.out.1 Tryd.underlying56 rfl (by kernel_rfl)) rfl ?_
  have hcb : Chg (· = gz) w7 _ := HPUT.out.2
  have hgb : gz ≠ b := by have := HW7.out.n3; have := HW7.out.hb; omega
  have hgs : w.heap.size ≤ gz := HW7.out.n3
  exact ⟨s', y', l', m', _, _, rfl, ⟨HO7.out.far HW7.out.z (by decide) (by decide) hgb hcb, HWELL.out, HREL.out, HY7.out.far HW7.out.z (by decide) (by decide) hcb, HSZ.out, Chg.over HW7.out.chg hcb (fun i q => .inr (by rw [q]; exact hgs))⟩⟩
set_option maxHeartbeats 8000000 in
set_option maxRecDepth 100000 in
theorem play_close (w : World) (b base : Nat) (P : Nat → Prop) (s y : Cel) (l : List S80) (m : List S64) (u v : Value) (a : ActV) (A B : Option Addr) (c d : Nat) (ho : Owns w b base s l m) (hw : Well s) (hr : Rel s y) (hy : YR w base P u v l m) (hz : Sz l m) (hP : ¬ P b) (hPn : ∀ k, w.heap.size ≤ k → P k) (hbase : base ≤ w.heap.size) (hk : amongB a.kind = 3) : PlayC w b base P y u v a A B c d := by
  have HO := Lib.hid ho
  have HW := Lib.hid hw
  have HR := Lib.hid hr
  have HY := Lib.hid hy
  have HZ := Lib.hid hz
  have HP := Lib.hid (show ∀ k, P k → ¬ k = b from fun k h e => hP (e ▸ h))
  have HPN := Lib.hid hPn
  have HBA := Lib.hid hbase
  have HW0 := Lib.hid (PW.mk3 w b y u v #[.int .i64 a.kind, .int .i64 a.task, .int .i64 a.time, .int .i64 a.ok, .slice A a.vl.length c, .slice B a.fl.length d] ho.lt)
  have HK := Lib.hid hk
  clear ho hw hr hy hz hP hPn hbase hk
  unfold PlayC agg Cel.cells
  go_enter Tryd.func21, Tryd.ntmps21
  go_upto_region 1 with fail
  obtain ⟨w1, gy, ga, gz, e1, ey, ea, ez, hW, hb1⟩ : ∃ w1 gy ga gz, w1 = ((w.alloc (.cells #[.bool y.again, .int .i64 y.tries, .int .i64 y.base, .int .i64 y.factor, .int .i64 y.cap, .int .i64 y.state, .int .i64 y.gen, .int .i64 y.task, .int .i64 y.fails, .int .i64 y.next, .int .i64 y.last, .int .i64 y.kind, u, v] 56)).alloc (.cells #[.int .i64 a.kind, .int .i64 a.task, .int .i64 a.time, .int .i64 a.ok, .slice A a.vl.length c, .slice B a.fl.length d] 39)).alloc (.cells #[.bool false, .int .i64 0, .int .i64 0, .int .i64 0, .int .i64 0, .int .i64 0, .int .i64 0, .int .i64 0, .int .i64 0, .int .i64 0, .int .i64 0, .int .i64 0, .slice none 0 0, .slice none 0 0] 56) ∧ gy = w.heap.size ∧ ga = w.heap.size + 1 ∧ gz = w.heap.size + 1 + 1 ∧ PW w w1 gy ga gz b y u v #[.int .i64 a.kind, .int .i64 a.task, .int .i64 a.time, .int .i64 a.ok, .slice A a.vl.length c, .slice B a.fl.length d] ∧ Below w.heap.size w w1 := ⟨_, _, _, _, rfl, rfl, rfl, rfl, HW0.out, (((Below.refl _ _).alloc (Nat.le_refl _) _).alloc (by simp) _).alloc (by simp only [World.size_alloc]; omega) _⟩
  rw [← e1, ← ez, ← ea, ← ey]
  have HW1 := Lib.hid hW
  have HO1 := Lib.hid (HO.out.below hb1)
  have HY1 := Lib.hid (HY.out.below hb1)
  have HB1 := Lib.hid hb1
  clear e1 ey ea ez hW hb1 HW0 HO HY
  obtain ⟨a0, a1, a2, a3, a4, a5⟩ := HW1.out.afacts
  go_wp2_with fail
  refine (among_be a.kind _ HK.out).mono ?_
  rintro _ w2 ⟨rfl, n, e2⟩
  have HW2 := Lib.hid (HW1.out.below (w3 := w2) (by rw [e2]; exact pw_below_drewN (Below.refl _ _) n))
  have HO2 := Lib.hid (HO1.out.below (w' := w2) (by rw [e2]; exact pw_below_drewN (Below.refl _ _) n))
  have HY2 := Lib.hid (HY1.out.below (w' := w2) (by rw [e2]; exact pw_below_drewN (Below.refl _ _) n))
  have HB2 := Lib.hid (show Below w.heap.size w w2 by rw [e2]; exact pw_below_drewN HB1.out n)
  clear a0 a1 a2 a3 a4 a5 e2 HW1 HO1 HY1 HB1
  obtain ⟨a0, a1, a2, a3, a4, a5⟩ := HW2.out.afacts
  obtain ⟨e, s', he, hcs, hcall⟩ := close_o w2 b base s l m HO2.out
  have HC := Lib.hid hcall
  have HBR := Lib.hid (And.intro he hcs)
  have HWELL := Lib.hid (show Well s' from by
    rcases hcs with ⟨_, rfl⟩ | ⟨_, _, rfl⟩
    · exact HW.out
    · exact HW.out.closed)
  have HSZ := HZ
  clear hcall he hcs
  go_wp2_with fail
  refine HC.out.mono ?_
  rintro _ w5 ⟨rfl, hc5, ho5⟩
  have HW5 := Lib.hid (HW2.out.turn hc5)
  have HO5 := Lib.hid ho5
  have HY5 := Lib.hid (HY2.out.chg hc5 HP.out)
  clear HC hc5 ho5 a0 a1 a2 a3 a4 a5 HW2 HO2 HY2
  obtain ⟨b0, b1, b2, b3, b4, b5, b6, b7, b8, b9, b10, b11, b12, b13⟩ := HW5.out.yfacts
  go_wp2_with fail
  refine (closer_o _ base P s y s' u v l m e HR.out HY5.out HBR.out.1 HBR.out.2).mono ?_
  rintro _ w6 ⟨y', u', v', rfl, hr6, hy6, hb6⟩
  obtain ⟨A', B', c', d', rfl, rfl⟩ := hy6.slices
  have HREL := Lib.hid hr6
  have HY6 := Lib.hid hy6
  have HW6 := Lib.hid (HW5.out.below hb6)
  have HO6 := Lib.hid (HO5.out.below hb6)
  clear hr6 hy6 hb6 b0 b1 b2 b3 b4 b5 b6 b7 b8 b9 b10 b11 b12 b13 HW5 HO5 HY5
  unfold agg Cel.cells
  go_upto_region 27 with fail
  obtain ⟨w7, gn, e7, en, hW7, hO7, hY7, hn7, hne⟩ : ∃ w7 gn, w7 = w6.alloc (.cells #[.bool y'.again, .int .i64 y'.tries, .int .i64 y'.base, .int .i64 y'.factor, .int .i64 y'.cap, .int .i64 y'.state, .int .i64 y'.gen, .int .i64 y'.task, .int .i64 y'.fails, .int .i64 y'.next, .int .i64 y'.last, .int .i64 y'.kind, (.slice A' l.length c'), (.slice B' m.length d')] 56) ∧ gn = w6.heap.size ∧ PW w w7 gy ga gz b y u v #[.int .i64 a.kind, .int .i64 a.task, .int .i64 a.time, .int .i64 a.ok, .slice A a.vl.length c, .slice B a.fl.length d] ∧ Owns w7 b base s' l m ∧ YR w7 base P (.slice A' l.length c') (.slice B' m.length d') l m ∧ Bx w7 gn y' (.slice A' l.length c') (.slice B' m.length d') ∧ gz ≠ gn := ⟨_, _, rfl, rfl, HW6.out.below ((Below.refl _ _).alloc (Nat.le_refl _) _), HO6.out.below ((Below.refl _ _).alloc (Nat.le_refl _) _), HY6.out.below ((Below.refl _ _).alloc (Nat.le_refl _) _), blk_new w6 _, by have := HW6.out.n4; omega⟩
  rw [← e7, ← en]
  have HW7 := Lib.hid hW7
  have HO7 := Lib.hid hO7
  have HY7 := Lib.hid hY7
  have HN7 := Lib.hid hn7
  have hne2 := Ne.symm hne
  clear e7 en hW7 hO7 hY7 hn7 HW6 HO6 HY6
  obtain ⟨n0, n1, n2, n3, n4, n5, n6, n7, n8, n9, n10, n11, n12, n13, nf⟩ := HN7.out.facts
  obtain ⟨z0, z1, z2, z3, z4, z5, z6, z7, z8, z9, z10, z11, z12, z13, zf⟩ := HW7.out.zfacts
  have HPUT := Lib.hid (put14 w7 gz y' (.slice A' l.length c') (.slice B' m.length d') HW7.out.z)
  go_wp2_with fail
  refine bodyPost_ret (results_ct rfl _ _ gz 56 (y'.cells (.slice A' l.length c') (.slice B' m.length d')) (0, 0) _ rfl HPUT.out.1 Tryd.underlying56 rfl (by kernel_rfl)) rfl ?_
  have hcb : Chg (· = gz) w7 _ := HPUT.out.2
  have hgb : gz ≠ b := by have := HW7.out.n3; have := HW7.out.hb; omega
  have hgs : w.heap.size ≤ gz := HW7.out.n3
  exact ⟨s', y', l, m, _, _, rfl, ⟨HO7.out.far HW7.out.z (by decide) (by decide) hgb hcb, HWELL.out, HREL.out, HY7.out.far HW7.out.z (by decide) (by decide) hcb, HSZ.out, Chg.over HW7.out.chg hcb (fun i q => .inr (by rw [q]; exact hgs))⟩⟩
end Go.Proofs.YtchbammjcnhkiaaDoor.Ce
