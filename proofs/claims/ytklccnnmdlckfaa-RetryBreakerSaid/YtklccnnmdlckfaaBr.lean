/- What the methods of a breaker (late, turn, open, Ask, Tell, State) answer, and what they leave in memory: for every breaker in memory whose numbers and map are known. -/
import Derived.Test.YtklccnnmdlckfaaProg
import Derived.Test.YtklccnnmdlckfaaWMore
import Derived.Deep.QuietTactic
import Derived.BigQuiet
import Derived.Test.YtklccnnmdlckfaaK
import Derived.Maps.OwnOps
import Derived.StillTailTactics
namespace Go.Proofs.Ytklccnnmdlckfaa.Br
open Go.RowKit Go.Maps Go.Proofs.Ytklccnnmdlckfaa Go.Proofs.YtklccnnmdlckfaaW.PrintWords Go.Proofs.YtklccnnmdlckfaaW.PrintLast Go.Proofs.YtklccnnmdlckfaaW.PrintMore
attribute [local go_sem] max2_int min2_int max_two min_two

/-- A breaker's numbers. -/
structure Brk where
  limit : Int
  rest : Int
  state : Int
  fails : Int
  untl : Int
  last : Int
  tries : Int
  epoch : Int

def Brk.cells (s : Brk) (m : Nat) : Array Value := #[.int .i64 s.limit, .int .i64 s.rest, .int .i64 s.state, .int .i64 s.fails, .int .i64 s.untl, .int .i64 s.last, .int .i64 s.tries, .int .i64 s.epoch, .map (some m)]

/-- Block b holds the struct, its map lies in block m. -/
def At (w : World) (b m : Nat) (s : Brk) : Prop := w.heap[b]? = some (.cells (s.cells m) 87 (0, 0))

theorem At.facts {w : World} {b m : Nat} {s : Brk} (h : At w b m s) :
    w.cell? ⟨b, 0, none⟩ = some (.int .i64 s.limit) ∧ w.cell? ⟨b, 1, none⟩ = some (.int .i64 s.rest) ∧ w.cell? ⟨b, 2, none⟩ = some (.int .i64 s.state) ∧
    w.cell? ⟨b, 3, none⟩ = some (.int .i64 s.fails) ∧ w.cell? ⟨b, 4, none⟩ = some (.int .i64 s.untl) ∧ w.cell? ⟨b, 5, none⟩ = some (.int .i64 s.last) ∧
    w.cell? ⟨b, 6, none⟩ = some (.int .i64 s.tries) ∧ w.cell? ⟨b, 7, none⟩ = some (.int .i64 s.epoch) ∧ w.cell? ⟨b, 8, none⟩ = some (.map (some m)) ∧ ∀ k, w.frozen? ⟨b, k, none⟩ = false :=
  ⟨(blk_cell h 0).trans rfl, (blk_cell h 1).trans rfl, (blk_cell h 2).trans rfl, (blk_cell h 3).trans rfl, (blk_cell h 4).trans rfl, (blk_cell h 5).trans rfl, (blk_cell h 6).trans rfl, (blk_cell h 7).trans rfl, (blk_cell h 8).trans rfl, fun k => blk_frozen h k⟩

section
variable {w : World} {b m : Nat} {s : Brk} (h : At w b m s) (x : Int)
include h
theorem At.s2 : At (w.setCell ⟨b, 2, none⟩ (.int .i64 x)) b m { s with state := x } := (blk_set h 2 _).trans rfl
theorem At.s3 : At (w.setCell ⟨b, 3, none⟩ (.int .i64 x)) b m { s with fails := x } := (blk_set h 3 _).trans rfl
theorem At.s4 : At (w.setCell ⟨b, 4, none⟩ (.int .i64 x)) b m { s with untl := x } := (blk_set h 4 _).trans rfl
theorem At.s5 : At (w.setCell ⟨b, 5, none⟩ (.int .i64 x)) b m { s with last := x } := (blk_set h 5 _).trans rfl
theorem At.s6 : At (w.setCell ⟨b, 6, none⟩ (.int .i64 x)) b m { s with tries := x } := (blk_set h 6 _).trans rfl
theorem At.s7 : At (w.setCell ⟨b, 7, none⟩ (.int .i64 x)) b m { s with epoch := x } := (blk_set h 7 _).trans rfl
end

def late (s : Brk) (t : Int) : Int := if 0 ≤ t ∧ t ≤ 1099511627776 then (if t < s.last then 7 else 0) else 1

theorem in_any (w : World) (a lo hi : Int) : Calls Try.prog 39 #[.int .i64 a, .int .i64 lo, .int .i64 hi] w fun e w' => e = .returned (.bool (decide (lo ≤ a ∧ a ≤ hi))) ∧ ∃ n, w' = w.drewN n := by
  by_cases h : lo ≤ a
  · have HO := Lib.hid (show decide (lo ≤ a ∧ a ≤ hi) = decide (a ≤ hi) by simp [h])
    go_enter Try.func39, Try.ntmps39
    go_wp2
    all_goals
      go_ret
      rw [HO.out]
      refine ⟨?_, 0, rfl⟩
      first | rfl | simp [*]
  · have HO := Lib.hid (show decide (lo ≤ a) = false by simp [h])
    go_enter Try.func39, Try.ntmps39
    go_wp2
    go_ret
    rw [HO.out]
    exact ⟨rfl, 0, rfl⟩

theorem in_is (w : World) {a lo hi : Int} {r : Bool} (h : decide (lo ≤ a ∧ a ≤ hi) = r) : Calls Try.prog 39 #[.int .i64 a, .int .i64 lo, .int .i64 hi] w fun e w' => e = .returned (.bool r) ∧ ∃ n, w' = w.drewN n := h ▸ in_any w a lo hi

theorem late_any (w : World) (b m : Nat) (s : Brk) (t : Int) (h : At w b m s) :
    Calls Try.prog 42 #[.pointer (some ⟨b, 0, none⟩), .int .i64 t] w fun e w' => e = .returned (.int .i64 (late s t)) ∧ ∃ n, w' = w.drewN n := by
  obtain ⟨-, -, -, -, -, c5, -, -, -, -⟩ := h.facts
  clear h
  by_cases h1 : 0 ≤ t ∧ t ≤ 1099511627776
  all_goals by_cases h2 : t < s.last
  all_goals
    go_enter Try.func42, Try.ntmps42
    go_wp2_with (go_at_call 39; (with_reducible refine (in_any _ _ _ _).mono ?_); rintro e w' ⟨rfl, ⟨nd, rfl⟩⟩)
    go_ret
    refine ⟨?_, _, rfl⟩
    simp [late, h1, h2]

def turn (s : Brk) (st untl : Int) : Brk := { s with state := st, untl := untl, fails := 0, epoch := wrap64 (s.epoch + 1) }

theorem turn_any (w : World) (b m : Nat) (s : Brk) (st u : Int) (h : At w b m s) :
    Calls Try.prog 43 #[.pointer (some ⟨b, 0, none⟩), .int .i64 st, .int .i64 u] w fun e w' => e = .returned (.tuple #[]) ∧ At w' b m (turn s st u) ∧ Chg (· = b) w w' := by
  have hend := (((h.s2 st).s4 u).s3 0).s7 (wrap64 (s.epoch + 1))
  have hchg := ((((Chg.refl (· = b) w).setCell (p := ⟨b, 2, none⟩) rfl (.int .i64 st)).setCell (p := ⟨b, 4, none⟩) rfl (.int .i64 u)).setCell (p := ⟨b, 3, none⟩) rfl (.int .i64 0)).setCell (p := ⟨b, 7, none⟩) rfl (.int .i64 (wrap64 (s.epoch + 1)))
  have H := Lib.hid (And.intro hend hchg)
  clear hend hchg
  obtain ⟨c0, c1, c2, c3, c4, c5, c6, c7, c8, f⟩ := h.facts
  clear h
  go_enter Try.func43, Try.ntmps43
  go_wp2
  go_end0
  exact ⟨rfl, H.out⟩

/-- The map of a breaker. -/
def Mp (w : World) (m n : Nat) (D : DataW Unit) : Prop := w.ownsMap Try.prog 3 (plainElem Try.prog 3) m n D
theorem Mp.out {w : World} {m n : Nat} {D : DataW Unit} (h : Mp w m n D) : w.ownsMap Try.prog 3 (plainElem Try.prog 3) m n D := h
theorem Mp.lt {w : World} {m n : Nat} {D : DataW Unit} (h : Mp w m n D) : m < w.heap.size := by
  obtain ⟨es, c, hb, _⟩ := h
  exact blk_lt hb
theorem Mp.chg {S : Nat → Prop} {w w' : World} {m n : Nat} {D : DataW Unit} (h : Mp w m n D) (k : Chg S w w') (hs : ¬ S m) : Mp w' m n D := by
  obtain ⟨es, c, hb, r⟩ := h
  exact ⟨es, c, blk_chg hb k hs, r⟩
theorem At.ne {w : World} {b m m' n : Nat} {s : Brk} {D : DataW Unit} (h : At w b m' s) (k : Mp w m n D) : m ≠ b := by
  obtain ⟨es, c, hb, _⟩ := k
  rintro rfl
  unfold At at h
  rw [h] at hb
  exact absurd hb (by simp)

theorem At.chg {S : Nat → Prop} {w w' : World} {b m : Nat} {s : Brk} (h : At w b m s) (k : Chg S w w') (hs : ¬ S b) : At w' b m s := blk_chg h k hs
theorem late_is (w : World) (b m : Nat) (s : Brk) (t : Int) {r : Int} (h : At w b m s) (hr : late s t = r) :
    Calls Try.prog 42 #[.pointer (some ⟨b, 0, none⟩), .int .i64 t] w fun e w' => e = .returned (.int .i64 r) ∧ ∃ n, w' = w.drewN n := hr ▸ late_any w b m s t h
theorem law3 : Keyed Try.prog 3 := int_keyed Try.underlying3
theorem zero3 (w : World) : (zeroValue 3).run Try.prog w = .ok (.int .i64 0) w := by kernel_rfl

def lets (s : Brk) (t : Int) : Bool := s.state == 1 || (s.state == 2 && decide (s.untl ≤ t))

/-- A time that is not told. -/
theorem ask_late (w : World) (b m : Nat) (s : Brk) (t : Int) (h : At w b m s) (hl : late s t ≠ 0) :
    Calls Try.prog 34 #[.pointer (some ⟨b, 0, none⟩), .int .i64 t] w fun e w' => e = .returned (.tuple #[.int .i64 0, .bool false, .int .i64 (late s t)]) ∧ ∃ n, w' = w.drewN n := by
  have HC := Lib.hid (late_is w b m s t h rfl)
  clear h
  generalize late s t = r at *
  have hr : (r != 0) = true := by simpa using hl
  clear hl
  go_enter Try.func34, Try.ntmps34
  go_wp2_with (go_at_call 42; (with_reducible refine HC.out.mono ?_); rintro e w' ⟨rfl, ⟨nd, rfl⟩⟩)
  go_ret3
  exact ⟨rfl, _, rfl⟩

/-- It doesn't let. -/
theorem ask_not (w : World) (b m : Nat) (s : Brk) (t : Int) (h : At w b m s) (hl : late s t = 0) (hn : lets s t = false) :
    Calls Try.prog 34 #[.pointer (some ⟨b, 0, none⟩), .int .i64 t] w fun e w' => e = .returned (.tuple #[.int .i64 0, .bool false, .int .i64 0]) ∧ At w' b m { s with last := t } ∧ Chg (· = b) w w' := by
  have hend := h.s5 t
  have HE := Lib.hid hend
  clear hend
  have HL := Lib.hid hl
  have HC := Lib.hid (late_is w b m s t h hl)
  have HG := fun n => Lib.hid (((Chg.refl (· = b) w).setCell (p := ⟨b, 5, none⟩) rfl (.int .i64 t)).drewN n)
  obtain ⟨c0, c1, c2, c3, c4, c5, c6, c7, c8, f⟩ := h.facts
  have h1 : (s.state == 1) = false := by unfold lets at hn; simp at hn ⊢; exact hn.1
  clear hl h
  by_cases h2 : s.state = 2
  · have h3 : ¬ s.untl ≤ t := by unfold lets at hn; simp [h2] at hn; omega
    have h2' : (s.state == 2) = true := by simp [h2]
    clear hn h2
    go_enter Try.func34, Try.ntmps34
    go_wp2_with (go_at_call 42; (with_reducible refine HC.out.mono ?_); rintro e w' ⟨rfl, ⟨nd, rfl⟩⟩)
    go_ret3
    exact ⟨rfl, HE.out, (HG _).out⟩
  · have h2' : (s.state == 2) = false := by simp [h2]
    clear hn h2
    go_enter Try.func34, Try.ntmps34
    go_wp2_with (go_at_call 42; (with_reducible refine HC.out.mono ?_); rintro e w' ⟨rfl, ⟨nd, rfl⟩⟩)
    go_ret3
    exact ⟨rfl, HE.out, (HG _).out⟩

/-- It would let, but too many are on their way. -/
theorem ask_long (w : World) (b m n : Nat) (s : Brk) (D : DataW Unit) (t : Int) (h : At w b m s) (hM : Mp w m n D) (hl : late s t = 0) (hn : lets s t = true) (hz : 1024 ≤ Maps.size D) :
    Calls Try.prog 34 #[.pointer (some ⟨b, 0, none⟩), .int .i64 t] w fun e w' => e = .returned (.tuple #[.int .i64 0, .bool false, .int .i64 3]) ∧ ∃ n, w' = w.drewN n := by
  have HC := Lib.hid (late_is w b m s t h hl)
  have hlen := fun n => (World.ownsMap.len (w := w.drewN n) hM.out Try.underlying85)
  have hz' : (1024 : Int) ≤ (Maps.size D : Int) := by omega
  obtain ⟨c0, c1, c2, c3, c4, c5, c6, c7, c8, f⟩ := h.facts
  clear hl h hM hz
  have h0 : (s.state == 1) = true ∨ (s.state == 1) = false ∧ (s.state == 2) = true ∧ s.untl ≤ t := by
    unfold lets at hn; simp at hn ⊢; by_cases k : s.state = 1 <;> simp [k] at hn ⊢ ; omega
  clear hn
  rcases h0 with h1 | ⟨h1, h2, h3⟩
  all_goals
    go_enter Try.func34, Try.ntmps34
    go_wp2_with (go_at_call 42; (with_reducible refine HC.out.mono ?_); rintro e w' ⟨rfl, ⟨nd, rfl⟩⟩)
    go_ret3
    exact ⟨rfl, _, rfl⟩

def asked (s : Brk) (t : Int) : Brk := { s with last := t, tries := wrap64 (s.tries + 1) }

set_option maxRecDepth 100000 in
/-- It is closed, and lets. -/
theorem ask_closed (w : World) (b m n : Nat) (s : Brk) (D : DataW Unit) (t : Int) (h : At w b m s) (hM : Mp w m n D) (hl : late s t = 0) (h1 : (s.state == 1) = true) (h2 : (s.state == 2) = false) (hz : Maps.size D < 1024) (hn : n < maxLen)
    (he : (Lit.int .i64 s.epoch).wf = true) :
    Calls Try.prog 34 #[.pointer (some ⟨b, 0, none⟩), .int .i64 t] w fun e w' => e = .returned (.tuple #[.int .i64 (wrap64 (s.tries + 1)), .bool true, .int .i64 0]) ∧
      At w' b m (asked s t) ∧ Mp w' m (n + 1) (D.put (.int .i64 (wrap64 (s.tries + 1))) (.lit (.int .i64 s.epoch))) ∧ Chg (fun k => k = b ∨ k = m) w w' := by
  have HC := Lib.hid (late_is w b m s t h hl)
  have hlen := fun n => (World.ownsMap.len (w := w.drewN n) hM.out Try.underlying85)
  have hz' : ¬ (1024 : Int) ≤ (Maps.size D : Int) := by omega
  have HA := Lib.hid h
  obtain ⟨c0, c1, c2, c3, c4, c5, c6, c7, c8, f⟩ := h.facts
  have hkey := keyOf_int_mk (P := Try.prog) (k := 3) Try.underlying3 (show (Lit.int .i64 (wrap64 (s.tries + 1))).wf = true from wrap64_wf _)
  have HK := Lib.hid hkey
  have HW := Lib.hid he
  have HM := Lib.hid hM
  have HN := Lib.hid hn
  have hne := h.ne hM
  clear hl h hz hkey he hM hn
  go_enter Try.func34, Try.ntmps34
  go_wp2_with (go_at_call 42; (with_reducible refine HC.out.mono ?_); rintro e w' ⟨rfl, ⟨nd, rfl⟩⟩)
  refine region_tail 12 (by kernel_rfl) (by kernel_rfl) (fun w1 => At w1 b m (asked s t) ∧ Mp w1 m n D ∧ Chg (fun k => k = b ∨ k = m) w w1) ?_ ?_
  · have k1 : At (w.drewN nd) b m s := HA.out
    exact ⟨(k1.s5 t).s6 _, HM.out.chg (((((Chg.refl (· = b) w).drewN nd).setCell rfl _).setCell rfl _).drew) hne, ((((Chg.refl _ w).drewN nd).setCell (Or.inl rfl) _).setCell (Or.inl rfl) _).drew⟩
  rintro w1 ⟨k1, k2, k3⟩
  clear HA HM hne hlen c0 c1 c2 c3 c4 c5 c6 c7 c8 f HC
  have HM := Lib.hid k2
  have HA := Lib.hid k1
  have HG := Lib.hid k3
  have hne := k1.ne k2
  obtain ⟨-, -, -, -, -, -, c6, c7, c8, -⟩ := k1.facts
  clear k1 k2 k3
  simp only [List.take_succ_cons, List.take_zero, List.drop_succ_cons, List.drop_zero]
  iterate 12 (refine wpStill_step (fun K hK => ?_); go_simp; refine hK _ ?_; clear hK K)
  refine wpStill_nil ?_
  go_wp2_with ((at_mapUpdate; refine wpList_mapUpdate_in _ rfl _ _ _ 85 rfl 3 3 law3 Try.underlying85 _ m n D rfl HM.out HN.out _ _ _ rfl rfl HK.out _ [] (plainElem_int Try.underlying3 HW.out) ?_; intro w2 hown2 hturn2; have HE := Lib.hid (And.intro (At.chg HA.out (Chg.turned (S := (· = m)) hturn2 rfl) (fun e => hne e.symm)) (And.intro hown2 (HG.out.trans (Chg.turned hturn2 (Or.inr rfl))))); obtain ⟨-, -, -, -, -, -, c6', -, -, -⟩ := HE.out.1.facts; clear hown2 hturn2))
  go_ret3
  exact ⟨rfl, HE.out⟩

def reopened (s : Brk) (t : Int) : Brk := let s' := turn { s with last := t } 3 0; { s' with tries := wrap64 (s.tries + 1) }

set_option maxRecDepth 100000 in
/-- It is open, its time is over: it lets. -/
theorem ask_open (w : World) (b m n : Nat) (s : Brk) (D : DataW Unit) (t : Int) (h : At w b m s) (hM : Mp w m n D) (hl : late s t = 0) (h1 : (s.state == 1) = false) (h2 : (s.state == 2) = true) (h3 : s.untl ≤ t) (hz : Maps.size D < 1024) (hn : n < maxLen) :
    Calls Try.prog 34 #[.pointer (some ⟨b, 0, none⟩), .int .i64 t] w fun e w' => e = .returned (.tuple #[.int .i64 (wrap64 (s.tries + 1)), .bool true, .int .i64 0]) ∧
      At w' b m (reopened s t) ∧ Mp w' m (n + 1) (D.put (.int .i64 (wrap64 (s.tries + 1))) (.lit (.int .i64 (wrap64 (s.epoch + 1))))) ∧ Chg (fun k => k = b ∨ k = m) w w' := by
  have HC := Lib.hid (late_is w b m s t h hl)
  have hlen := fun n => (World.ownsMap.len (w := w.drewN n) hM.out Try.underlying85)
  have hz' : ¬ (1024 : Int) ≤ (Maps.size D : Int) := by omega
  have HA := Lib.hid h
  obtain ⟨c0, c1, c2, c3, c4, c5, c6, c7, c8, f⟩ := h.facts
  have HK := Lib.hid (keyOf_int_mk (P := Try.prog) (k := 3) Try.underlying3 (show (Lit.int .i64 (wrap64 (s.tries + 1))).wf = true from wrap64_wf _))
  have HW := Lib.hid (show (Lit.int .i64 (wrap64 (s.epoch + 1))).wf = true from wrap64_wf _)
  have HM := Lib.hid hM
  have HN := Lib.hid hn
  have hne := h.ne hM
  clear hl h hz hM hn
  go_enter Try.func34, Try.ntmps34
  go_wp2_with (first | (go_at_call 42; (with_reducible refine HC.out.mono ?_); rintro e w' ⟨rfl, ⟨nd, rfl⟩⟩) | (go_at_call 43; refine (turn_any _ b m { s with last := t } 3 0 (At.s5 (w := w.drewN nd) HA.out t)).mono ?_; rintro e w2 ⟨rfl, k1, k2⟩; obtain ⟨-, -, -, -, -, -, d6, d7, d8, df⟩ := k1.facts; have HB := Lib.hid k1; have HD := Lib.hid k2; clear k1 k2))
  refine region_tail 12 (by kernel_rfl) (by kernel_rfl) (fun w1 => At w1 b m (reopened s t) ∧ Mp w1 m n D ∧ Chg (fun k => k = b ∨ k = m) w w1) ?_ ?_
  · have k2 : Chg (· = b) w w2 := (((Chg.refl (· = b) w).drewN nd).setCell (p := ⟨b, 5, none⟩) rfl _).trans HD.out
    exact ⟨HB.out.s6 _, HM.out.chg ((k2.setCell (p := ⟨b, 6, none⟩) rfl _).drew) hne, ((k2.setCell (p := ⟨b, 6, none⟩) rfl _).drew).mono (fun _ h => Or.inl h)⟩
  rintro w1 ⟨k1, k2, k3⟩
  clear HA HM hne hlen c0 c1 c2 c3 c4 c5 c6 c7 c8 f HC HB HD d6 d7 d8 df
  have HM := Lib.hid k2
  have HA := Lib.hid k1
  have HG := Lib.hid k3
  have hne := k1.ne k2
  obtain ⟨-, -, -, -, -, -, c6, c7, c8, -⟩ := k1.facts
  simp only [reopened, turn] at c6 c7 c8
  clear k1 k2 k3
  simp only [List.take_succ_cons, List.take_zero, List.drop_succ_cons, List.drop_zero]
  iterate 12 (refine wpStill_step (fun K hK => ?_); go_simp; refine hK _ ?_; clear hK K)
  refine wpStill_nil ?_
  go_wp2_with ((at_mapUpdate; refine wpList_mapUpdate_in _ rfl _ _ _ 85 rfl 3 3 law3 Try.underlying85 _ m n D rfl HM.out HN.out _ _ _ rfl rfl HK.out _ [] (plainElem_int Try.underlying3 HW.out) ?_; intro w2 hown2 hturn2; have HE := Lib.hid (And.intro (At.chg HA.out (Chg.turned (S := (· = m)) hturn2 rfl) (fun e => hne e.symm)) (And.intro hown2 (HG.out.trans (Chg.turned hturn2 (Or.inr rfl))))); obtain ⟨-, -, -, -, -, -, c6', -, -, -⟩ := HE.out.1.facts; simp only [reopened, turn] at c6'; clear hown2 hturn2))
  go_ret3
  exact ⟨rfl, HE.out⟩

theorem state_any (w : World) (b m : Nat) (s : Brk) (h : At w b m s) :
    Calls Try.prog 38 #[.pointer (some ⟨b, 0, none⟩)] w fun e w' => e = .returned (.tuple #[.int .i64 s.state, .int .i64 s.fails, .int .i64 s.untl]) ∧ ∃ n, w' = w.drewN n := by
  obtain ⟨-, -, c2, c3, c4, -, -, -, -, -⟩ := h.facts
  clear h
  go_enter Try.func38, Try.ntmps38
  go_wp2
  go_quiet (fail)
  go_wp2
  go_ret3
  exact ⟨rfl, _, rfl⟩

def opened (s : Brk) (t : Int) : Brk := turn s 2 (if t + s.rest ≤ 1099511627776 then t + s.rest else 1099511627776)

theorem open_any (w : World) (b m : Nat) (s : Brk) (t : Int) (h : At w b m s) (h1 : 0 ≤ t) (h2 : t ≤ 1099511627776) (h3 : 1 ≤ s.rest) :
    Calls Try.prog 46 #[.pointer (some ⟨b, 0, none⟩), .int .i64 t] w fun e w' => e = .returned (.tuple #[]) ∧ At w' b m (opened s t) ∧ Chg (· = b) w w' := by
  have HA := Lib.hid h
  obtain ⟨-, c1, -, -, -, -, -, -, -, -⟩ := h.facts
  clear h
  by_cases hm : s.rest ≤ 1099511627776 - t
  · have ho : opened s t = turn s 2 (t + s.rest) := by unfold opened; rw [if_pos (by omega)]
    have HO := Lib.hid ho
    clear ho
    go_enter Try.func46, Try.ntmps46
    go_wp2_with (go_at_call 43; refine (turn_any _ b m s 2 _ HA.out).mono ?_; rintro e w2 ⟨rfl, hk⟩; have HK := Lib.hid hk; clear hk)
    all_goals
      go_end0
      rw [HO.out]
      exact ⟨rfl, HK.out⟩
  · replace hm : 1099511627776 - t < s.rest := by omega
    have ho : opened s t = turn s 2 (t + (1099511627776 - t)) := by unfold opened; rw [if_neg (by omega)]; congr 1; omega
    have HO := Lib.hid ho
    clear ho
    go_enter Try.func46, Try.ntmps46
    go_wp2_with (go_at_call 43; refine (turn_any _ b m s 2 _ HA.out).mono ?_; rintro e w2 ⟨rfl, hk⟩; have HK := Lib.hid hk; clear hk)
    all_goals
      go_end0
      rw [HO.out]
      exact ⟨rfl, HK.out⟩

/-- The epoch of a try, as the map has it. -/
def atI (D : DataW Unit) (k : Int) : Int := match D.atKey (.int .i64 k) (.lit (.int .i64 0)) with | .lit (.int _ c) => c | _ => 0
theorem atI_of {D : DataW Unit} {k c : Int} (h : D.atKey (.int .i64 k) (.lit (.int .i64 0)) = .lit (.int .i64 c)) : c = atI D k := by unfold atI; rw [h]

theorem tell_none (w : World) (b m n : Nat) (s : Brk) (D : DataW Unit) (x : Int) (fine : Bool) (t : Int) (h : At w b m s) (hM : Mp w m n D) (hx : (Lit.int .i64 x).wf = true) (hd : Maps.has D (.int .i64 x) = false) :
    Calls Try.prog 36 #[.pointer (some ⟨b, 0, none⟩), .int .i64 x, .bool fine, .int .i64 t] w fun e w' => e = .returned (.int .i64 4) ∧ ∃ n, w' = w.drewN n := by
  have HM := Lib.hid hM
  have HK := Lib.hid (keyOf_int_mk (P := Try.prog) (k := 3) Try.underlying3 hx)
  obtain ⟨-, -, -, -, -, -, -, -, c8, -⟩ := h.facts
  clear h hM hx
  go_enter Try.func36, Try.ntmps36
  go_wp2_with (at_lookup; refine wpList_lookup_own_ok_int _ rfl _ _ 85 rfl 3 3 .i64 law3 Try.underlying85 Try.underlying3 (zero3 _) m n D rfl HM.out _ _ rfl HK.out ?_; intro c hat hwc; clear hat hwc)
  go_ret
  exact ⟨rfl, 0, rfl⟩

theorem tell_late (w : World) (b m n : Nat) (s : Brk) (D : DataW Unit) (x : Int) (fine : Bool) (t : Int) (h : At w b m s) (hM : Mp w m n D) (hx : (Lit.int .i64 x).wf = true) (hd : Maps.has D (.int .i64 x) = true) (hl : late s t ≠ 0) :
    Calls Try.prog 36 #[.pointer (some ⟨b, 0, none⟩), .int .i64 x, .bool fine, .int .i64 t] w fun e w' => e = .returned (.int .i64 (late s t)) ∧ ∃ n, w' = w.drewN n := by
  have HM := Lib.hid hM
  have HK := Lib.hid (keyOf_int_mk (P := Try.prog) (k := 3) Try.underlying3 hx)
  obtain ⟨-, -, -, -, -, -, -, -, c8, -⟩ := h.facts
  have HC := Lib.hid (late_is w b m s t h rfl)
  generalize late s t = r at *
  have hr : (r != 0) = true := by simpa using hl
  clear h hM hx hl
  go_enter Try.func36, Try.ntmps36
  go_wp2_with (first | (go_at_call 42; (with_reducible refine HC.out.mono ?_); rintro e w' ⟨rfl, ⟨nd, rfl⟩⟩) | (at_lookup; refine wpList_lookup_own_ok_int _ rfl _ _ 85 rfl 3 3 .i64 law3 Try.underlying85 Try.underlying3 (zero3 _) m n D rfl HM.out _ _ rfl HK.out ?_; intro c hat hwc; clear hat hwc))
  go_ret
  exact ⟨rfl, _, rfl⟩

/-- What a breaker is behind the telling of a try of epoch ep. -/
def told (s : Brk) (ep : Int) (fine : Bool) (t : Int) : Brk :=
  let s1 : Brk := { s with last := t }
  if ep = s.epoch then
    if s.state = 3 then (if fine then turn s1 1 0 else opened s1 t)
    else if fine then { s1 with fails := 0 }
    else if s.fails + 1 = s.limit then opened { s1 with fails := s.fails + 1 } t else { s1 with fails := s.fails + 1 }
  else s1

set_option maxRecDepth 100000 in
theorem tell_ok (w : World) (b m n : Nat) (s : Brk) (D : DataW Unit) (x : Int) (fine : Bool) (t : Int) (h : At w b m s) (hM : Mp w m n D) (hx : (Lit.int .i64 x).wf = true) (hd : Maps.has D (.int .i64 x) = true) (hl : late s t = 0)
    (hr : 1 ≤ s.rest) (hf : 0 ≤ s.fails) (hf2 : s.fails ≤ 1000) :
    Calls Try.prog 36 #[.pointer (some ⟨b, 0, none⟩), .int .i64 x, .bool fine, .int .i64 t] w fun e w' => e = .returned (.int .i64 0) ∧ At w' b m (told s (atI D x) fine t) ∧ Mp w' m n (D.del (.int .i64 x)) ∧ Chg (fun k => k = b ∨ k = m) w w' := by
  have HM := Lib.hid hM
  have HA := Lib.hid h
  have HK := Lib.hid (keyOf_int_mk (P := Try.prog) (k := 3) Try.underlying3 hx)
  have ht : 0 ≤ t ∧ t ≤ 1099511627776 := by unfold late at hl; split at hl <;> omega
  have hne := Lib.hid (h.ne hM)
  obtain ⟨ht0, ht1⟩ := ht
  obtain ⟨-, -, -, -, -, c5, -, -, c8, f⟩ := h.facts
  have HC := Lib.hid (late_is w b m s t h hl)
  clear h hM hx hl
  -- behind the deletion: a world of which this is known
  have mid : ∀ w2, (∃ w1, Chg (· = b) w w1 ∧ At w1 b m { s with last := t } ∧ w2.ownsMap Try.prog 3 (plainElem Try.prog 3) m n (D.del (.int .i64 x)) ∧ w1.mapTurned w2 m) → At w2 b m { s with last := t } ∧ Mp w2 m n (D.del (.int .i64 x)) ∧ Chg (fun k => k = b ∨ k = m) w w2 := by
    rintro w2 ⟨w1, k1, k2, k3, k4⟩
    exact ⟨k2.chg (Chg.turned (S := (· = m)) k4 rfl) (fun e => hne.out e.symm), k3, (k1.mono (fun _ h => Or.inl h)).trans (Chg.turned k4 (Or.inr rfl))⟩
  have MID := Lib.hid mid
  clear mid
  have fin : ∀ w2 w3 s3, At w2 b m { s with last := t } ∧ Mp w2 m n (D.del (.int .i64 x)) ∧ Chg (fun k => k = b ∨ k = m) w w2 → At w3 b m s3 → Chg (· = b) w2 w3 → At w3 b m s3 ∧ Mp w3 m n (D.del (.int .i64 x)) ∧ Chg (fun k => k = b ∨ k = m) w w3 := by
    rintro w2 w3 s3 ⟨k1, k2, k3⟩ h3 h4
    exact ⟨h3, k2.chg h4 hne.out, k3.trans (h4.mono (fun _ h => Or.inl h))⟩
  have FIN := Lib.hid fin
  clear fin
  by_cases he : atI D x = s.epoch
  case neg =>
    have he' : (atI D x != s.epoch) = true := by simpa using he
    have HO := Lib.hid (show told s (atI D x) fine t = { s with last := t } by unfold told; rw [if_neg he])
    clear he
    go_enter Try.func36, Try.ntmps36
    go_wp2_with (first | (go_at_call 42; (with_reducible refine HC.out.mono ?_); rintro e w' ⟨rfl, ⟨nd, rfl⟩⟩) | (at_lookup; refine wpList_lookup_own_ok_int _ rfl _ _ 85 rfl 3 3 .i64 law3 Try.underlying85 Try.underlying3 (zero3 _) m n D rfl HM.out _ _ rfl HK.out ?_; intro c hat hwc; (have hat' := atI_of hat); clear hat hwc; subst hat') | (at_delete; refine wpList_delete_own _ rfl _ _ 85 3 rfl 3 law3 Try.underlying85 _ m n D rfl (HM.out.chg (((Chg.refl (· = b) w).drewN _).setCell (p := ⟨b, 5, none⟩) rfl (.int .i64 t)) hne.out) _ _ rfl HK.out ?_; intro w2 hown hturn; have HW := Lib.hid (MID.out w2 ⟨_, (((Chg.refl (· = b) w).drewN _).setCell (p := ⟨b, 5, none⟩) rfl (.int .i64 t)), At.s5 (w := w.drewN _) HA.out t, hown, hturn⟩); clear hown hturn; obtain ⟨d0, d1, d2, d3, d4, d5, d6, d7, d8, df⟩ := HW.out.1.facts))
    go_ret
    rw [HO.out]
    exact ⟨rfl, HW.out⟩
  have he' : (atI D x != s.epoch) = false := by simpa using he
  by_cases h3 : s.state = 3
  · have h3' : (s.state == 3) = true := by simpa using h3
    cases fine
    · have HO := Lib.hid (show told s (atI D x) false t = opened { s with last := t } t by unfold told; rw [if_pos he, if_pos h3]; rfl)
      clear he h3
      go_enter Try.func36, Try.ntmps36
      go_wp2_with (first | (go_at_call 42; (with_reducible refine HC.out.mono ?_); rintro e w' ⟨rfl, ⟨nd, rfl⟩⟩) | (at_lookup; refine wpList_lookup_own_ok_int _ rfl _ _ 85 rfl 3 3 .i64 law3 Try.underlying85 Try.underlying3 (zero3 _) m n D rfl HM.out _ _ rfl HK.out ?_; intro c hat hwc; (have hat' := atI_of hat); clear hat hwc; subst hat') | (at_delete; refine wpList_delete_own _ rfl _ _ 85 3 rfl 3 law3 Try.underlying85 _ m n D rfl (HM.out.chg (((Chg.refl (· = b) w).drewN _).setCell (p := ⟨b, 5, none⟩) rfl (.int .i64 t)) hne.out) _ _ rfl HK.out ?_; intro w2 hown hturn; have HW := Lib.hid (MID.out w2 ⟨_, (((Chg.refl (· = b) w).drewN _).setCell (p := ⟨b, 5, none⟩) rfl (.int .i64 t)), At.s5 (w := w.drewN _) HA.out t, hown, hturn⟩); clear hown hturn; obtain ⟨d0, d1, d2, d3, d4, d5, d6, d7, d8, df⟩ := HW.out.1.facts) | (go_at_call 46; refine (open_any _ b m { s with last := t } t HW.out.1 ht0 ht1 hr).mono ?_; rintro e w3 ⟨rfl, k1, k2⟩; have HZ := Lib.hid (FIN.out _ _ _ HW.out k1 k2); clear k1 k2))
      go_ret
      rw [HO.out]
      exact ⟨rfl, HZ.out⟩
    · have HO := Lib.hid (show told s (atI D x) true t = turn { s with last := t } 1 0 by unfold told; rw [if_pos he, if_pos h3]; rfl)
      clear he h3
      go_enter Try.func36, Try.ntmps36
      go_wp2_with (first | (go_at_call 42; (with_reducible refine HC.out.mono ?_); rintro e w' ⟨rfl, ⟨nd, rfl⟩⟩) | (at_lookup; refine wpList_lookup_own_ok_int _ rfl _ _ 85 rfl 3 3 .i64 law3 Try.underlying85 Try.underlying3 (zero3 _) m n D rfl HM.out _ _ rfl HK.out ?_; intro c hat hwc; (have hat' := atI_of hat); clear hat hwc; subst hat') | (at_delete; refine wpList_delete_own _ rfl _ _ 85 3 rfl 3 law3 Try.underlying85 _ m n D rfl (HM.out.chg (((Chg.refl (· = b) w).drewN _).setCell (p := ⟨b, 5, none⟩) rfl (.int .i64 t)) hne.out) _ _ rfl HK.out ?_; intro w2 hown hturn; have HW := Lib.hid (MID.out w2 ⟨_, (((Chg.refl (· = b) w).drewN _).setCell (p := ⟨b, 5, none⟩) rfl (.int .i64 t)), At.s5 (w := w.drewN _) HA.out t, hown, hturn⟩); clear hown hturn; obtain ⟨d0, d1, d2, d3, d4, d5, d6, d7, d8, df⟩ := HW.out.1.facts) | (go_at_call 43; refine (turn_any _ b m { s with last := t } 1 0 HW.out.1).mono ?_; rintro e w3 ⟨rfl, k1, k2⟩; have HZ := Lib.hid (FIN.out _ _ _ HW.out k1 k2); clear k1 k2))
      go_ret
      rw [HO.out]
      exact ⟨rfl, HZ.out⟩
  · have h3' : (s.state == 3) = false := by simpa using h3
    cases fine
    · by_cases hm : s.fails + 1 = s.limit
      · have hm' : (s.fails + 1 == s.limit) = true := by simpa using hm
        have HO := Lib.hid (show told s (atI D x) false t = opened { s with last := t, fails := s.fails + 1 } t by unfold told; rw [if_pos he, if_neg h3, if_neg (by simp), if_pos hm])
        clear he h3 hm
        go_enter Try.func36, Try.ntmps36
        go_wp2_with (first | (go_at_call 42; (with_reducible refine HC.out.mono ?_); rintro e w' ⟨rfl, ⟨nd, rfl⟩⟩) | (at_lookup; refine wpList_lookup_own_ok_int _ rfl _ _ 85 rfl 3 3 .i64 law3 Try.underlying85 Try.underlying3 (zero3 _) m n D rfl HM.out _ _ rfl HK.out ?_; intro c hat hwc; (have hat' := atI_of hat); clear hat hwc; subst hat') | (at_delete; refine wpList_delete_own _ rfl _ _ 85 3 rfl 3 law3 Try.underlying85 _ m n D rfl (HM.out.chg (((Chg.refl (· = b) w).drewN _).setCell (p := ⟨b, 5, none⟩) rfl (.int .i64 t)) hne.out) _ _ rfl HK.out ?_; intro w2 hown hturn; have HW := Lib.hid (MID.out w2 ⟨_, (((Chg.refl (· = b) w).drewN _).setCell (p := ⟨b, 5, none⟩) rfl (.int .i64 t)), At.s5 (w := w.drewN _) HA.out t, hown, hturn⟩); clear hown hturn; obtain ⟨d0, d1, d2, d3, d4, d5, d6, d7, d8, df⟩ := HW.out.1.facts))
        generalize hg : w2.setCell ⟨b, 3, none⟩ (.int .i64 (s.fails + 1)) = w3
        have HX := Lib.hid (show At w3 b m { s with last := t, fails := s.fails + 1 } ∧ Chg (· = b) w2 w3 from hg ▸ ⟨HW.out.1.s3 _, (Chg.refl (· = b) w2).setCell (p := ⟨b, 3, none⟩) rfl _⟩)
        clear hg d0 d1 d2 d3 d4 d5 d6 d7 d8 df c5 c8 f
        obtain ⟨d0, -, -, d3, -, -, -, -, -, -⟩ := HX.out.1.facts
        go_quiet (fail)
        go_wp2_with (go_at_call 46; refine (open_any (w3.drewN _) b m { s with last := t, fails := s.fails + 1 } t HX.out.1 ht0 ht1 hr).mono ?_; rintro e w4 ⟨rfl, k1, k2⟩; have HZ := Lib.hid (FIN.out _ _ _ HW.out k1 ((HX.out.2.drewN _).trans k2)); clear k1 k2)
        go_ret
        rw [HO.out]
        exact ⟨rfl, HZ.out⟩
      · have hm' : (s.fails + 1 == s.limit) = false := by simpa using hm
        have HO := Lib.hid (show told s (atI D x) false t = { s with last := t, fails := s.fails + 1 } by unfold told; rw [if_pos he, if_neg h3, if_neg (by simp), if_neg hm])
        clear he h3 hm
        go_enter Try.func36, Try.ntmps36
        go_wp2_with (first | (go_at_call 42; (with_reducible refine HC.out.mono ?_); rintro e w' ⟨rfl, ⟨nd, rfl⟩⟩) | (at_lookup; refine wpList_lookup_own_ok_int _ rfl _ _ 85 rfl 3 3 .i64 law3 Try.underlying85 Try.underlying3 (zero3 _) m n D rfl HM.out _ _ rfl HK.out ?_; intro c hat hwc; (have hat' := atI_of hat); clear hat hwc; subst hat') | (at_delete; refine wpList_delete_own _ rfl _ _ 85 3 rfl 3 law3 Try.underlying85 _ m n D rfl (HM.out.chg (((Chg.refl (· = b) w).drewN _).setCell (p := ⟨b, 5, none⟩) rfl (.int .i64 t)) hne.out) _ _ rfl HK.out ?_; intro w2 hown hturn; have HW := Lib.hid (MID.out w2 ⟨_, (((Chg.refl (· = b) w).drewN _).setCell (p := ⟨b, 5, none⟩) rfl (.int .i64 t)), At.s5 (w := w.drewN _) HA.out t, hown, hturn⟩); clear hown hturn; obtain ⟨d0, d1, d2, d3, d4, d5, d6, d7, d8, df⟩ := HW.out.1.facts))
        generalize hg : w2.setCell ⟨b, 3, none⟩ (.int .i64 (s.fails + 1)) = w3
        have HX := Lib.hid (show At w3 b m { s with last := t, fails := s.fails + 1 } ∧ Chg (· = b) w2 w3 from hg ▸ ⟨HW.out.1.s3 _, (Chg.refl (· = b) w2).setCell (p := ⟨b, 3, none⟩) rfl _⟩)
        clear hg d0 d1 d2 d3 d4 d5 d6 d7 d8 df c5 c8 f
        obtain ⟨d0, -, -, d3, -, -, -, -, -, -⟩ := HX.out.1.facts
        go_quiet (fail)
        go_wp2
        go_ret
        rw [HO.out]
        exact ⟨rfl, FIN.out _ _ _ HW.out HX.out.1 (HX.out.2.drewN _)⟩
    · have HO := Lib.hid (show told s (atI D x) true t = { s with last := t, fails := 0 } by unfold told; rw [if_pos he, if_neg h3]; rfl)
      clear he h3
      go_enter Try.func36, Try.ntmps36
      go_wp2_with (first | (go_at_call 42; (with_reducible refine HC.out.mono ?_); rintro e w' ⟨rfl, ⟨nd, rfl⟩⟩) | (at_lookup; refine wpList_lookup_own_ok_int _ rfl _ _ 85 rfl 3 3 .i64 law3 Try.underlying85 Try.underlying3 (zero3 _) m n D rfl HM.out _ _ rfl HK.out ?_; intro c hat hwc; (have hat' := atI_of hat); clear hat hwc; subst hat') | (at_delete; refine wpList_delete_own _ rfl _ _ 85 3 rfl 3 law3 Try.underlying85 _ m n D rfl (HM.out.chg (((Chg.refl (· = b) w).drewN _).setCell (p := ⟨b, 5, none⟩) rfl (.int .i64 t)) hne.out) _ _ rfl HK.out ?_; intro w2 hown hturn; have HW := Lib.hid (MID.out w2 ⟨_, (((Chg.refl (· = b) w).drewN _).setCell (p := ⟨b, 5, none⟩) rfl (.int .i64 t)), At.s5 (w := w.drewN _) HA.out t, hown, hturn⟩); clear hown hturn; obtain ⟨d0, d1, d2, d3, d4, d5, d6, d7, d8, df⟩ := HW.out.1.facts))
      go_ret
      rw [HO.out]
      exact ⟨rfl, FIN.out _ _ _ HW.out (HW.out.1.s3 0) ((Chg.refl (· = b) w2).setCell (p := ⟨b, 3, none⟩) rfl _)⟩
end Go.Proofs.Ytklccnnmdlckfaa.Br
