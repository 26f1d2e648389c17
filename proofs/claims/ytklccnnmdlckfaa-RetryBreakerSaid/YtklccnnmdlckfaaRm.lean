/- The breaker and the document's breaker side by side in memory: what each call makes of both. -/
import Derived.Test.YtklccnnmdlckfaaRb
import Derived.Test.YtklccnnmdlckfaaPRetryBreakerx2
import Derived.Test.YtklccnnmdlckfaaBrn
namespace Go.Proofs.Ytklccnnmdlckfaa
open Go.RowKit Go.Maps Go.Proofs.Ytklccnnmdlckfaa Go.Proofs.Ytklccnnmdlckfaa.Br Go.Proofs.Ytklccnnmdlckfaa.PRetryBreaker Go.Proofs.YtklccnnmdlckfaaW.PrintWords Go.Proofs.YtklccnnmdlckfaaW.PrintLast Go.Proofs.YtklccnnmdlckfaaW.PrintMore

def Same (X : Nat → Prop) (w w' : World) : Prop := ∀ k, X k → w'.heap[k]? = w.heap[k]?
theorem Same.trans {X : Nat → Prop} {a b c : World} (h : Same X a b) (k : Same X b c) : Same X a c := fun i hi => (k i hi).trans (h i hi)
theorem Same.less {X Y : Nat → Prop} {a b : World} (h : Same X a b) (hy : ∀ k, Y k → X k) : Same Y a b := fun i hi => h i (hy i hi)
/-- Both breakers; X: the blocks of neither. -/
structure Fb (w wr : World) (b m n : Nat) (s : Brk) (D : DataW Unit) (L : List S93) (v : Value) (X : Nat → Prop) : Prop where
  full : Full w wr b m n s D
  ref : Kd.R k93 93 wr w.heap.size (fun k => k ≠ b ∧ k ≠ m ∧ ¬ X k) v L
  hX : ∀ k, X k → w.heap.size ≤ k ∧ k < wr.heap.size ∧ k ≠ b ∧ k ≠ m
section
variable {w wr w' : World} {b m n n' : Nat} {s s' : Brk} {D D' : DataW Unit} {L : List S93} {v : Value} {X Y : Nat → Prop}
theorem Fb.code (h : Fb w wr b m n s D L v X) (k : Full w w' b m n' s' D') (c : Chg (Own b m) wr w') : Fb w w' b m n' s' D' L v X ∧ Same X wr w' := by
  have hno : ∀ i, i ≠ b → i ≠ m → ¬ Own b m i := fun i h1 h2 h => h.elim h1 h2
  refine ⟨⟨k, Kd.R_mono (Kd.R_step (Kd.R_bound h.ref) (fun i hi _ => c.block i hi.2.2.1 (hno i hi.1.1 hi.1.2.1))) (fun i hi => hi.1), fun i hi => ⟨(h.hX i hi).1, Nat.lt_of_lt_of_le (h.hX i hi).2.1 c.size, (h.hX i hi).2.2⟩⟩, fun i hi => c.block i (h.hX i hi).2.1 (hno i (h.hX i hi).2.2.1 (h.hX i hi).2.2.2)⟩
theorem Fb.lt (h : Fb w wr b m n s D L v X) : b < wr.heap.size ∧ m < wr.heap.size := ⟨blk_lt h.full.blk, h.full.map.lt⟩
theorem Fb.box (h : Fb w wr b m n s D L v X) (k : Below wr.heap.size wr w') (hY : ∀ i, Y i → wr.heap.size ≤ i ∧ i < w'.heap.size) : Fb w w' b m n s D L v (fun i => X i ∨ Y i) ∧ Same X wr w' := by
  have hl := h.lt
  refine ⟨⟨h.full.of_below k, Kd.R_mono (Kd.R_below (Kd.R_bound h.ref) k) (fun i hi => ⟨hi.1.1, hi.1.2.1, fun hx => ?_⟩), fun i hi => ?_⟩, fun i hi => k.block i (h.hX i hi).2.1⟩
  · rcases hx with hx | hx
    · exact hi.1.2.2 hx
    · have := (hY i hx).1; have := hi.2.2.1; omega
  · rcases hi with hi | hi
    · exact ⟨(h.hX i hi).1, Nat.lt_of_lt_of_le (h.hX i hi).2.1 k.size, (h.hX i hi).2.2⟩
    · obtain ⟨a1, a2⟩ := hY i hi
      exact ⟨Nat.le_trans h.full.below.size a1, a2, by omega, by omega⟩
theorem Fb.less (h : Fb w wr b m n s D L v X) (hy : ∀ k, Y k → X k) : Fb w wr b m n s D L v Y :=
  ⟨h.full, Kd.R_mono h.ref (fun i hi => ⟨hi.1, hi.2.1, fun hx => hi.2.2 (hy i hx)⟩), fun i hi => h.hX i (hy i hi)⟩
theorem Fb.to (h : Fb w wr b m n s D L v X) (k : Below wr.heap.size wr w') : Fb w w' b m n s D L v X ∧ Same X wr w' := by
  obtain ⟨j1, j2⟩ := h.box (Y := fun _ => False) k (fun _ h => h.elim)
  exact ⟨j1.less (fun k hk => Or.inl hk), j2⟩
theorem Fb.chg (h : Fb w wr b m n s D L v X) (k : Chg X wr w') : Fb w w' b m n s D L v X :=
  ⟨h.full.chg k (fun i hi => (h.hX i hi).1) (fun hx => (h.hX b hx).2.2.1 rfl) (fun hx => (h.hX m hx).2.2.2 rfl), Kd.R_step h.ref (fun i hi hlt => k.block i hlt hi.2.2), fun i hi => ⟨(h.hX i hi).1, Nat.lt_of_lt_of_le (h.hX i hi).2.1 k.size, (h.hX i hi).2.2⟩⟩
theorem Fb.behind {L' : List S93} {v' : Value} (h : Fb w wr b m n s D L v X) (hR : Kd.R k93 93 w' w.heap.size (fun k => (k ≠ b ∧ k ≠ m ∧ ¬ X k) ∨ wr.heap.size ≤ k) v' L') (bel : Below w.heap.size w w') (hk : Kept wr w' (fun k => k ≠ b ∧ k ≠ m ∧ ¬ X k)) : Fb w w' b m n s D L' v' X ∧ Same X wr w' := by
  have hl := h.lt
  have hc : Chg (fun k => (k ≠ b ∧ k ≠ m ∧ ¬ X k) ∧ w.heap.size ≤ k) wr w' := by
    have hb := h.full.below
    refine ⟨bel.os.trans hb.os.symm, bel.tape.trans hb.tape.symm, bel.output.trans hb.output.symm, hk.1, fun i hi hn => ?_⟩
    rcases Nat.lt_or_ge i w.heap.size with h1 | h1
    · exact (bel.block i h1).trans (hb.block i h1).symm
    · exact hk.2 i hi (fun h2 => hn ⟨h2, h1⟩)
  refine ⟨⟨h.full.chg hc (fun i hi => hi.2) (fun h => h.1.1 rfl) (fun h => h.1.2.1 rfl), Kd.R_mono hR (fun i hi => ?_), fun i hi => ⟨(h.hX i hi).1, Nat.lt_of_lt_of_le (h.hX i hi).2.1 hk.1, (h.hX i hi).2.2⟩⟩, fun i hi => hk.2 i (h.hX i hi).2.1 (fun h2 => h2.2.2 hi)⟩
  rcases hi with hi | hi
  · exact hi
  · exact ⟨by omega, by omega, fun hx => by have := (h.hX i hx).2.1; omega⟩
end
section
variable {w wr : World} {b m n N : Nat} {s : Brk} {D : DataW Unit} {L : List S93} {v : Value} {X : Nat → Prop}
theorem ask_c (t : Int) (hN : N ≤ 1000000000000000) (hB : Hid (Bre s D n L N)) (h : Hid (Fb w wr b m n s D L v X)) :
    ∃ s' D' n' L' r1 r2 r3, Hid (Bre s' D' n' L' (N + 1)) ∧ Hid (Ev (fun k => AskF k s L t) (out3 s' L' r1 r2 r3)) ∧
      Calls Try.prog 34 #[.pointer (some ⟨b, 0, none⟩), .int .i64 t] wr fun e w' => e = .returned (.tuple #[.int .i64 r1, .bool r2, .int .i64 r3]) ∧ Hid (Fb w w' b m n' s' D' L v X) ∧ Hid (Same X wr w') := by
  have hb := hB.out
  have hf := h.out.full
  have fin : ∀ {e : Ending} {w' : World} {s' : Brk} {D' : DataW Unit} {n' : Nat} {r : Ending}, (e = r ∧ Full w w' b m n' s' D' ∧ Chg (Own b m) wr w') → e = r ∧ Hid (Fb w w' b m n' s' D' L v X) ∧ Hid (Same X wr w') := fun ⟨a, k1, k2⟩ => ⟨a, Lib.hid (h.out.code k1 k2).1, Lib.hid (h.out.code k1 k2).2⟩
  have he := hb.en
  have hfl := hb.fl
  by_cases hl : late s t = 0
  · cases hn : lets s t with
    | false => exact ⟨{ s with last := t }, D, n, L, 0, false, 0, Lib.hid (hb.more rfl (by show 0 ≤ s.epoch ∧ s.epoch ≤ _; omega) rfl rfl hfl), Lib.hid (ev2 (fun k => ask_not_is s L t k hl hn)), (ask_not_f t hf hl hn).mono (fun _ _ k => fin k)⟩
    | true =>
      by_cases hz : 1024 ≤ L.length
      · exact ⟨s, D, n, L, 0, false, 3, Lib.hid hb.same, Lib.hid (ev2 (fun k => ask_long_is s L t k hl hn hz)), (ask_long_f t hf hl hn (by rw [hb.sz]; exact hz)).mono (fun _ _ k => fin k)⟩
      · have hz2 : Maps.size D < 1024 := by rw [hb.sz]; omega
        have hcn : n < maxLen := by have := hb.cnt; unfold maxLen; omega
        have htr := hb.tr
        have hw : wrap64 (s.tries + 1) = s.tries + 1 := by unfold wrap64; omega
        have hwe : wrap64 (s.epoch + 1) = s.epoch + 1 := by unfold wrap64; omega
        by_cases h1 : s.state = 1
        · exact ⟨asked s t, _, n + 1, _, wrap64 (s.tries + 1), true, 0, Lib.hid (hb.add hN s.epoch (s' := asked s t) hw (by show 0 ≤ s.epoch ∧ s.epoch ≤ _; omega) rfl rfl hfl (by omega)), Lib.hid (ev2 (fun k => ask_closed_is s L t k hl h1 (by omega))), (ask_closed_f t hf hl h1 hz2 hcn (WalkArith.wf_i64 (by omega))).mono (fun _ _ k => fin k)⟩
        · have h2 : s.state = 2 := by
            unfold lets at hn
            simp [h1] at hn; exact hn.1
          have h3 : s.untl ≤ t := by
            unfold lets at hn
            simp [h2] at hn; exact hn
          exact ⟨reopened s t, _, n + 1, _, wrap64 (s.tries + 1), true, 0, Lib.hid (hb.add hN (wrap64 (s.epoch + 1)) (s' := reopened s t) hw (by show 0 ≤ wrap64 (s.epoch + 1) ∧ wrap64 (s.epoch + 1) ≤ _; omega) rfl rfl (by show (0 : Int) ≤ 0 ∧ 0 < s.limit; omega) (by omega)), Lib.hid (ev2 (fun k => ask_open_is s L t k hl h2 h3 (by omega))), (ask_open_f t hf hl h2 h3 hz2 hcn).mono (fun _ _ k => fin k)⟩
  · exact ⟨s, D, n, L, 0, false, late s t, Lib.hid hb.same, Lib.hid (ev2 (fun k => ask_late_is s L t k hl)), (ask_late_f t hf hl).mono (fun _ _ k => fin k)⟩
theorem tell_c (x : Int) (fine : Bool) (t : Int) (hx : (Lit.int .i64 x).wf = true) (hN : N ≤ 1000000000000000) (hB : Hid (Bre s D n L N)) (h : Hid (Fb w wr b m n s D L v X)) :
    ∃ s' D' L' r, Hid (Bre s' D' n L' (N + 1)) ∧ Hid (Ev (fun k => TellF k s L x fine t) (out1 s' L' r)) ∧
      Calls Try.prog 36 #[.pointer (some ⟨b, 0, none⟩), .int .i64 x, .bool fine, .int .i64 t] wr fun e w' => e = .returned (.int .i64 r) ∧ Hid (Fb w w' b m n s' D' L v X) ∧ Hid (Same X wr w') := by
  have hb := hB.out
  have hf := h.out.full
  have fin : ∀ {e : Ending} {w' : World} {s' : Brk} {D' : DataW Unit} {n' : Nat} {r : Ending}, (e = r ∧ Full w w' b m n' s' D' ∧ Chg (Own b m) wr w') → e = r ∧ Hid (Fb w w' b m n' s' D' L v X) ∧ Hid (Same X wr w') := fun ⟨a, k1, k2⟩ => ⟨a, Lib.hid (h.out.code k1 k2).1, Lib.hid (h.out.code k1 k2).2⟩
  have hfl := hb.fl
  have hlm := hb.lim
  cases hd : Maps.has D (.int .i64 x) with
  | false => exact ⟨s, D, L, 4, Lib.hid hb.same, Lib.hid (hb.tell_none x fine t hd), (tell_none_f x fine t hf hx hd).mono (fun _ _ k => fin k)⟩
  | true =>
    obtain ⟨u, hu, e1, e2, k1, k2⟩ := hb.tell_found x fine t hd
    by_cases hl : late s t = 0
    · obtain ⟨g1, g2, g3⟩ := told_tries s (atI D x) fine t
      obtain ⟨g4, g5⟩ := told_more s (atI D x) fine t hN hb.en hlm.1 hfl
      refine ⟨told s (atI D x) fine t, D.del (.int .i64 x), rest93 x L, 0, ?_, Lib.hid (k2 hl), (tell_ok_f x fine t hf hx hd hl hb.rst.1 hfl.1 (by omega)).mono (fun _ _ k => fin k)⟩
      subst e1
      exact Lib.hid (hb.gone u hu g1 g4 g2 g3 g5)
    · exact ⟨s, D, L, late s t, Lib.hid hb.same, Lib.hid (k1 hl), (tell_late_f x fine t hf hx hd hl).mono (fun _ _ k => fin k)⟩
theorem state_c (h : Hid (Fb w wr b m n s D L v X)) : Calls Try.prog 38 #[.pointer (some ⟨b, 0, none⟩)] wr fun e w' => e = .returned (.tuple #[.int .i64 s.state, .int .i64 s.fails, .int .i64 s.untl]) ∧ Hid (Fb w w' b m n s D L v X) ∧ Hid (Same X wr w') :=
  (state_f h.out.full).mono (fun _ _ ⟨a, k1, k2⟩ => ⟨a, Lib.hid (h.out.code k1 k2).1, Lib.hid (h.out.code k1 k2).2⟩)
theorem ask_r {s1 s' : Brk} {D1 : DataW Unit} {n1 : Nat} {L' : List S93} {r1 r3 : Int} {r2 : Bool} (t : Int) (hE : Hid (Ev (fun k => AskF k s L t) (out3 s' L' r1 r2 r3))) (h : Hid (Fb w wr b m n1 s1 D1 L v X)) :
    Calls Try.prog 35 #[.agg #[.int .i64 s.limit, .int .i64 s.rest, .int .i64 s.state, .int .i64 s.epoch, .int .i64 s.fails, .int .i64 s.untl, .int .i64 s.last, .int .i64 s.tries, v], .int .i64 t] wr fun e w' => ∃ v', e = .returned (.tuple #[.agg #[.int .i64 s'.limit, .int .i64 s'.rest, .int .i64 s'.state, .int .i64 s'.epoch, .int .i64 s'.fails, .int .i64 s'.untl, .int .i64 s'.last, .int .i64 s'.tries, v'], .int .i64 r1, .bool r2, .int .i64 r3]) ∧ Hid (Fb w w' b m n1 s1 D1 L' v' X) ∧ Hid (Same X wr w') := by
  obtain ⟨k, hk⟩ := hE.out
  refine (oncewebref12_Breaker_Ask.calls k _ _ _ _ _ _ _ _ _ v L t _ _ _ _ _ _ _ _ _ _ _ _ w wr h.out.full.below h.out.ref (hk k (Nat.le_refl _))).mono ?_
  rintro _ w' ⟨v', rfl, j1, j2, j3⟩
  exact ⟨v', rfl, Lib.hid (h.out.behind j1 j2 j3).1, Lib.hid (h.out.behind j1 j2 j3).2⟩
theorem tell_r {s1 s' : Brk} {D1 : DataW Unit} {n1 : Nat} {L' : List S93} {r : Int} (x : Int) (fine : Bool) (t : Int) (hE : Hid (Ev (fun k => TellF k s L x fine t) (out1 s' L' r))) (h : Hid (Fb w wr b m n1 s1 D1 L v X)) :
    Calls Try.prog 37 #[.agg #[.int .i64 s.limit, .int .i64 s.rest, .int .i64 s.state, .int .i64 s.epoch, .int .i64 s.fails, .int .i64 s.untl, .int .i64 s.last, .int .i64 s.tries, v], .int .i64 x, .bool fine, .int .i64 t] wr fun e w' => ∃ v', e = .returned (.tuple #[.agg #[.int .i64 s'.limit, .int .i64 s'.rest, .int .i64 s'.state, .int .i64 s'.epoch, .int .i64 s'.fails, .int .i64 s'.untl, .int .i64 s'.last, .int .i64 s'.tries, v'], .int .i64 r]) ∧ Hid (Fb w w' b m n1 s1 D1 L' v' X) ∧ Hid (Same X wr w') := by
  obtain ⟨k, hk⟩ := hE.out
  refine (oncewebref12_Breaker_Tell.calls k _ _ _ _ _ _ _ _ _ v L x fine t _ _ _ _ _ _ _ _ _ _ w wr h.out.full.below h.out.ref (hk k (Nat.le_refl _))).mono ?_
  rintro _ w' ⟨v', rfl, j1, j2, j3⟩
  exact ⟨v', rfl, Lib.hid (h.out.behind j1 j2 j3).1, Lib.hid (h.out.behind j1 j2 j3).2⟩
end
end Go.Proofs.Ytklccnnmdlckfaa
