/- Both webs side by side in memory: what each call makes of them. -/
import Derived.Test.YtohkobfamofkgaaMa
import Derived.Test.YtohkobfamofkgaaIn
import Derived.Test.YtohkobfamofkgaaPl
namespace Go.Proofs.Ytohkobfamofkgaa
open Go.RowKit Go.Maps Go.Proofs.Ytohkobfamofkgaa Go.Proofs.Ytohkobfamofkgaa.Wb Go.Proofs.Ytohkobfamofkgaa.PDependPlays Go.Proofs.YtohkobfamofkgaaW.PrintWords Go.Proofs.YtohkobfamofkgaaW.PrintLast Go.Proofs.YtohkobfamofkgaaW.PrintMore

/-- Both webs; X: the blocks that belong to neither. -/
structure Bo (w0 w : World) (b : Nat) (m : Web) (v0 v1 : Value) (R : List S55) (Ws : List S57) (X : Nat → Prop) : Prop where
  web : ∃ V, At w0.heap.size w b V m ∧ (∀ k, X k → w0.heap.size ≤ k ∧ k < w.heap.size ∧ ¬ Own b V k) ∧
    Kd.V k55 55 w w0.heap.size (fun k => (¬ Own b V k ∧ ¬ X k) ∧ some k ≠ v1.ownBlock) v0 R ∧ Kd.R k57 57 w w0.heap.size (fun k => ¬ Own b V k ∧ ¬ X k) v1 Ws
  bel : Below w0.heap.size w0 w
/-- What stands. -/
def Same (X : Nat → Prop) (w w' : World) : Prop := ∀ k, X k → w'.heap[k]? = w.heap[k]?
theorem Same.refl (X : Nat → Prop) (w : World) : Same X w w := fun _ _ => rfl
theorem Same.trans {X : Nat → Prop} {a b c : World} (h : Same X a b) (k : Same X b c) : Same X a c := fun i hi => (k i hi).trans (h i hi)
def XV (X : Nat → Prop) (u : Value) : Nat → Prop := fun k => X k ∨ u.ownBlock = some k
section
variable {w0 w w' : World} {b : Nat} {m m' : Web} {v0 v1 : Value} {R : List S55} {Ws : List S57} {X Y : Nat → Prop}
theorem Bo.post {V V' : Nat → Value} (h1 : At w0.heap.size w b V m) (hX : ∀ k, X k → w0.heap.size ≤ k ∧ k < w.heap.size ∧ ¬ Own b V k)
    (hV : Kd.V k55 55 w w0.heap.size (fun k => (¬ Own b V k ∧ ¬ X k) ∧ some k ≠ v1.ownBlock) v0 R) (hR : Kd.R k57 57 w w0.heap.size (fun k => ¬ Own b V k ∧ ¬ X k) v1 Ws) (bel : Below w0.heap.size w0 w)
    (k1 : At w0.heap.size w' b V' m') (k2 : Chg (Own b V) w w') (k3 : ∀ k, Own b V' k → Own b V k ∨ w.heap.size ≤ k) (hY : ∀ k, Y k → (Own b V k ∨ w.heap.size ≤ k) ∧ k < w'.heap.size ∧ ¬ Own b V' k) : Bo w0 w' b m' v0 v1 R Ws (fun k => X k ∨ Y k) ∧ Same X w w' := by
  have hno : ∀ k, ¬ Own b V k → k < w.heap.size → ¬ Own b V' k := fun k h hlt ho => by
    rcases k3 k ho with h2 | h2
    · exact h h2
    · omega
  have hyk : ∀ k, ¬ Own b V k → k < w.heap.size → ¬ Y k := fun k h hlt hy => by
    rcases (hY k hy).1 with h2 | h2
    · exact h h2
    · omega
  refine ⟨⟨⟨V', k1, fun k hk => ?_, ?_, ?_⟩, Chg.below (S := Own b V) bel k2 (fun i hi => (h1.own_lt hi).2) bel.size⟩, fun k hk => k2.block k (hX k hk).2.1 (hX k hk).2.2⟩
  · rcases hk with hk | hk
    · obtain ⟨a1, a2, a3⟩ := hX k hk
      exact ⟨a1, Nat.lt_of_lt_of_le a2 k2.size, hno k a3 a2⟩
    · obtain ⟨a1, a2, a3⟩ := hY k hk
      refine ⟨?_, a2, a3⟩
      rcases a1 with a1 | a1
      · exact (h1.own_lt a1).2
      · exact Nat.le_trans bel.size a1
  · refine Kd.V_mono (Kd.V_step (Kd.V_bound hV) (fun k hk _ => k2.block k hk.2 hk.1.1.1)) (fun k hk => ⟨⟨hno k hk.1.1.1 hk.2, fun h => ?_⟩, hk.1.2⟩)
    rcases h with h | h
    · exact hk.1.1.2 h
    · exact hyk k hk.1.1.1 hk.2 h
  · refine Kd.R_mono (Kd.R_step (Kd.R_bound hR) (fun k hk _ => k2.block k hk.2.2.1 hk.1.1)) (fun k hk => ⟨hno k hk.1.1 hk.2.2.1, fun h => ?_⟩)
    rcases h with h | h
    · exact hk.1.2 h
    · exact hyk k hk.1.1 hk.2.2.1 h
theorem Bo.box (h : Bo w0 w b m v0 v1 R Ws X) (k : Below w.heap.size w w') (hY : ∀ k, Y k → w.heap.size ≤ k ∧ k < w'.heap.size) : Bo w0 w' b m v0 v1 R Ws (fun k => X k ∨ Y k) ∧ Same X w w' := by
  obtain ⟨V, h1, h2, h3, h4⟩ := h.web
  refine ⟨⟨⟨V, h1.below k, fun i hi => ?_, ?_, ?_⟩, h.bel.trans ⟨k.os, k.tape, k.output, k.size, fun i hi => k.block i (Nat.lt_of_lt_of_le hi h.bel.size)⟩⟩, fun i hi => k.block i (h2 i hi).2.1⟩
  · rcases hi with hi | hi
    · obtain ⟨a1, a2, a3⟩ := h2 i hi
      exact ⟨a1, Nat.lt_of_lt_of_le a2 k.size, a3⟩
    · obtain ⟨a1, a2⟩ := hY i hi
      exact ⟨Nat.le_trans h.bel.size a1, a2, fun ho => by have := (h1.own_lt ho).1; omega⟩
  · refine Kd.V_mono (Kd.V_below (Kd.V_bound h3) k) (fun i hi => ⟨⟨hi.1.1.1, fun hx => ?_⟩, hi.1.2⟩)
    rcases hx with hx | hx
    · exact hi.1.1.2 hx
    · have := (hY i hx).1; have := hi.2; omega
  · refine Kd.R_mono (Kd.R_below (Kd.R_bound h4) k) (fun i hi => ⟨hi.1.1, fun hx => ?_⟩)
    rcases hx with hx | hx
    · exact hi.1.2 hx
    · have := (hY i hx).1; have := hi.2.2.1; omega
theorem Bo.less (h : Bo w0 w b m v0 v1 R Ws X) (hY : ∀ k, Y k → X k) : Bo w0 w b m v0 v1 R Ws Y := by
  obtain ⟨V, h1, h2, h3, h4⟩ := h.web
  exact ⟨⟨V, h1, fun k hk => h2 k (hY k hk), Kd.V_mono h3 (fun k hk => ⟨⟨hk.1.1, fun hy => hk.1.2 (hY k hy)⟩, hk.2⟩), Kd.R_mono h4 (fun k hk => ⟨hk.1, fun hy => hk.2 (hY k hy)⟩)⟩, h.bel⟩
theorem Bo.to (h : Bo w0 w b m v0 v1 R Ws X) (k : Below w.heap.size w w') : Bo w0 w' b m v0 v1 R Ws X ∧ Same X w w' := by
  obtain ⟨h1, h2⟩ := h.box (Y := fun _ => False) k (fun _ h => h.elim)
  exact ⟨h1.less (fun k hk => Or.inl hk), h2⟩
/-- Only blocks of X turn. -/
theorem Bo.chg (h : Bo w0 w b m v0 v1 R Ws X) (k : Chg X w w') : Bo w0 w' b m v0 v1 R Ws X := by
  obtain ⟨V, h1, h2, h3, h4⟩ := h.web
  exact ⟨⟨V, h1.kept (fun i hi => k.block i (h1.own_lt hi).1 (fun hx => (h2 i hx).2.2 hi)), fun i hi => ⟨(h2 i hi).1, Nat.lt_of_lt_of_le (h2 i hi).2.1 k.size, (h2 i hi).2.2⟩,
    Kd.V_step h3 (fun i hi hlt => k.block i hlt hi.1.2), Kd.R_step h4 (fun i hi hlt => k.block i hlt hi.2)⟩, Chg.below (S := X) h.bel k (fun i hi => (h2 i hi).1) h.bel.size⟩
/-- Behind a call of the document's web. -/
theorem Bo.ref {v0' v1' : Value} {R' : List S55} {Ws' : List S57} {V : Nat → Value} (h1 : At w0.heap.size w b V m) (hX : ∀ k, X k → w0.heap.size ≤ k ∧ k < w.heap.size ∧ ¬ Own b V k)
    (hV : Kd.V k55 55 w' w0.heap.size (fun k => (((¬ Own b V k ∧ ¬ X k) ∨ (¬ Own b V k ∧ ¬ X k)) ∨ w.heap.size ≤ k) ∧ some k ≠ v1'.ownBlock) v0' R')
    (hR : Kd.R k57 57 w' w0.heap.size (fun k => (¬ Own b V k ∧ ¬ X k) ∨ w.heap.size ≤ k) v1' Ws') (bel : Below w0.heap.size w0 w') (hk : Kept w w' (fun k => ¬ Own b V k ∧ ¬ X k)) : Bo w0 w' b m v0' v1' R' Ws' X ∧ Same X w w' := by
  have hnew : ∀ k, w.heap.size ≤ k → ¬ Own b V k ∧ ¬ X k := fun k hle => ⟨fun ho => by have := (h1.own_lt ho).1; omega, fun hx => by have := (hX k hx).2.1; omega⟩
  refine ⟨⟨⟨V, h1.kept (fun i hi => hk.2 i (h1.own_lt hi).1 (fun h => h.1 hi)), fun i hi => ⟨(hX i hi).1, Nat.lt_of_lt_of_le (hX i hi).2.1 hk.1, (hX i hi).2.2⟩, Kd.V_mono hV (fun k h => ⟨?_, h.2⟩), Kd.R_mono hR (fun k h => ?_)⟩, bel⟩, fun k hx => hk.2 k (hX k hx).2.1 (fun h => h.2 hx)⟩
  · rcases h.1 with (h | h) | h
    · exact h
    · exact h
    · exact hnew k h
  · rcases h with h | h
    · exact h
    · exact hnew k h
theorem Bo.shape (h : Bo w0 w b m v0 v1 R Ws X) : (∃ A c, v0 = .slice A R.length c) ∧ ∃ A c, v1 = .slice A Ws.length c := by
  obtain ⟨V, h1, h2, h3, h4⟩ := h.web
  exact ⟨Kd.V_slice h3, Kd.R_slice h4⟩
end

section
variable {w0 w : World} {b : Nat} {m m1 : Web} {v0 v1 : Value} {R : List S55} {Ws : List S57} {X : Nat → Prop}
theorem begin_b (t c : Int) (hi : Iw m) (h : Hid (Bo w0 w b m v0 v1 R Ws X)) :
    Calls Try.prog 17 #[.pointer (some ⟨b, 0, none⟩), .int .i64 t, .int .i64 c] w fun e w' => e = .returned (.int .i64 (beginOut m t c).2) ∧ Hid (Bo w0 w' b (beginOut m t c).1 v0 v1 R Ws X) ∧ Hid (Same X w w') := by
  obtain ⟨V, h1, h2, h3, h4⟩ := h.out.web
  have hsame : ∀ {w' : World}, w = w' → Hid (Bo w0 w' b m v0 v1 R Ws X) ∧ Hid (Same X w w') := fun e => by subst e; exact ⟨h, Lib.hid (Same.refl _ _)⟩
  unfold beginOut
  by_cases hx : okT t ∧ okC c
  · obtain ⟨tn, ht, rfl, e1⟩ := nat_of hx.1
    obtain ⟨cn, hc, rfl, e2⟩ := cell_of hx.2
    rw [if_pos hx, e1, e2]
    by_cases a1 : 0 < m.wai tn
    · rw [if_pos a1]
      exact (begin_state w b V m tn cn ht hc h1.blk a1).mono (fun e w' ⟨a, k⟩ => ⟨a, hsame k⟩)
    · rw [if_neg a1]
      by_cases a2 : 0 < m.run cn
      · rw [if_pos a2]
        exact (begin_twice w b V m tn cn ht hc h1.blk a1 a2).mono (fun e w' ⟨a, k⟩ => ⟨a, hsame k⟩)
      · rw [if_neg a2]
        by_cases a3 : 48 ≤ ((m.ls tn).length : Int)
        · rw [if_pos a3]
          exact (begin_deep _ w b V m tn cn ht hc h1 a1 a2 a3).mono (fun e w' ⟨a, k⟩ => ⟨a, hsame k⟩)
        · rw [if_neg a3]
          refine (begin_ok _ w b V m tn cn ht hc h1 a1 a2 a3).mono (fun e w' ⟨a, k⟩ => ⟨a, ?_⟩)
          obtain ⟨V', k1, k2, k3⟩ := k
          obtain ⟨j1, j2⟩ := Bo.post (Y := fun _ => False) h1 h2 h3 h4 h.out.bel k1 k2 k3 (fun _ h => h.elim)
          exact ⟨Lib.hid (j1.less (fun k hk => Or.inl hk)), Lib.hid j2⟩
  · rw [if_neg hx]
    exact (begin_range w b t c hx).mono (fun e w' ⟨a, k⟩ => ⟨a, hsame k⟩)
theorem wake_b (t : Int) (hi : Iw m) (h : Hid (Bo w0 w b m v0 v1 R Ws X)) :
    Calls Try.prog 21 #[.pointer (some ⟨b, 0, none⟩), .int .i64 t] w fun e w' => e = .returned (.int .i64 (wakeOut m t).2) ∧ Hid (Bo w0 w' b (wakeOut m t).1 v0 v1 R Ws X) ∧ Hid (Same X w w') := by
  obtain ⟨V, h1, h2, h3, h4⟩ := h.out.web
  have hto : ∀ {w' : World}, Below w.heap.size w w' → Hid (Bo w0 w' b m v0 v1 R Ws X) ∧ Hid (Same X w w') := fun e => ⟨Lib.hid (h.out.to e).1, Lib.hid (h.out.to e).2⟩
  unfold wakeOut
  by_cases hx : okT t
  · obtain ⟨tn, ht, rfl, e1⟩ := nat_of hx
    rw [if_pos hx, e1]
    rcases hi.wf.wai tn ht with a1 | ⟨d, hd, a1⟩
    · rw [if_pos a1]
      exact (wake_none _ w b V m tn ht h1 a1).mono (fun e w' ⟨a, k⟩ => ⟨a, hto k⟩)
    · rw [if_neg (by omega), show (m.wai tn - 1).toNat = d by omega]
      refine (wake_ok _ w b V m tn d ht hd h1 a1 (hi.inq tn d ht a1)).mono (fun e w' ⟨a, k⟩ => ⟨a, ?_⟩)
      obtain ⟨V', k1, k2, k3⟩ := k
      obtain ⟨j1, j2⟩ := Bo.post (Y := fun _ => False) h1 h2 h3 h4 h.out.bel k1 k2 k3 (fun _ h => h.elim)
      exact ⟨Lib.hid (j1.less (fun k hk => Or.inl hk)), Lib.hid j2⟩
  · rw [if_neg hx]
    exact (wake_range w b t hx).mono (fun e w' ⟨a, k⟩ => ⟨a, hto k⟩)
/-- What comes back with a list. -/
structure Gv (w0 w w' : World) (b : Nat) (m : Web) (v0 v1 : Value) (R : List S55) (Ws : List S57) (X : Nat → Prop) (u : Value) (l : List Int) : Prop where
  bo : Bo w0 w' b m v0 v1 R Ws (XV X u)
  same : Same X w w'
  row : Row w0.heap.size w' u l
  ne : ∀ k, u.ownBlock = some k → ¬ X k
theorem Gv.new {w' : World} {u : Value} {l : List Int} (h : Bo w0 w b m v0 v1 R Ws X) (hr : Row w.heap.size w' u l) (hb : Below w.heap.size w w') : Gv w0 w w' b m v0 v1 R Ws X u l := by
  obtain ⟨j1, j2⟩ := h.box (Y := fun k => u.ownBlock = some k) hb (fun k hk => ⟨(hr.block hk).1, (hr.block hk).2.1⟩)
  obtain ⟨V, _, h2, _⟩ := h.web
  exact ⟨j1, j2, hr.lower h.bel.size, fun k hk hx => by have := (hr.block hk).1; have := (h2 k hx).2.1; omega⟩
theorem Gv.nil {w' : World} (h : Bo w0 w b m v0 v1 R Ws X) (hb : Below w.heap.size w w') : Gv w0 w w' b m v0 v1 R Ws X (.slice none 0 0) [] :=
  Gv.new h ⟨rfl, Or.inl ⟨rfl, rfl⟩⟩ hb
theorem ask_b (t c : Int) (hi : Iw m) (h : Hid (Bo w0 w b m v0 v1 R Ws X)) :
    Calls Try.prog 26 #[.pointer (some ⟨b, 0, none⟩), .int .i64 t, .int .i64 c] w fun e w' => ∃ A cap, e = .returned (.tuple #[.slice A (askOut m t c).1.length cap, .int .i64 (askOut m t c).2]) ∧ Hid (Gv w0 w w' b m v0 v1 R Ws X (.slice A (askOut m t c).1.length cap) (askOut m t c).1) := by
  obtain ⟨V, h1, h2, h3, h4⟩ := h.out.web
  have hsame : ∀ {w' : World}, w = w' → Hid (Gv w0 w w' b m v0 v1 R Ws X (.slice none 0 0) []) := fun e => by subst e; exact Lib.hid (Gv.nil h.out (Below.refl _ _))
  unfold askOut
  by_cases hx : okT t ∧ okC c
  · obtain ⟨tn, ht, rfl, e1⟩ := nat_of hx.1
    obtain ⟨cn, hc, rfl, e2⟩ := cell_of hx.2
    rw [if_pos hx, e1, e2]
    by_cases a1 : 0 < m.wai tn
    · rw [if_pos a1]
      exact (ask_state w b V m tn cn ht hc h1.blk a1).mono (fun e w' ⟨a, k⟩ => ⟨none, 0, a, hsame k⟩)
    · rw [if_neg a1]
      refine (ask_ok _ w b V m tn cn 129 ht hc h1 hi.wf (hi.ends tn cn hc) (by omega) a1).mono ?_
      rintro _ w' ⟨v, rfl, hr, hb⟩
      obtain ⟨A, cap, rfl⟩ := hr.shape
      exact ⟨A, cap, rfl, Lib.hid (Gv.new h.out hr hb)⟩
  · rw [if_neg hx]
    exact (ask_range w b t c hx).mono (fun e w' ⟨a, k⟩ => ⟨none, 0, a, hsame k⟩)
theorem wait_b (t c : Int) (hi : Iw m) (h : Hid (Bo w0 w b m v0 v1 R Ws X)) :
    Calls Try.prog 20 #[.pointer (some ⟨b, 0, none⟩), .int .i64 t, .int .i64 c] w fun e w' => ∃ A cap, e = .returned (.tuple #[.slice A (waitOut m t c).2.1.length cap, .int .i64 (waitOut m t c).2.2]) ∧ Hid (Gv w0 w w' b (waitOut m t c).1 v0 v1 R Ws X (.slice A (waitOut m t c).2.1.length cap) (waitOut m t c).2.1) := by
  obtain ⟨V, h1, h2, h3, h4⟩ := h.out.web
  have hsame : ∀ {w' : World}, w = w' → Hid (Gv w0 w w' b m v0 v1 R Ws X (.slice none 0 0) []) := fun e => by subst e; exact Lib.hid (Gv.nil h.out (Below.refl _ _))
  unfold waitOut
  by_cases hx : okT t ∧ okC c
  · obtain ⟨tn, ht, rfl, e1⟩ := nat_of hx.1
    obtain ⟨cn, hc, rfl, e2⟩ := cell_of hx.2
    rw [if_pos hx, e1, e2]
    have he := hi.ends tn cn hc
    by_cases a1 : 0 < m.wai tn
    · rw [if_pos a1]
      exact (wait_state w b V m tn cn ht hc h1.blk a1).mono (fun e w' ⟨a, k⟩ => ⟨none, 0, a, hsame k⟩)
    · rw [if_neg a1]
      by_cases a2 : m.run cn = 0
      · rw [if_pos a2]
        exact (wait_none _ w b V m tn cn 129 ht hc h1 hi.wf he (by omega) a1 a2).mono (fun e w' ⟨a, k⟩ => ⟨none, 0, a, Lib.hid (Gv.nil h.out k)⟩)
      · rw [if_neg a2]
        by_cases a3 : circle m tn 129 cn = []
        · rw [if_pos a3]
          refine (wait_ok _ w b V m tn cn 129 ht hc h1 hi.wf he (by omega) a1 a2 a3 (by have := hi.few cn hc; omega)).mono (fun e w' ⟨a, k⟩ => ⟨none, 0, a, ?_⟩)
          obtain ⟨V', k1, k2, k3⟩ := k
          obtain ⟨j1, j2⟩ := Bo.post (Y := fun _ => False) h1 h2 h3 h4 h.out.bel k1 k2 k3 (fun _ h => h.elim)
          refine Lib.hid ⟨j1.less (fun k hk => ?_), j2, ⟨rfl, Or.inl ⟨rfl, rfl⟩⟩, fun k hk => absurd hk (by simp [Value.ownBlock])⟩
          rcases hk with hk | hk
          · exact Or.inl hk
          · exact absurd hk (by simp [Value.ownBlock])
        · rw [if_neg a3]
          refine (wait_cycle _ w b V m tn cn 129 ht hc h1 hi.wf he (by omega) a1 a2 a3).mono ?_
          rintro _ w' ⟨v, rfl, hr, hb⟩
          obtain ⟨A, cap, rfl⟩ := hr.shape
          exact ⟨A, cap, rfl, Lib.hid (Gv.new h.out hr hb)⟩
  · rw [if_neg hx]
    exact (wait_range w b t c hx).mono (fun e w' ⟨a, k⟩ => ⟨none, 0, a, hsame k⟩)
theorem end_b (t : Int) (hi : Iw m) (h : Hid (Bo w0 w b m v0 v1 R Ws X)) :
    Calls Try.prog 18 #[.pointer (some ⟨b, 0, none⟩), .int .i64 t] w fun e w' => ∃ A cap, e = .returned (.tuple #[.int .i64 (endOut m t).2.1, .slice A (endOut m t).2.2.1.length cap, .int .i64 (endOut m t).2.2.2]) ∧ Hid (Gv w0 w w' b (endOut m t).1 v0 v1 R Ws X (.slice A (endOut m t).2.2.1.length cap) (endOut m t).2.2.1) := by
  obtain ⟨V, h1, h2, h3, h4⟩ := h.out.web
  have hsame : ∀ {w' : World}, w = w' → Hid (Gv w0 w w' b m v0 v1 R Ws X (.slice none 0 0) []) := fun e => by subst e; exact Lib.hid (Gv.nil h.out (Below.refl _ _))
  unfold endOut
  by_cases hx : okT t
  · obtain ⟨tn, ht, rfl, e1⟩ := nat_of hx
    rw [if_pos hx, e1]
    by_cases a1 : 0 < m.wai tn
    · rw [if_pos a1]
      exact (end_state w b V m tn ht h1.blk a1).mono (fun e w' ⟨a, k⟩ => ⟨none, 0, a, hsame k⟩)
    · rw [if_neg a1]
      by_cases hl : m.ls tn = []
      · rw [hl]
        exact (end_none _ w b V m tn ht h1 a1 (by rw [hl]; rfl)).mono (fun e w' ⟨a, k⟩ => ⟨none, 0, a, hsame k⟩)
      · have hs := List.dropLast_concat_getLast hl
        have hgl := List.getLast?_eq_some_getLast hl
        generalize (m.ls tn).getLast hl = x at hs hgl
        obtain ⟨c, hc, rfl, hrc⟩ := hi.stk tn ht x (List.mem_of_getLast? hgl)
        rw [hgl]
        simp only [Int.toNat_natCast]
        have hlen := hi.wf.len tn ht
        have hdl := List.length_dropLast (xs := m.ls tn)
        refine (end_ok _ w b V m tn c (m.ls tn).dropLast ht hc h1 a1 hs.symm (by omega) (fun y hy => ?_) (by have := hi.few c hc; omega)).mono ?_
        · obtain ⟨z, k1, k2, _⟩ := hi.que c hc y hy
          exact ⟨z, k1, k2⟩
        · rintro e w' ⟨V', rfl, k⟩
          obtain ⟨j1, j2⟩ := Bo.post (Y := fun i => (V (128 + c)).ownBlock = some i) h1 h2 h3 h4 h.out.bel k.at_ k.chg (fun j hj => Or.inl (k.own j hj)) (fun i hi2 => ⟨Or.inl (Or.inr ⟨128 + c, by omega, hi2⟩), (k.row.block hi2).2.1, k.apart i hi2⟩)
          have kr := k.row
          obtain ⟨A, cap, e2⟩ := kr.shape
          have hne : ∀ k, (V (128 + c)).ownBlock = some k → ¬ X k := fun k hk hx => (h2 k hx).2.2 (Or.inr ⟨128 + c, by omega, hk⟩)
          rw [e2] at kr j1 hne ⊢
          exact ⟨A, cap, rfl, Lib.hid ⟨j1, j2, kr, hne⟩⟩
  · rw [if_neg hx]
    exact (end_range w b t hx).mono (fun e w' ⟨a, k⟩ => ⟨none, 0, a, hsame k⟩)
end
end Go.Proofs.Ytohkobfamofkgaa
namespace Go.Proofs.Ytohkobfamofkgaa
open Go.RowKit Go.Maps Go.Proofs.Ytohkobfamofkgaa Go.Proofs.Ytohkobfamofkgaa.Wb Go.Proofs.Ytohkobfamofkgaa.PDependPlays Go.Proofs.YtohkobfamofkgaaW.PrintWords Go.Proofs.YtohkobfamofkgaaW.PrintLast Go.Proofs.YtohkobfamofkgaaW.PrintMore
section
variable {w0 w : World} {b : Nat} {m m1 : Web} {v0 v1 : Value} {R : List S55} {Ws : List S57} {X : Nat → Prop}
/-- What the document's web is read by. -/
theorem Bo.reads (h : Bo w0 w b m v0 v1 R Ws X) : ∃ A0 c0 A1 c1, v0 = .slice A0 R.length c0 ∧ v1 = .slice A1 Ws.length c1 ∧ R.length ≤ c0 ∧ Ws.length ≤ c1 ∧ Kd.C k55 w A0 R.length R ∧ Kd.C k57 w A1 Ws.length Ws := by
  obtain ⟨V, h1, h2, h3, h4⟩ := h.web
  obtain ⟨A0, c0, rfl⟩ := Kd.V_slice h3
  obtain ⟨A1, c1, rfl⟩ := Kd.R_slice h4
  exact ⟨A0, c0, A1, c1, rfl, rfl, (Kd.V_reads' h3).2.1, (Kd.R_reads' h4).2.1, (Kd.V_reads' h3).2.2, (Kd.R_reads' h4).2.2⟩
theorem begin_r (t c : Int) (hr : Hid (Rel m R Ws)) (hi : Hid (Iw m)) (h : Hid (Bo w0 w b m1 v0 v1 R Ws X)) :
    Calls Try.prog 34 #[.agg #[v0, v1], .int .i64 t, .int .i64 c] w fun e w' => ∃ v0' v1' R' Ws', e = .returned (.tuple #[.agg #[v0', v1'], .int .i64 (beginOut m t c).2]) ∧ Hid (Rel (beginOut m t c).1 R' Ws') ∧ Hid (Iw (beginOut m t c).1) ∧ Hid (Bo w0 w' b m1 v0' v1' R' Ws' X) ∧ Hid (Same X w w') := by
  obtain ⟨V, h1, h2, h3, h4⟩ := h.out.web
  obtain ⟨A0, c0, A1, c1, e0, _, hl0, _, _, _⟩ := h.out.reads
  subst e0
  obtain ⟨hi', R', Ws', ⟨k, hk⟩, hrel⟩ := hr.out.begin_ev hi.out t c
  refine (oncewebref14_Web_Begin.calls k (fun k => ¬ Own b V k ∧ ¬ X k) A0 c0 R (fun k => ¬ Own b V k ∧ ¬ X k) v1 Ws t c R' Ws' _ w0 w h.out.bel h3 h4 (hk k (Nat.le_refl _))).mono ?_
  rintro _ w' ⟨u0, u1, rfl, j1, j2, j3, j4⟩
  obtain ⟨k1, k2⟩ := Bo.ref h1 h2 j1 j2 j3 j4
  exact ⟨u0, u1, R', Ws', rfl, Lib.hid hrel, Lib.hid hi', Lib.hid k1, Lib.hid k2⟩
theorem ask_r (t c : Int) (hr : Hid (Rel m R Ws)) (hi : Hid (Iw m)) (h : Hid (Bo w0 w b m1 v0 v1 R Ws X)) :
    Calls Try.prog 36 #[.agg #[v0, v1], .int .i64 t, .int .i64 c] w fun e w' => ∃ v, e = .returned (.tuple #[v, .int .i64 (askOut m t c).2]) ∧ Hid (IntsAt w' v (askOut m t c).1) ∧ Hid (Bo w0 w' b m1 v0 v1 R Ws X) ∧ Hid (Same X w w') := by
  obtain ⟨A0, c0, A1, c1, e0, e1, hl0, hl1, q0, q1⟩ := h.out.reads
  subst e0; subst e1
  obtain ⟨k, hk⟩ := hr.out.ask_ev hi.out t c
  refine (oncewebref14_Web_Ask.calls k A0 c0 R A1 c1 Ws t c _ _ w q0 hl0 q1 hl1 (hk k (Nat.le_refl _))).mono ?_
  rintro _ w' ⟨u, rfl, j1, j2⟩
  exact ⟨u, rfl, Lib.hid (IntsAt.of_R j1), Lib.hid (h.out.to j2).1, Lib.hid (h.out.to j2).2⟩
theorem wait_r (t c : Int) (hr : Hid (Rel m R Ws)) (hi : Hid (Iw m)) (h : Hid (Bo w0 w b m1 v0 v1 R Ws X)) :
    Calls Try.prog 37 #[.agg #[v0, v1], .int .i64 t, .int .i64 c] w fun e w' => ∃ v0' v1' v R' Ws', e = .returned (.tuple #[.agg #[v0', v1'], v, .int .i64 (waitOut m t c).2.2]) ∧ Hid (Kd.R (Kd.int .i64) 3 w' w0.heap.size (fun k => ¬ X k) v (waitOut m t c).2.1) ∧ Hid (Rel (waitOut m t c).1 R' Ws') ∧ Hid (Iw (waitOut m t c).1) ∧ Hid (Bo w0 w' b m1 v0' v1' R' Ws' X) ∧ Hid (Same X w w') := by
  obtain ⟨V, h1, h2, h3, h4⟩ := h.out.web
  obtain ⟨A0, c0, A1, c1, e0, _, hl0, _, _, _⟩ := h.out.reads
  subst e0
  obtain ⟨hi', R', Ws', ⟨k, hk⟩, hrel⟩ := hr.out.wait_ev hi.out t c
  refine (oncewebref14_Web_Wait.calls k (fun k => ¬ Own b V k ∧ ¬ X k) A0 c0 R (fun k => ¬ Own b V k ∧ ¬ X k) v1 Ws t c R' Ws' _ _ w0 w h.out.bel h3 h4 (hk k (Nat.le_refl _))).mono ?_
  rintro _ w' ⟨u0, u1, u2, rfl, j1, j2, j5, j3, j4⟩
  obtain ⟨k1, k2⟩ := Bo.ref h1 h2 (Kd.V_mono j1 (fun k h => ⟨h.1, h.2.1⟩)) j2 j3 j4
  exact ⟨u0, u1, u2, R', Ws', rfl, Lib.hid (Kd.R_mono j5 (fun k hk hx => by rcases hk with hk | hk; exact hk.2 hx; have := (h2 k hx).2.1; omega)), Lib.hid hrel, Lib.hid hi', Lib.hid k1, Lib.hid k2⟩
theorem end_r (t : Int) (hr : Hid (Rel m R Ws)) (hi : Hid (Iw m)) (h : Hid (Bo w0 w b m1 v0 v1 R Ws X)) :
    Calls Try.prog 35 #[.agg #[v0, v1], .int .i64 t] w fun e w' => ∃ v0' v1' v R' Ws', e = .returned (.tuple #[.agg #[v0', v1'], .int .i64 (endOut m t).2.1, v, .int .i64 (endOut m t).2.2.2]) ∧ Hid (Kd.R (Kd.int .i64) 3 w' w0.heap.size (fun k => ¬ X k) v (endOut m t).2.2.1) ∧ Hid (Rel (endOut m t).1 R' Ws') ∧ Hid (Iw (endOut m t).1) ∧ Hid (Bo w0 w' b m1 v0' v1' R' Ws' X) ∧ Hid (Same X w w') := by
  obtain ⟨V, h1, h2, h3, h4⟩ := h.out.web
  obtain ⟨A0, c0, A1, c1, e0, _, hl0, _, _, _⟩ := h.out.reads
  subst e0
  obtain ⟨hi', R', Ws', ⟨k, hk⟩, hrel⟩ := hr.out.end_ev hi.out t
  refine (oncewebref14_Web_End.calls k (fun k => ¬ Own b V k ∧ ¬ X k) A0 c0 R (fun k => ¬ Own b V k ∧ ¬ X k) v1 Ws t R' Ws' _ _ _ w0 w h.out.bel h3 h4 (hk k (Nat.le_refl _))).mono ?_
  rintro _ w' ⟨u0, u1, u2, rfl, j1, j2, j5, j3, j4⟩
  obtain ⟨k1, k2⟩ := Bo.ref h1 h2 (Kd.V_mono j1 (fun k h => ⟨h.1, h.2.1⟩)) j2 j3 j4
  exact ⟨u0, u1, u2, R', Ws', rfl, Lib.hid (Kd.R_mono j5 (fun k hk hx => by rcases hk with hk | hk; exact hk.2 hx; have := (h2 k hx).2.1; omega)), Lib.hid hrel, Lib.hid hi', Lib.hid k1, Lib.hid k2⟩
theorem waiting_r (t : Nat) (hr : Hid (Rel m R Ws)) (hi : Hid (Iw m)) (h : Hid (Bo w0 w b m1 v0 v1 R Ws X)) :
    Calls Try.prog 39 #[.agg #[v0, v1], .int .i64 t] w fun e w' => e = .returned (.tuple #[.int .i64 (wlook t Ws).1, .bool (wlook t Ws).2]) ∧ Hid (Bo w0 w' b m1 v0 v1 R Ws X) ∧ Hid (Below w.heap.size w w') := by
  obtain ⟨A0, c0, A1, c1, e0, e1, hl0, hl1, q0, q1⟩ := h.out.reads
  subst e0; subst e1
  obtain ⟨k, hk⟩ := waiting_ev R Ws (t : Int) (hr.out.W1)
  refine (oncewebref14_Web_Waiting.calls k A0 c0 R A1 c1 Ws t _ _ w q0 hl0 q1 hl1 (hk k (Nat.le_refl _))).mono ?_
  rintro _ w' ⟨rfl, j2⟩
  exact ⟨rfl, Lib.hid (h.out.to j2).1, Lib.hid j2⟩
theorem runner_r (c : Int) (hr : Hid (Rel m R Ws)) (hi : Hid (Iw m)) (h : Hid (Bo w0 w b m1 v0 v1 R Ws X)) :
    Calls Try.prog 41 #[.agg #[v0, v1], .int .i64 c] w fun e w' => e = .returned (.tuple #[.int .i64 (rlook c R).1, .bool (rlook c R).2]) ∧ Hid (Bo w0 w' b m1 v0 v1 R Ws X) ∧ Hid (Below w.heap.size w w') := by
  obtain ⟨A0, c0, A1, c1, e0, e1, hl0, hl1, q0, q1⟩ := h.out.reads
  subst e0; subst e1
  obtain ⟨k, hk⟩ := runner_ev R Ws c (hr.out.R1) (fun x hx => hr.out.small x hx hi.out)
  refine (oncewebref14_Web_Runner.calls k A0 c0 R A1 c1 Ws c _ _ w q0 hl0 q1 hl1 (hk k (Nat.le_refl _))).mono ?_
  rintro _ w' ⟨rfl, j2⟩
  exact ⟨rfl, Lib.hid (h.out.to j2).1, Lib.hid j2⟩
theorem stack_r (t : Int) (hr : Hid (Rel m R Ws)) (hi : Hid (Iw m)) (h : Hid (Bo w0 w b m1 v0 v1 R Ws X)) :
    Calls Try.prog 40 #[.agg #[v0, v1], .int .i64 t] w fun e w' => ∃ v, e = .returned v ∧ Hid (IntsAt w' v (PDependPlays.look t R)) ∧ Hid (Bo w0 w' b m1 v0 v1 R Ws X) ∧ Hid (Below w.heap.size w w') := by
  obtain ⟨V, h1, h2, h3, h4⟩ := h.out.web
  obtain ⟨A0, c0, A1, c1, e0, e1, hl0, hl1, q0, q1⟩ := h.out.reads
  subst e0; subst e1
  obtain ⟨k, hk⟩ := stack_ev R Ws t (hr.out.R1)
  refine (oncewebref14_Web_Stack.calls k _ A0 c0 R A1 c1 Ws t _ w h3 q1 hl1 (hk k (Nat.le_refl _))).mono ?_
  rintro _ w' ⟨u, rfl, j1, j2⟩
  refine ⟨u, rfl, ?_, Lib.hid (h.out.to j2).1, Lib.hid j2⟩
  obtain ⟨A, c, rfl⟩ := Kd.V_slice j1
  exact Lib.hid ⟨A, c, rfl, (Kd.V_reads' j1).2.1, (Kd.V_reads' j1).2.2⟩
theorem waiters_r (c : Int) (hr : Hid (Rel m R Ws)) (hi : Hid (Iw m)) (h : Hid (Bo w0 w b m1 v0 v1 R Ws X)) :
    Calls Try.prog 42 #[.agg #[v0, v1], .int .i64 c] w fun e w' => ∃ v, e = .returned v ∧ Hid (IntsAt w' v (qlook c Ws)) ∧ Hid (Bo w0 w' b m1 v0 v1 R Ws X) ∧ Hid (Below w.heap.size w w') := by
  obtain ⟨A0, c0, A1, c1, e0, e1, hl0, hl1, q0, q1⟩ := h.out.reads
  subst e0; subst e1
  obtain ⟨k, hk⟩ := waiters_ev R Ws c (hr.out.W1)
  refine (oncewebref14_Web_Waiters.calls k A0 c0 R A1 c1 Ws c _ w q0 hl0 q1 hl1 (hk k (Nat.le_refl _))).mono ?_
  rintro _ w' ⟨u, rfl, j1, j2⟩
  exact ⟨u, rfl, Lib.hid (IntsAt.of_R j1), Lib.hid (h.out.to j2).1, Lib.hid j2⟩
/-- woken: what waits no more. -/
theorem woken_r {Ws' : List S57} (t : Int) (hr : Hid (Rel m R Ws)) (hi : Hid (Iw m)) (hE : Ev (fun k => oncewebref14_Web_woken.f k R Ws t) (R, Ws')) (h : Hid (Bo w0 w b m1 v0 v1 R Ws X)) :
    Calls Try.prog 47 #[.agg #[v0, v1], .int .i64 t] w fun e w' => ∃ v0' v1', e = .returned (.agg #[v0', v1']) ∧ Hid (Bo w0 w' b m1 v0' v1' R Ws' X) ∧ Hid (Below w.heap.size w w') := by
  obtain ⟨V, h1, h2, h3, h4⟩ := h.out.web
  obtain ⟨A0, c0, A1, c1, e0, e1, hl0, hl1, q0, q1⟩ := h.out.reads
  subst e0; subst e1
  obtain ⟨k, hk⟩ := hE
  refine (oncewebref14_Web_woken.calls k _ A0 c0 R A1 c1 Ws t R Ws' w h3 q1 hl1 (hk k (Nat.le_refl _))).mono ?_
  rintro _ w' ⟨u0, u1, rfl, j1, j2, j3⟩
  refine ⟨u0, u1, rfl, ?_, Lib.hid j3⟩
  have hk : Kept w w' (fun k => ¬ Own b V k ∧ ¬ X k) := Kept.of_below j3 _
  have hbel : Below w0.heap.size w0 w' := (h.out.to j3).1.bel
  refine Lib.hid (Bo.ref (v1' := u1) h1 h2 (Kd.V_mono j1 (fun k h => ⟨?_, h.2⟩)) (Kd.R_mono (Kd.R_lower j2 h.out.bel.size) (fun k h => Or.inr h)) hbel hk).1
  rcases h.1 with h | h
  · exact Or.inl (Or.inl h.1)
  · exact Or.inr h
theorem clone_b (hi : Iw m) (h : Hid (Bo w0 w b m v0 v1 R Ws X)) :
    Calls Try.prog 28 #[.pointer (some ⟨b, 0, none⟩)] w fun e w' => ∃ x, e = .returned (.pointer (some ⟨x, 0, none⟩)) ∧ Hid (Bo w0 w' x m v0 v1 R Ws X) ∧ Hid (Same X w w') := by
  obtain ⟨V, h1, h2, h3, h4⟩ := h.out.web
  refine (clone_web _ w b V m h1 (fun i hi2 => ?_)).mono ?_
  · by_cases k : i < 128
    · have := hi.wf.len i k; omega
    · have := hi.few (i - 128) (by omega)
      rw [show 128 + (i - 128) = i by omega] at this; omega
  · rintro e w' ⟨x, rfl, V', k1, k2⟩
    have hno : ∀ k, k < w.heap.size → ¬ Own x V' k := fun k hk ho => by have := (k1.own_lt ho).2; omega
    refine ⟨x, rfl, Lib.hid ⟨⟨V', ⟨k1.blk, Nat.le_trans h.out.bel.size k1.hb, fun i hi => (k1.row i hi).lower h.out.bel.size, k1.apart⟩, fun k hk => ⟨(h2 k hk).1, Nat.lt_of_lt_of_le (h2 k hk).2.1 k2.size, hno k (h2 k hk).2.1⟩,
      Kd.V_mono (Kd.V_below (Kd.V_bound h3) k2) (fun k hk => ⟨⟨hno k hk.2, hk.1.1.2⟩, hk.1.2⟩), Kd.R_mono (Kd.R_below (Kd.R_bound h4) k2) (fun k hk => ⟨hno k hk.2.2.1, hk.1.2⟩)⟩, (h.out.to k2).1.bel⟩, Lib.hid (h.out.to k2).2⟩
theorem side_b (hi : Iw m) (h : Hid (Bo w0 w b m v0 v1 R Ws X)) :
    Calls Try.prog 28 #[.pointer (some ⟨b, 0, none⟩)] w fun e w' => ∃ x, e = .returned (.pointer (some ⟨x, 0, none⟩)) ∧ Hid (Play w w' x) := by
  obtain ⟨V, h1, h2, h3, h4⟩ := h.out.web
  refine (clone_web _ w b V m h1 (fun i hi2 => ?_)).mono (fun e w' ⟨x, a, k⟩ => ⟨x, a, Lib.hid ⟨m, k, hi⟩⟩)
  by_cases k : i < 128
  · have := hi.wf.len i k; omega
  · have := hi.few (i - 128) (by omega)
    rw [show 128 + (i - 128) = i by omega] at this; omega
end
end Go.Proofs.Ytohkobfamofkgaa
namespace Go.Proofs.Ytohkobfamofkgaa
open Go.RowKit Go.Maps Go.Proofs.Ytohkobfamofkgaa Go.Proofs.Ytohkobfamofkgaa.Wb Go.Proofs.Ytohkobfamofkgaa.PDependPlays Go.Proofs.YtohkobfamofkgaaW.PrintWords Go.Proofs.YtohkobfamofkgaaW.PrintLast Go.Proofs.YtohkobfamofkgaaW.PrintMore
/-- A block of two cells. -/
abbrev Bx (w : World) (g : Nat) (a c : Value) : Prop := w.heap[g]? = some (.cells #[a, c] 48 (0, 0))
theorem Bx.facts {w : World} {g : Nat} {a c : Value} (h : Bx w g a c) : w.cell? ⟨g, 0, none⟩ = some a ∧ w.cell? ⟨g, 1, none⟩ = some c ∧ w.frozen? ⟨g, 0, none⟩ = false ∧ w.frozen? ⟨g, 1, none⟩ = false :=
  ⟨blk_cell h 0, blk_cell h 1, blk_frozen h 0, blk_frozen h 1⟩
theorem Bx.same {X : Nat → Prop} {w w' : World} {g : Nat} {a c : Value} (h : Bx w g a c) (k : Same X w w') (hx : X g) : Bx w' g a c := (k g hx).trans h
theorem Bx.put {w : World} {g : Nat} {a c a' c' : Value} (h : Bx w g a c) : Bx ((w.setCell ⟨g, 0, none⟩ a').setCell ⟨g, 1, none⟩ c') g a' c' := (blk_set (blk_set h 0 a') 1 c').trans rfl
theorem chg_two {X : Nat → Prop} {w : World} {g : Nat} {a c : Value} (hx : X g) : Chg X w ((w.setCell ⟨g, 0, none⟩ a).setCell ⟨g, 1, none⟩ c) := ((Chg.refl X w).setCell (p := ⟨g, 0, none⟩) hx a).setCell (p := ⟨g, 1, none⟩) hx c
section
variable {w0 w w' : World} {b : Nat} {m m1 : Web} {v0 v1 : Value} {R : List S55} {Ws : List S57} {X : Nat → Prop}
theorem wrong_r (t : Int) (h : Hid (Bo w0 w b m1 v0 v1 R Ws X)) : Calls Try.prog 49 #[.int .i64 t, .int .i64 0] w fun e w' => e = .returned (.int .i64 (if okT t then 0 else 1)) ∧ Hid (Bo w0 w' b m1 v0 v1 R Ws X) ∧ Hid (Same X w w') := by
  refine (oncewebref14_wrong.calls t 0 _ w (wrong_is t 0)).mono ?_
  rintro _ w' ⟨rfl, ⟨n, rfl⟩⟩
  have hc : okC 0 := by unfold okC; omega
  refine ⟨by by_cases hx : okT t <;> simp [hx, hc], ?_⟩
  have := h.out.to (below_drewN (Below.refl _ _) n)
  exact ⟨Lib.hid this.1, Lib.hid this.2⟩
theorem Bo.boxes (h : Bo w0 w b m v0 v1 R Ws X) (a1 a2 c1 c2 : Value) : Bo w0 ((w.alloc (.cells #[a1, a2] 48)).alloc (.cells #[c1, c2] 48)) b m v0 v1 R Ws (fun k => X k ∨ k = w.heap.size ∨ k = w.heap.size + 1) ∧ Same X w ((w.alloc (.cells #[a1, a2] 48)).alloc (.cells #[c1, c2] 48)) ∧
    Bx ((w.alloc (.cells #[a1, a2] 48)).alloc (.cells #[c1, c2] 48)) w.heap.size a1 a2 ∧ Bx ((w.alloc (.cells #[a1, a2] 48)).alloc (.cells #[c1, c2] 48)) (w.heap.size + 1) c1 c2 := by
  have hb : Below w.heap.size w ((w.alloc (.cells #[a1, a2] 48)).alloc (.cells #[c1, c2] 48)) := ((Below.refl _ _).alloc (Nat.le_refl _) _).alloc (by rw [World.size_alloc]; omega) _
  obtain ⟨j1, j2⟩ := h.box (Y := fun k => k = w.heap.size ∨ k = w.heap.size + 1) hb (fun k hk => by simp only [World.size_alloc]; omega)
  exact ⟨j1, j2, blk_alloc (blk_new w _) _, by have := blk_new (w.alloc (.cells #[a1, a2] 48)) (.cells #[c1, c2] 48); rw [World.size_alloc] at this; exact this⟩
theorem Bo.lt (h : Bo w0 w b m v0 v1 R Ws X) : ∀ k, X k → k < w.heap.size := by
  obtain ⟨V, _, h2, _⟩ := h.web
  exact fun k hk => (h2 k hk).2.1
end
set_option maxHeartbeats 1000000 in
set_option maxRecDepth 100000 in
theorem wake_r {w0 w : World} {b : Nat} {m m1 : Web} {v0 v1 : Value} {R : List S55} {Ws : List S57} {X : Nat → Prop} (t : Int) (hr : Hid (Rel m R Ws)) (hi : Hid (Iw m)) (h : Hid (Bo w0 w b m1 v0 v1 R Ws X)) :
    Calls Try.prog 38 #[.agg #[v0, v1], .int .i64 t] w fun e w' => ∃ v0' v1' R' Ws', e = .returned (.tuple #[.agg #[v0', v1'], .int .i64 (wakeOut m t).2]) ∧ Hid (Rel (wakeOut m t).1 R' Ws') ∧ Hid (Iw (wakeOut m t).1) ∧ Hid (Bo w0 w' b m1 v0' v1' R' Ws' X) ∧ Hid (Same X w w') := by
  obtain ⟨A0, c0, A1, c1, e0, e1, -, -, -, -⟩ := h.out.reads
  subst e0; subst e1
  have HX := Lib.hid h.out.lt
  obtain ⟨j1, j2, j3, j4⟩ := h.out.boxes (.slice A0 R.length c0) (.slice A1 Ws.length c1) (.slice none 0 0) (.slice none 0 0)
  have H1 := Lib.hid j1
  have HS := Lib.hid (And.intro j2 (And.intro j3 j4))
  clear j1 j2 j3 j4 h
  go_enter Try.func38, Try.ntmps38
  go_wp2_with fail
  refine (wrong_r t H1).mono ?_
  rintro _ w1 ⟨rfl, H2, HS2⟩
  have hsz : w.heap.size + 1 < w1.heap.size := by have := H2.out.lt (w.heap.size + 1) (Or.inr (Or.inr rfl)); exact this
  have HB0 := Lib.hid (HS.out.2.1.same HS2.out (Or.inr (Or.inl rfl)))
  have HB1 := Lib.hid (HS.out.2.2.same HS2.out (Or.inr (Or.inr rfl)))
  have HT := Lib.hid (show Same X w w1 from HS.out.1.trans (fun k hk => HS2.out k (Or.inl hk)))
  clear HS HS2 H1
  obtain ⟨q0, q1, q2, q3⟩ := HB0.out.facts
  obtain ⟨p0, p1, p2, p3⟩ := HB1.out.facts
  by_cases hx : okT t
  · obtain ⟨tn, ht, rfl, -⟩ := nat_of hx
    have HW := Lib.hid (hr.out.wake_in hi.out ht)
    have h1 : (if okT (tn : Int) then (0 : Int) else 1) = 0 := if_pos hx
    rw [h1]
    clear p0 p1 p2 p3 h1 hsz
    go_wp2_with fail
    refine (waiting_r tn hr hi H2).mono ?_
    clear q0 q1 q2 q3
    rintro _ w2 ⟨rfl, H3, HD⟩
    have HS3 := Lib.hid (H2.out.to HD.out).2
    have HB0' := Lib.hid (HB0.out.same HS3.out (Or.inr (Or.inl rfl)))
    have HB1' := Lib.hid (HB1.out.same HS3.out (Or.inr (Or.inr rfl)))
    have HT' := Lib.hid (show Same X w w2 from HT.out.trans (fun k hk => HS3.out k (Or.inl hk)))
    clear HB0 HB1 HT HS3 H2 HD
    obtain ⟨hi', Ws', hrel, -, hcase⟩ := HW.out
    have HR := Lib.hid (And.intro hi' hrel)
    clear HW hi' hrel
    obtain ⟨q0, q1, q2, q3⟩ := HB0'.out.facts
    rcases hcase with ⟨hw, hf, ho, rfl⟩ | ⟨hw, hf, ho, hE⟩
    · obtain ⟨p0, p1, p2, p3⟩ := HB1'.out.facts
      have HO := Lib.hid ho
      generalize (wlook (tn : Int) Ws').1 = z at *
      rw [hf]
      clear ho hw hf
      have HE := Lib.hid (And.intro (HB1'.out.put (a' := .slice A0 R.length c0) (c' := .slice A1 Ws'.length c1)) (H3.out.chg (chg_two (a := .slice A0 R.length c0) (c := .slice A1 Ws'.length c1) (Or.inr (Or.inr rfl)))))
      go_wp2_with fail
      refine bodyPost_ret (results_ct rfl _ _ (w.heap.size + 1) 48 #[.slice A0 R.length c0, .slice A1 Ws'.length c1] (0, 0) _ rfl HE.out.1 Try.underlying48 rfl (by kernel_rfl)) rfl ?_
      refine ⟨.slice A0 R.length c0, .slice A1 Ws'.length c1, R, Ws', by rw [HO.out]; rfl, ?_, ?_, Lib.hid (HE.out.2.less (fun k hk => Or.inl hk)), Lib.hid (fun k hk => ?_)⟩
      · rw [HO.out]; exact hr
      · rw [HO.out]; exact hi
      · refine Eq.trans ?_ (HT'.out k hk)
        have := HX.out k hk
        rw [Below.heap_setCell _ _ _ _ (by show k ≠ w.heap.size + 1; omega), Below.heap_setCell _ _ _ _ (by show k ≠ w.heap.size + 1; omega)]
    · have HO := Lib.hid ho
      have HEv := Lib.hid hE
      generalize (wlook (tn : Int) Ws).1 = z at *
      rw [hf]
      clear ho hw hf hE
      go_wp2_with fail
      refine (woken_r (tn : Int) hr hi HEv.out H3).mono ?_
      clear q0 q1 q2 q3
      rintro _ w3 ⟨u0, u1, rfl, H4, HD⟩
      have HS4 := Lib.hid (H3.out.to HD.out).2
      have HB1 := Lib.hid (HB1'.out.same HS4.out (Or.inr (Or.inr rfl)))
      have HT := Lib.hid (show Same X w w3 from HT'.out.trans (fun k hk => HS4.out k (Or.inl hk)))
      clear HB0' HB1' HT' HS4 H3 HD
      obtain ⟨p0, p1, p2, p3⟩ := HB1.out.facts
      have HE := Lib.hid (And.intro (HB1.out.put (a' := u0) (c' := u1)) (H4.out.chg (chg_two (a := u0) (c := u1) (Or.inr (Or.inr rfl)))))
      obtain ⟨⟨A3, c3, e3⟩, A4, c4, e4⟩ := H4.out.shape
      subst e3; subst e4
      go_wp2_with fail
      refine bodyPost_ret (results_ct rfl _ _ (w.heap.size + 1) 48 #[_, _] (0, 0) _ rfl HE.out.1 Try.underlying48 rfl (by kernel_rfl)) rfl ?_
      refine ⟨.slice A3 R.length c3, .slice A4 Ws'.length c4, R, Ws', by rw [HO.out]; rfl, Lib.hid HR.out.2, Lib.hid HR.out.1, Lib.hid (HE.out.2.less (fun k hk => Or.inl hk)), Lib.hid (fun k hk => ?_)⟩
      refine Eq.trans ?_ (HT.out k hk)
      have := HX.out k hk
      rw [Below.heap_setCell _ _ _ _ (by show k ≠ w.heap.size + 1; omega), Below.heap_setCell _ _ _ _ (by show k ≠ w.heap.size + 1; omega)]
  · have HO := Lib.hid (show wakeOut m t = (m, 1) from if_neg hx)
    have h1 : (if okT t then (0 : Int) else 1) = 1 := if_neg hx
    rw [h1]
    have HE := Lib.hid (And.intro (HB1.out.put (a' := .slice A0 R.length c0) (c' := .slice A1 Ws.length c1)) (H2.out.chg (chg_two (a := .slice A0 R.length c0) (c := .slice A1 Ws.length c1) (Or.inr (Or.inr rfl)))))
    clear hx h1
    go_wp2_with fail
    refine bodyPost_ret (results_ct rfl _ _ (w.heap.size + 1) 48 #[.slice A0 R.length c0, .slice A1 Ws.length c1] (0, 0) _ rfl HE.out.1 Try.underlying48 rfl (by kernel_rfl)) rfl ?_
    refine ⟨.slice A0 R.length c0, .slice A1 Ws.length c1, R, Ws, by rw [HO.out]; rfl, ?_, ?_, Lib.hid (HE.out.2.less (fun k hk => Or.inl hk)), Lib.hid (fun k hk => ?_)⟩
    · rw [HO.out]; exact hr
    · rw [HO.out]; exact hi
    · refine Eq.trans ?_ (HT.out k hk)
      have := HX.out k hk
      rw [Below.heap_setCell _ _ _ _ (by show k ≠ w.heap.size + 1; omega), Below.heap_setCell _ _ _ _ (by show k ≠ w.heap.size + 1; omega)]
end Go.Proofs.Ytohkobfamofkgaa
