/- A breaker in memory with all that a law keeps of it; what its methods make of that: for every breaker. -/
import Derived.Test.YtklccnnmdlckfaaWk
namespace Go.Proofs.Ytklccnnmdlckfaa.Br
open Go.RowKit Go.Maps Go.Proofs.Ytklccnnmdlckfaa Go.Proofs.YtklccnnmdlckfaaW.PrintWords Go.Proofs.YtklccnnmdlckfaaW.PrintLast Go.Proofs.YtklccnnmdlckfaaW.PrintMore

/-- The breaker's two blocks, both made since w. -/
structure Full (w wr : World) (b m n : Nat) (s : Brk) (D : DataW Unit) : Prop where
  blk : At wr b m s
  map : Mp wr m n D
  below : Below w.heap.size w wr
  hb : w.heap.size ≤ b
  hm : w.heap.size ≤ m

abbrev Own (b m k : Nat) : Prop := k = b ∨ k = m

section
variable {w wr w' : World} {b m n : Nat} {s : Brk} {D : DataW Unit}
theorem Full.step {s' : Brk} {D' : DataW Unit} {n' : Nat} (h : Full w wr b m n s D) (h1 : At w' b m s') (h2 : Mp w' m n' D') (h3 : Chg (Own b m) wr w') : Full w w' b m n' s' D' :=
  ⟨h1, h2, Chg.below h.below h3 (fun i hi => by rcases hi with rfl | rfl; exact h.hb; exact h.hm) h.below.size, h.hb, h.hm⟩
theorem Full.chg {S : Nat → Prop} (h : Full w wr b m n s D) (k : Chg S wr w') (hS : ∀ i, S i → w.heap.size ≤ i) (h1 : ¬ S b) (h2 : ¬ S m) : Full w w' b m n s D :=
  ⟨h.blk.chg k h1, h.map.chg k h2, Chg.below h.below k hS h.below.size, h.hb, h.hm⟩
theorem Full.of_below (h : Full w wr b m n s D) (k : Below wr.heap.size wr w') : Full w w' b m n s D := h.chg (S := fun _ => False) (Chg.of_below k) (fun _ h => h.elim) (fun h => h) (fun h => h)
theorem Full.tidy (h : Full w wr b m n s D) : Maps.Tidy D := World.ownsMap.tidy h.map.out law3

theorem ask_late_f (t : Int) (h : Full w wr b m n s D) (hl : late s t ≠ 0) :
    Calls Try.prog 34 #[.pointer (some ⟨b, 0, none⟩), .int .i64 t] wr fun e w' => e = .returned (.tuple #[.int .i64 0, .bool false, .int .i64 (late s t)]) ∧ Full w w' b m n s D ∧ Chg (Own b m) wr w' :=
  (ask_late wr b m s t h.blk hl).mono fun _ _ ⟨e, k, hw⟩ => ⟨e, hw ▸ h.of_below (below_drewN _ _), hw ▸ (Chg.refl _ _).drewN _⟩
theorem ask_not_f (t : Int) (h : Full w wr b m n s D) (hl : late s t = 0) (hn : lets s t = false) :
    Calls Try.prog 34 #[.pointer (some ⟨b, 0, none⟩), .int .i64 t] wr fun e w' => e = .returned (.tuple #[.int .i64 0, .bool false, .int .i64 0]) ∧ Full w w' b m n { s with last := t } D ∧ Chg (Own b m) wr w' :=
  (ask_not wr b m s t h.blk hl hn).mono fun _ _ ⟨e, k1, k2⟩ => ⟨e, h.step k1 (h.map.chg k2 (h.blk.ne h.map)) (k2.mono (fun _ h => Or.inl h)), k2.mono (fun _ h => Or.inl h)⟩
theorem ask_long_f (t : Int) (h : Full w wr b m n s D) (hl : late s t = 0) (hn : lets s t = true) (hz : 1024 ≤ Maps.size D) :
    Calls Try.prog 34 #[.pointer (some ⟨b, 0, none⟩), .int .i64 t] wr fun e w' => e = .returned (.tuple #[.int .i64 0, .bool false, .int .i64 3]) ∧ Full w w' b m n s D ∧ Chg (Own b m) wr w' :=
  (ask_long wr b m n s D t h.blk h.map hl hn hz).mono fun _ _ ⟨e, k, hw⟩ => ⟨e, hw ▸ h.of_below (below_drewN _ _), hw ▸ (Chg.refl _ _).drewN _⟩
theorem ask_closed_f (t : Int) (h : Full w wr b m n s D) (hl : late s t = 0) (h1 : s.state = 1) (hz : Maps.size D < 1024) (hn : n < maxLen) (he : (Lit.int .i64 s.epoch).wf = true) :
    Calls Try.prog 34 #[.pointer (some ⟨b, 0, none⟩), .int .i64 t] wr fun e w' => e = .returned (.tuple #[.int .i64 (wrap64 (s.tries + 1)), .bool true, .int .i64 0]) ∧
      Full w w' b m (n + 1) (asked s t) (D.put (.int .i64 (wrap64 (s.tries + 1))) (.lit (.int .i64 s.epoch))) ∧ Chg (Own b m) wr w' :=
  (ask_closed wr b m n s D t h.blk h.map hl (by simp [h1]) (by simp [h1]) hz hn he).mono fun _ _ ⟨e, k1, k2, k3⟩ => ⟨e, h.step k1 k2 k3, k3⟩
theorem ask_open_f (t : Int) (h : Full w wr b m n s D) (hl : late s t = 0) (h2 : s.state = 2) (h3 : s.untl ≤ t) (hz : Maps.size D < 1024) (hn : n < maxLen) :
    Calls Try.prog 34 #[.pointer (some ⟨b, 0, none⟩), .int .i64 t] wr fun e w' => e = .returned (.tuple #[.int .i64 (wrap64 (s.tries + 1)), .bool true, .int .i64 0]) ∧
      Full w w' b m (n + 1) (reopened s t) (D.put (.int .i64 (wrap64 (s.tries + 1))) (.lit (.int .i64 (wrap64 (s.epoch + 1))))) ∧ Chg (Own b m) wr w' :=
  (ask_open wr b m n s D t h.blk h.map hl (by simp [h2]) (by simp [h2]) h3 hz hn).mono fun _ _ ⟨e, k1, k2, k3⟩ => ⟨e, h.step k1 k2 k3, k3⟩
theorem tell_none_f (x : Int) (fine : Bool) (t : Int) (h : Full w wr b m n s D) (hx : (Lit.int .i64 x).wf = true) (hd : Maps.has D (.int .i64 x) = false) :
    Calls Try.prog 36 #[.pointer (some ⟨b, 0, none⟩), .int .i64 x, .bool fine, .int .i64 t] wr fun e w' => e = .returned (.int .i64 4) ∧ Full w w' b m n s D ∧ Chg (Own b m) wr w' :=
  (tell_none wr b m n s D x fine t h.blk h.map hx hd).mono fun _ _ ⟨e, k, hw⟩ => ⟨e, hw ▸ h.of_below (below_drewN _ _), hw ▸ (Chg.refl _ _).drewN _⟩
theorem tell_late_f (x : Int) (fine : Bool) (t : Int) (h : Full w wr b m n s D) (hx : (Lit.int .i64 x).wf = true) (hd : Maps.has D (.int .i64 x) = true) (hl : late s t ≠ 0) :
    Calls Try.prog 36 #[.pointer (some ⟨b, 0, none⟩), .int .i64 x, .bool fine, .int .i64 t] wr fun e w' => e = .returned (.int .i64 (late s t)) ∧ Full w w' b m n s D ∧ Chg (Own b m) wr w' :=
  (tell_late wr b m n s D x fine t h.blk h.map hx hd hl).mono fun _ _ ⟨e, k, hw⟩ => ⟨e, hw ▸ h.of_below (below_drewN _ _), hw ▸ (Chg.refl _ _).drewN _⟩
theorem tell_ok_f (x : Int) (fine : Bool) (t : Int) (h : Full w wr b m n s D) (hx : (Lit.int .i64 x).wf = true) (hd : Maps.has D (.int .i64 x) = true) (hl : late s t = 0) (hr : 1 ≤ s.rest) (hf : 0 ≤ s.fails) (hf2 : s.fails ≤ 1000) :
    Calls Try.prog 36 #[.pointer (some ⟨b, 0, none⟩), .int .i64 x, .bool fine, .int .i64 t] wr fun e w' => e = .returned (.int .i64 0) ∧ Full w w' b m n (told s (atI D x) fine t) (D.del (.int .i64 x)) ∧ Chg (Own b m) wr w' :=
  (tell_ok wr b m n s D x fine t h.blk h.map hx hd hl hr hf hf2).mono fun _ _ ⟨e, k1, k2, k3⟩ => ⟨e, h.step k1 k2 k3, k3⟩
theorem state_f (h : Full w wr b m n s D) :
    Calls Try.prog 38 #[.pointer (some ⟨b, 0, none⟩)] wr fun e w' => e = .returned (.tuple #[.int .i64 s.state, .int .i64 s.fails, .int .i64 s.untl]) ∧ Full w w' b m n s D ∧ Chg (Own b m) wr w' :=
  (state_any wr b m s h.blk).mono fun _ _ ⟨e, k, hw⟩ => ⟨e, hw ▸ h.of_below (below_drewN _ _), hw ▸ (Chg.refl _ _).drewN _⟩
end

/-- The key of a number. -/
theorem keyLit (x : Int) : WideAt.IsKeyLit (.int .i64 x) := trivial
theorem key_ne {x y : Int} (h : x ≠ y) : (Lit.int .i64 x) ≠ .int .i64 y := fun e => h (by injection e)

/-- No try is on its way. -/
def Emp (D : DataW Unit) : Prop := Maps.size D = 0 ∧ ∀ k, Maps.has D k = false
theorem emp_empty : Emp (.map []) := ⟨rfl, fun _ => rfl⟩
theorem Emp.back {D : DataW Unit} (h : Emp D) (hD : Maps.Tidy D) (x e : Int) : Emp ((D.put (.int .i64 x) (.lit (.int .i64 e))).del (.int .i64 x)) := by
  have hT := hD.put (keyLit x) (.lit (.int .i64 e))
  constructor
  · have h1 := Maps.size_del (k := .int .i64 x) hT
    rw [Maps.has_put_same hD.isMap (keyLit x), Maps.size_put hD] at h1
    rw [h.2] at h1
    simp [h.1] at h1
    exact h1
  · intro k
    by_cases hk : k = .int .i64 x
    · subst hk; exact Maps.has_del_same
    · rw [Maps.has_del_other hk, Maps.has_put_other hk]; exact h.2 k
theorem atI_put {D : DataW Unit} (hD : Maps.Tidy D) (x e : Int) : atI (D.put (.int .i64 x) (.lit (.int .i64 e))) x = e := by
  unfold atI
  rw [Maps.atKey_put_same hD.isMap (keyLit x)]
end Go.Proofs.Ytklccnnmdlckfaa.Br
