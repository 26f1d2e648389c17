/- New, and the chapter's first example: works. -/
import Derived.Test.YtohkobfamofkgaaWt
import Derived.KernelRfl
namespace Go.Proofs.Ytohkobfamofkgaa.Wb
open Go.RowKit Go.Maps Go.Proofs.Ytohkobfamofkgaa Go.Proofs.YtohkobfamofkgaaW.PrintWords Go.Proofs.YtohkobfamofkgaaW.PrintLast Go.Proofs.YtohkobfamofkgaaW.PrintMore
def V0 (_ : Nat) : Value := .slice none 0 0
def m0 : Web := { ls := fun _ => [], run := fun _ => 0, wai := fun _ => 0 }
theorem zero67 : (Try.prog.info? 67).map (fun i => (i.zero, i.size, i.bytes)) = some (some (.agg (cells V0 m0)), 768, 12288) := by kernel_rfl
theorem new_any (w : World) :
    Calls Try.prog 22 #[] w fun e w' => e = .returned (.pointer (some ⟨w.heap.size, 0, none⟩)) ∧ w' = w.alloc (.cells (cells V0 m0) 67 (0, 0)) := by
  obtain ⟨i0, hi, hz0, hz1, hz2⟩ := info_parts zero67
  have hz : ∀ w, Sem.run Try.prog (zeroValue 67) w = .ok (.agg (cells V0 m0)) w := fun w => by simp [zeroValue, typeInfo, hi, hz0]
  generalize cells V0 m0 = Z at *
  go_enter Try.func22, Try.ntmps22
  go_wp2
  go_ret
  exact ⟨rfl, rfl⟩

/-- A web of one's own, that is: made since w0. -/
def Mine (w0 w : World) (b : Nat) (m : Web) : Prop := ∃ V, At w0.heap.size w b V m ∧ Below w0.heap.size w0 w
theorem Mine.new (w : World) : Mine w (w.alloc (.cells (cells V0 m0) 67 (0, 0))) w.heap.size m0 :=
  ⟨V0, ⟨blk_new w _, Nat.le_refl _, fun _ _ => ⟨rfl, Or.inl ⟨rfl, rfl⟩⟩, fun _ _ _ _ _ k hk => absurd hk (by simp [V0, Value.ownBlock])⟩, (Below.refl _ _).alloc (Nat.le_refl _) _⟩
theorem Mine.post {w0 w w' : World} {b : Nat} {V : Nat → Value} {m m' : Web} (h : At w0.heap.size w b V m) (hb : Below w0.heap.size w0 w) (k : Post w0.heap.size w b V m' w') : Mine w0 w' b m' := by
  obtain ⟨V', h1, h2, _⟩ := k
  exact ⟨V', h1, Chg.below hb h2 (fun i hi => (h.own_lt hi).2) hb.size⟩
theorem Mine.below {w0 w w' : World} {b : Nat} {m : Web} (h : Mine w0 w b m) (k : Below w.heap.size w w') : Mine w0 w' b m := by
  obtain ⟨V, h1, h2⟩ := h
  exact ⟨V, h1.below k, h2.trans ⟨k.os, k.tape, k.output, k.size, fun i hi => k.block i (Nat.lt_of_lt_of_le hi h2.size)⟩⟩

theorem new_mine (w : World) : Calls Try.prog 22 #[] w fun e w' => e = .returned (.pointer (some ⟨w.heap.size, 0, none⟩)) ∧ Mine w w' w.heap.size m0 :=
  (new_any w).mono (fun e w' ⟨a, k⟩ => ⟨a, k ▸ Mine.new w⟩)

theorem Wf.zero : Wf m0 := ⟨fun _ _ => Or.inl rfl, fun _ _ => Or.inl rfl, fun _ _ => Nat.zero_le _⟩
theorem Wf.begun {m : Web} (h : Wf m) {t c : Nat} (ht : t < 128) (hl : (m.ls t).length < 48) (hr : m.run c = 0) : Wf (begun m t c) := by
  refine ⟨fun d hd => ?_, h.wai, fun s hs => ?_⟩
  · show upd m.run c ((t : Int) + 1) d = 0 ∨ ∃ r : Nat, r < 128 ∧ upd m.run c ((t : Int) + 1) d = (r : Int) + 1 ∧ (d : Int) ∈ upd m.ls t (m.ls t ++ [(c : Int)]) r
    by_cases e : d = c
    · subst e
      exact Or.inr ⟨t, ht, upd_same _ _ _, by rw [upd_same]; simp⟩
    · rw [upd_other _ _ e]
      rcases h.run d hd with h0 | ⟨r, h1, h2, h3⟩
      · exact Or.inl h0
      · refine Or.inr ⟨r, h1, h2, ?_⟩
        by_cases e2 : r = t
        · subst e2; rw [upd_same]; exact List.mem_append_left _ h3
        · rw [upd_other _ _ e2]; exact h3
  · show (upd m.ls t (m.ls t ++ [(c : Int)]) s).length ≤ 48
    by_cases e : s = t
    · subst e; rw [upd_same, List.length_append]; simp; omega
    · rw [upd_other _ _ e]; exact h.len s hs
theorem Wf.waited {m : Web} (h : Wf m) {t c : Nat} (hc : c < 256) : Wf (waited m t c) := by
  refine ⟨fun d hd => ?_, fun s hs => ?_, fun s hs => ?_⟩
  · rcases h.run d hd with h0 | ⟨r, h1, h2, h3⟩
    · exact Or.inl h0
    · refine Or.inr ⟨r, h1, h2, ?_⟩
      show (d : Int) ∈ upd m.ls (128 + c) _ r
      rw [upd_other _ _ (by omega)]; exact h3
  · show upd m.wai t ((c : Int) + 1) s = 0 ∨ ∃ d : Nat, d < 256 ∧ upd m.wai t ((c : Int) + 1) s = (d : Int) + 1
    by_cases e : s = t
    · subst e; rw [upd_same]; exact Or.inr ⟨c, hc, rfl⟩
    · rw [upd_other _ _ e]; exact h.wai s hs
  · show (upd m.ls (128 + c) _ s).length ≤ 48
    rw [upd_other _ _ (by omega)]; exact h.len s hs


/-- Begin, Wait and Ask for a web of one's own. -/
theorem begin_mine (w0 w : World) (b : Nat) (m : Web) (t c : Nat) (ht : t < 128) (hc : c < 256) (h : Mine w0 w b m) (hw : ¬ 0 < m.wai t) (hr : ¬ 0 < m.run c) (hl : ¬ 48 ≤ ((m.ls t).length : Int)) :
    Calls Try.prog 17 #[.pointer (some ⟨b, 0, none⟩), .int .i64 t, .int .i64 c] w fun e w' => e = .returned (.int .i64 0) ∧ Mine w0 w' b (begun m t c) := by
  obtain ⟨V, h1, h2⟩ := h
  exact (begin_ok _ w b V m t c ht hc h1 hw hr hl).mono (fun e w' ⟨a, k⟩ => ⟨a, Mine.post h1 h2 k⟩)
theorem wait_mine (w0 w : World) (b : Nat) (m : Web) (t c n : Nat) (ht : t < 128) (hc : c < 256) (h : Mine w0 w b m) (wf : Wf m) (he : ends m t n c) (hn : n ≤ 1000) (hw : ¬ 0 < m.wai t) (hr : ¬ m.run c = 0) (hl : circle m t n c = []) (hq : (m.ls (128 + c)).length ≤ 1000) :
    Calls Try.prog 20 #[.pointer (some ⟨b, 0, none⟩), .int .i64 t, .int .i64 c] w fun e w' => e = .returned (.tuple #[.slice none 0 0, .int .i64 0]) ∧ Mine w0 w' b (waited m t c) := by
  obtain ⟨V, h1, h2⟩ := h
  exact (wait_ok _ w b V m t c n ht hc h1 wf he hn hw hr hl hq).mono (fun e w' ⟨a, k⟩ => ⟨a, Mine.post h1 h2 k⟩)

def m1 : Web := begun m0 0 5
def m2 : Web := begun m1 0 6
def m3 : Web := begun m2 1 7
def m4 : Web := waited m3 1 5
theorem wf4 : Wf m4 := (((Wf.zero.begun (t := 0) (c := 5) (by decide) (by decide) rfl).begun (t := 0) (c := 6) (by decide) (by decide) rfl).begun (t := 1) (c := 7) (by decide) (by decide) rfl).waited (by decide)
theorem wf3 : Wf m3 := (((Wf.zero.begun (t := 0) (c := 5) (by decide) (by decide) rfl).begun (t := 0) (c := 6) (by decide) (by decide) rfl).begun (t := 1) (c := 7) (by decide) (by decide) rfl)
theorem ends3 : ends m3 1 1 5 := Or.inr (Or.inr (Or.inl rfl))
theorem ends4 : ends m4 0 3 7 := Or.inr (Or.inr (Or.inr (Or.inr (Or.inl rfl))))
theorem circle3 : circle m3 1 1 5 = [] := by decide
theorem circle4 : circle m4 0 3 7 = [7, 5, 6] := by decide
theorem ints756 : PDependTells.onceweblaw14_ints.f 4 [7, 5, 6] [7, 5, 6] = some true := by kernel_rfl

abbrev BeginC (w0 w : World) (b : Nat) (t c : Int) (m : Web) : Prop := Calls Try.prog 17 #[.pointer (some ⟨b, 0, none⟩), .int .i64 t, .int .i64 c] w fun e w' => e = .returned (.int .i64 0) ∧ Hid (Mine w0 w' b m)
theorem b1 {w0 w : World} {b : Nat} (h : Hid (Mine w0 w b m0)) : BeginC w0 w b 0 5 m1 :=
  (begin_mine w0 w b m0 0 5 (by decide) (by decide) h.out (by decide) (by decide) (by decide)).mono (fun _ _ ⟨a, k⟩ => ⟨a, Lib.hid k⟩)
theorem b2 {w0 w : World} {b : Nat} (h : Hid (Mine w0 w b m1)) : BeginC w0 w b 0 6 m2 :=
  (begin_mine w0 w b m1 0 6 (by decide) (by decide) h.out (by decide) (by decide) (by decide)).mono (fun _ _ ⟨a, k⟩ => ⟨a, Lib.hid k⟩)
theorem b3 {w0 w : World} {b : Nat} (h : Hid (Mine w0 w b m2)) : BeginC w0 w b 1 7 m3 :=
  (begin_mine w0 w b m2 1 7 (by decide) (by decide) h.out (by decide) (by decide) (by decide)).mono (fun _ _ ⟨a, k⟩ => ⟨a, Lib.hid k⟩)
theorem b4 {w0 w : World} {b : Nat} (h : Hid (Mine w0 w b m3)) : Calls Try.prog 20 #[.pointer (some ⟨b, 0, none⟩), .int .i64 1, .int .i64 5] w fun e w' => e = .returned (.tuple #[.slice none 0 0, .int .i64 0]) ∧ Hid (Mine w0 w' b m4) :=
  (wait_mine w0 w b m3 1 5 1 (by decide) (by decide) h.out wf3 ends3 (by decide) (by decide) (by decide) circle3 (by decide)).mono (fun _ _ ⟨a, k⟩ => ⟨a, Lib.hid k⟩)
/-- A row of one's own in memory, made since w. -/
def Got (w w' : World) (v : Value) (l : List Int) : Prop := Row w.heap.size w' v l ∧ Below w.heap.size w w'
theorem b5 {w0 w : World} {b : Nat} (h : Hid (Mine w0 w b m4)) : Calls Try.prog 26 #[.pointer (some ⟨b, 0, none⟩), .int .i64 0, .int .i64 7] w fun e w' => ∃ v, e = .returned (.tuple #[v, .int .i64 0]) ∧ Hid (Got w w' v [7, 5, 6]) ∧ Hid (Mine w0 w' b m4) := by
  obtain ⟨V, h1, h2⟩ := h.out
  refine (ask_ok _ w b V m4 0 7 3 (by decide) (by decide) h1 wf4 ends4 (by decide) (by decide)).mono ?_
  rintro _ w' ⟨v, rfl, hr, hb⟩
  rw [circle4] at hr
  exact ⟨v, rfl, Lib.hid ⟨hr, hb⟩, Lib.hid (h.out.below hb)⟩
theorem b6 {w0 w : World} {b : Nat} (h : Hid (Mine w0 w b m4)) : Calls Try.prog 20 #[.pointer (some ⟨b, 0, none⟩), .int .i64 0, .int .i64 7] w fun e w' => ∃ v, e = .returned (.tuple #[v, .int .i64 140]) ∧ Hid (Got w w' v [7, 5, 6]) ∧ Hid (Mine w0 w' b m4) := by
  obtain ⟨V, h1, h2⟩ := h.out
  refine (wait_cycle _ w b V m4 0 7 3 (by decide) (by decide) h1 wf4 ends4 (by decide) (by decide) (by decide) (by rw [circle4]; simp)).mono ?_
  rintro _ w' ⟨v, rfl, hr, hb⟩
  rw [circle4] at hr
  exact ⟨v, rfl, Lib.hid ⟨hr, hb⟩, Lib.hid (h.out.below hb)⟩
theorem Row.C {B : Nat} {w : World} {v : Value} {l : List Int} (h : Row B w v l) (hl : l ≠ []) : ∃ A cap, v = .slice A l.length cap ∧ Kd.C (Kd.int .i64) w A l.length l ∧ l.length ≤ cap := by
  obtain ⟨g, cap, cur, e, hb, hc, hm, ht⟩ := h.full hl
  exact ⟨_, cap, e, row_C hb (by omega) ht, hc⟩
theorem ints_756 (w : World) (v : Value) (B : Nat) (h : Hid (Row B w v [7, 5, 6])) :
    Calls Try.prog 11 #[v, .slice (some ⟨w.heap.size, 0, none⟩) 3 3] (w.alloc (.cells #[.int .i64 7, .int .i64 5, .int .i64 6] 3 (0, 0))) fun e w' => e = .returned (.bool true) ∧ Hid (Below w.heap.size w w') := by
  obtain ⟨A, cap, rfl, hC, hc⟩ := (h.out.below ((Below.refl w.heap.size w).alloc (Nat.le_refl _) (.cells #[.int .i64 7, .int .i64 5, .int .i64 6] 3 (0, 0)))).C (by simp)
  refine (PDependTells.onceweblaw14_ints.calls 4 A cap [7, 5, 6] (some ⟨w.heap.size, 0, none⟩) 3 [7, 5, 6] true _ hC hc (row_C (blk_new w _) (by decide) rfl) (by decide) ints756).mono ?_
  rintro _ w' ⟨rfl, m, rfl⟩
  exact ⟨rfl, Lib.hid (below_drewN ((Below.refl w.heap.size w).alloc (Nat.le_refl _) _) m)⟩

set_option maxHeartbeats 2000000 in
set_option maxRecDepth 100000 in
theorem works_true (w : World) : Calls Try.prog 12 #[] w fun e w' => e = .returned (.bool true) ∧ Below w.heap.size w w' := by
  go_enter Try.func12, Try.ntmps12
  go_wp2_with (first | (go_at_call 22; refine (new_mine _).mono ?_; rintro _ w1 ⟨rfl, k2⟩; have H1 := Lib.hid k2; clear k2) | (go_at_call 17; first | (refine (b1 H1).mono ?_; clear H1; rintro _ w2 ⟨rfl, H2⟩) | (refine (b2 H2).mono ?_; clear H2; rintro _ w3 ⟨rfl, H3⟩) | (refine (b3 H3).mono ?_; clear H3; rintro _ w4 ⟨rfl, H4⟩)))
  go_wp2_with (first | (go_at_call 20; first | (refine (b4 H4).mono ?_; clear H4; rintro _ w5 ⟨rfl, H5⟩) | (refine (b6 H6).mono ?_; clear H6; rintro _ w7 ⟨v7, rfl, G7, H7⟩)) | (go_at_call 26; refine (b5 H5).mono ?_; clear H5; rintro _ w6 ⟨v6, rfl, G6, H6⟩))
  refine (ints_756 w7 v6 w5.heap.size (Lib.hid (G6.out.1.below G7.out.2))).mono ?_
  clear G6
  rintro _ w8 ⟨rfl, K8⟩
  go_wp2_with fail
  refine (ints_756 w8 v7 w6.heap.size (Lib.hid (G7.out.1.below K8.out))).mono ?_
  rintro _ w9 ⟨rfl, K9⟩
  go_wp2_with fail
  go_ret
  exact ⟨rfl, ((H7.out.below K8.out).below K9.out).elim (fun _ h => h.2)⟩
end Go.Proofs.Ytohkobfamofkgaa.Wb
