/- What Begin, Wait's own part, Stack, Waiters and New answer, and what they leave: for every web. -/
import Derived.Test.YtohkobfamofkgaaAt
import Derived.Deep.RegionLaw
import Derived.Deep.RegionHeld3
namespace Go.Proofs.Ytohkobfamofkgaa.Wb
open Go.RowKit Go.Maps Go.Proofs.Ytohkobfamofkgaa Go.Proofs.YtohkobfamofkgaaW.PrintWords Go.Proofs.YtohkobfamofkgaaW.PrintLast Go.Proofs.YtohkobfamofkgaaW.PrintMore

theorem begin_range (w : World) (b : Nat) (t c : Int) (h : ¬ ((0 ≤ t ∧ t < 128) ∧ (0 ≤ c ∧ c < 256))) :
    Calls Try.prog 17 #[.pointer (some ⟨b, 0, none⟩), .int .i64 t, .int .i64 c] w fun e w' => e = .returned (.int .i64 1) ∧ w = w' := by
  by_cases ht : 0 ≤ t ∧ t < 128
  · have hc : ¬ (0 ≤ c ∧ c < 256) := fun k => h ⟨ht, k⟩
    have HC := Lib.hid hc
    obtain ⟨t0, t1⟩ := ht
    clear h hc
    go_enter Try.func17, Try.ntmps17
    go_wp2_with (first | (go_at_call 29; refine (task_in _ _ t0 t1).mono ?_; rintro _ _ ⟨rfl, rfl⟩) | (go_at_call 31; refine (cell_out _ _ HC.out).mono ?_; rintro _ _ ⟨rfl, rfl⟩))
    go_ret
    exact ⟨rfl, rfl⟩
  · have HC := Lib.hid ht
    clear h ht
    go_enter Try.func17, Try.ntmps17
    go_wp2_with (first | (go_at_call 29; refine (task_out _ _ HC.out).mono ?_; rintro _ _ ⟨rfl, rfl⟩))
    go_ret
    exact ⟨rfl, rfl⟩

theorem begin_state (w : World) (b : Nat) (V : Nat → Value) (m : Web) (t c : Nat) (ht : t < 128) (hc : c < 256) (h : Blk w b V m) (hw : 0 < m.wai t) :
    Calls Try.prog 17 #[.pointer (some ⟨b, 0, none⟩), .int .i64 t, .int .i64 c] w fun e w' => e = .returned (.int .i64 7) ∧ w = w' := by
  have c0 := h.waits ht
  clear h
  go_enter Try.func17, Try.ntmps17
  go_wp2_with (first | (go_at_call 29; refine (task_in _ _ (by omega) (by omega)).mono ?_; rintro _ _ ⟨rfl, rfl⟩) | (go_at_call 31; refine (cell_in _ _ (by omega) (by omega)).mono ?_; rintro _ _ ⟨rfl, rfl⟩))
  go_ret
  exact ⟨rfl, rfl⟩

theorem begin_twice (w : World) (b : Nat) (V : Nat → Value) (m : Web) (t c : Nat) (ht : t < 128) (hc : c < 256) (h : Blk w b V m) (hw : ¬ 0 < m.wai t) (hr : 0 < m.run c) :
    Calls Try.prog 17 #[.pointer (some ⟨b, 0, none⟩), .int .i64 t, .int .i64 c] w fun e w' => e = .returned (.int .i64 6) ∧ w = w' := by
  have c0 := h.waits ht
  have c1 := h.runner hc
  clear h
  go_enter Try.func17, Try.ntmps17
  go_wp2_with (first | (go_at_call 29; refine (task_in _ _ (by omega) (by omega)).mono ?_; rintro _ _ ⟨rfl, rfl⟩) | (go_at_call 31; refine (cell_in _ _ (by omega) (by omega)).mono ?_; rintro _ _ ⟨rfl, rfl⟩))
  go_ret
  exact ⟨rfl, rfl⟩

theorem Row.shape {B : Nat} {w : World} {v : Value} {l : List Int} (h : Row B w v l) : ∃ A cap, v = .slice A l.length cap := by
  rcases h.cases with ⟨rfl, rfl⟩ | ⟨g, cap, cur, rfl, _⟩
  · exact ⟨none, 0, rfl⟩
  · exact ⟨_, cap, rfl⟩

theorem begin_deep (B : Nat) (w : World) (b : Nat) (V : Nat → Value) (m : Web) (t c : Nat) (ht : t < 128) (hc : c < 256) (h : At B w b V m) (hw : ¬ 0 < m.wai t) (hr : ¬ 0 < m.run c) (hl : 48 ≤ ((m.ls t).length : Int)) :
    Calls Try.prog 17 #[.pointer (some ⟨b, 0, none⟩), .int .i64 t, .int .i64 c] w fun e w' => e = .returned (.int .i64 141) ∧ w = w' := by
  have c0 := h.blk.waits ht
  have c1 := h.blk.runner hc
  have c2 := h.blk.stack ht
  obtain ⟨A, cap, e⟩ := (h.row t (by omega)).shape
  rw [e] at c2
  clear h e
  go_enter Try.func17, Try.ntmps17
  go_wp2_with (first | (go_at_call 29; refine (task_in _ _ (by omega) (by omega)).mono ?_; rintro _ _ ⟨rfl, rfl⟩) | (go_at_call 31; refine (cell_in _ _ (by omega) (by omega)).mono ?_; rintro _ _ ⟨rfl, rfl⟩))
  go_ret
  exact ⟨rfl, rfl⟩

def begun (m : Web) (t c : Nat) : Web := { m with ls := upd m.ls t (m.ls t ++ [(c : Int)]), run := upd m.run c ((t : Int) + 1) }

/-- Behind an append to the row of a web: the web's block stands. -/
theorem At.far {B : Nat} {w w1 : World} {b i : Nat} {V : Nat → Value} {m : Web} (h : At B w b V m) (hi : i < 384) (o : Obj) (hg : (w.alloc o).grownBy w1 (V i).ownBlock) : Blk w1 b V m ∧ ∀ j, j < 384 → j ≠ i → ∀ k, (V j).ownBlock = some k → w1.heap[k]? = w.heap[k]? := by
  have hs := World.size_alloc w o
  constructor
  · refine (hg.block b (by have := blk_lt h.blk; omega) (fun e => h.ne hi e.symm rfl)).trans ?_
    rw [Below.heap_alloc w o b (blk_lt h.blk)]
    exact h.blk
  · intro j hj hne k hk
    obtain ⟨_, hlt, _⟩ := (h.row j hj).block hk
    rw [hg.block k (by omega) (fun e => h.apart j i hj hi hne k hk e.symm), Below.heap_alloc w o k hlt]

set_option maxRecDepth 100000 in
theorem begin_ok (B : Nat) (w : World) (b : Nat) (V : Nat → Value) (m : Web) (t c : Nat) (ht : t < 128) (hc : c < 256) (h : At B w b V m) (hw : ¬ 0 < m.wai t) (hr : ¬ 0 < m.run c) (hl : ¬ 48 ≤ ((m.ls t).length : Int)) :
    Calls Try.prog 17 #[.pointer (some ⟨b, 0, none⟩), .int .i64 t, .int .i64 c] w fun e w' => e = .returned (.int .i64 0) ∧ Post B w b V (begun m t c) w' := by
  have c0 := h.blk.waits ht
  have c1 := h.blk.runner hc
  have c2 := h.blk.stack ht
  have f := h.blk.free
  have hlt := blk_lt h.blk
  obtain ⟨A, cap, e⟩ := (h.row t (by omega)).shape
  obtain ⟨i0, hi, hz0, hz1, hz2⟩ := info_parts info3
  have HI := Lib.hid (And.intro hi (And.intro hz0 (And.intro hz1 hz2)))
  have HA := Lib.hid h
  have HL := Lib.hid (show (m.ls t).length < 48 by omega)
  have HR := Lib.hid ((h.row t (by omega)).below ((Below.refl w.heap.size w).alloc (Nat.le_refl _) (.cells #[.int .i64 c] 3)))
  have HN := Lib.hid (news (w := w.alloc (.cells #[.int .i64 c] 3)) (n := 1) (l := [(c : Int)]) (blk_new w (.cells #[.int .i64 c] 3)) rfl)
  have HQ := Lib.hid (show (m.ls t).length + 1 ≤ maxLen ∧ ((m.ls t).length + 1) * 8 ≤ 140737488355328 ∧ B ≤ (w.alloc (.cells #[.int .i64 c] 3)).heap.size from ⟨by unfold maxLen; omega, by omega, by rw [World.size_alloc]; have := h.hb; omega⟩)
  have HF := Lib.hid (fun w1 hg => h.far (w1 := w1) (i := t) (by omega) (.cells #[.int .i64 c] 3) hg)
  rw [e] at c2
  have HE := Lib.hid e
  have ht' : (t : Int) < 128 := by omega
  have hc' : (c : Int) < 256 := by omega
  clear h e hi hz0 hz1 hz2
  go_enter Try.func17, Try.ntmps17
  go_wp2_with (first | (go_at_call 29; refine (task_in _ _ (by omega) (by omega)).mono ?_; rintro _ _ ⟨rfl, rfl⟩) | (go_at_call 31; refine (cell_in _ _ (by omega) (by omega)).mono ?_; rintro _ _ ⟨rfl, rfl⟩))
  go_region_law (refine step_append_lies _ rfl (.tmp 48) (.tmp 50) 22 rfl B 3 i0 (.int .i64 0) 1 8 Try.underlying22 HI.out.1 HI.out.2.1 HI.out.2.2.1 HI.out.2.2.2 rfl (by decide) (V t) (m.ls t).length ((m.ls t).map (Value.int .i64)) (by rw [HE.out]; rfl) HR.out ⟨w.heap.size, 0, none⟩ 1 1 [.int .i64 c] rfl HN.out.1 HN.out.2.1 HN.out.2.2 (by decide) HQ.out.1 HQ.out.2.1 HQ.out.2.2 _ rfl ?_; intro g cap' w1 hown hgrow hat hlt1; have HG := Lib.hid (And.intro hown (And.intro (show (w.alloc (.cells #[.int .i64 c] 3)).grownBy w1 (V t).ownBlock from ⟨hgrow.os, hgrow.tape, hgrow.output, hgrow.size, hgrow.block⟩) hat)); clear hown hgrow hat hlt1; have q1 := (HF.out w1 HG.out.2.1).1.stack ht; rw [HE.out] at q1; have q2 := (HF.out w1 HG.out.2.1).1.free)
  all_goals
    have HT := Lib.hid (show At B (w1.setCell ⟨b, t, none⟩ (.slice (some ⟨g, 0, none⟩) ((m.ls t).length + 1) cap')) b (upd V t (.slice (some ⟨g, 0, none⟩) ((m.ls t).length + 1) cap')) { m with ls := upd m.ls t (m.ls t ++ [(c : Int)]) } from by
      obtain ⟨k1, k2⟩ := HF.out w1 HG.out.2.1
      refine HA.out.put (l' := m.ls t ++ [(c : Int)]) (k1.setStack ht _ _) (fun j _ => rfl) ?_ ?_ ?_ (by omega)
      · have e := HG.out.1
        have hg : g ≠ b := by
          rcases HG.out.2.2 with h | h
          · exact HA.out.ne (by omega) h
          · have := blk_lt HA.out.blk; have hs' : (w.alloc (.cells #[.int .i64 c] 3)).drew.heap.size = w.heap.size + 1 := World.size_alloc w _; omega
        refine Row.move (w := w1) ?_ (fun i hi => by cases hi; exact Below.heap_setCell _ _ _ _ hg)
        unfold Row
        rw [List.length_append, List.map_append]
        exact e
      · intro j hj hne k hk
        rw [Below.heap_setCell _ _ _ _ (HA.out.ne hj hk)]
        exact k2 j hj hne k hk
      · intro k hk
        cases hk
        rcases HG.out.2.2 with h | h
        · exact Or.inl h
        · have hs' : (w.alloc (.cells #[.int .i64 c] 3)).drew.heap.size = w.heap.size + 1 := World.size_alloc w _
          exact Or.inr (show w.heap.size ≤ g by omega))
    have HC := Lib.hid (show Chg (Own b V) w (w1.setCell ⟨b, t, none⟩ (.slice (some ⟨g, 0, none⟩) ((m.ls t).length + 1) cap')) from by
      refine Chg.setCell ?_ (Or.inl rfl) _
      have hs := World.size_alloc w (.cells #[.int .i64 c] 3)
      refine ⟨HG.out.2.1.os, HG.out.2.1.tape, HG.out.2.1.output, by have := HG.out.2.1.size; omega, fun k hk hn => ?_⟩
      rw [HG.out.2.1.block k (by omega) (fun e => hn (Or.inr ⟨t, by omega, e.symm⟩)), Below.heap_alloc w _ k hk])
    have HO := Lib.hid (show ∀ k, Own b (upd V t (.slice (some ⟨g, 0, none⟩) ((m.ls t).length + 1) cap')) k → Own b V k ∨ w.heap.size ≤ k from by
      refine own_upd (by omega) (fun k hk => ?_)
      cases hk
      have hs' : (w.alloc (.cells #[.int .i64 c] 3)).drew.heap.size = w.heap.size + 1 := World.size_alloc w _
      rcases HG.out.2.2 with h | h
      · exact Or.inl h
      · exact Or.inr (show w.heap.size ≤ g by omega))
    clear q1 q2 HF HN HR HG
    generalize w1.setCell ⟨b, t, none⟩ (.slice (some ⟨g, 0, none⟩) ((m.ls t).length + 1) cap') = w2 at *
    have d1 := HT.out.blk.runner hc
    have d2 := HT.out.blk.free
    go_wp2
    go_ret
    exact ⟨rfl, _, HT.out.setRunner hc _, HC.out.setCell (Or.inl rfl) _, HO.out⟩
end Go.Proofs.Ytohkobfamofkgaa.Wb
