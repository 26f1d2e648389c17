/- Ask and Wait: for every web whose numbers are in their places and in which a way ends. -/
import Derived.Test.YtohkobfamofkgaaCi
namespace Go.Proofs.Ytohkobfamofkgaa.Wb
open Go.RowKit Go.Maps Go.Proofs.Ytohkobfamofkgaa Go.Proofs.YtohkobfamofkgaaW.PrintWords Go.Proofs.YtohkobfamofkgaaW.PrintLast Go.Proofs.YtohkobfamofkgaaW.PrintMore

theorem circle_any (B : Nat) (w : World) (b : Nat) (V : Nat → Value) (m : Web) (t c n : Nat) (ht : t < 128) (hc : c < 256) (h : At B w b V m) (wf : Wf m) (he : ends m t n c) (hn : n ≤ 1000) :
    Calls Try.prog 43 #[.pointer (some ⟨b, 0, none⟩), .int .i64 t, .int .i64 c] w fun e w' => ∃ v, e = .returned v ∧ Row w.heap.size w' v (circle m t n c) ∧ Below w.heap.size w w' := by
  by_cases hl : (m.ls t).length = 0
  · exact circle_none B w b V m t c n ht h hl
  · exact circle_some B w b V m t c n ht hc h wf he hn hl

def nilS : Value := .slice none 0 0

theorem ask_range (w : World) (b : Nat) (t c : Int) (h : ¬ ((0 ≤ t ∧ t < 128) ∧ (0 ≤ c ∧ c < 256))) :
    Calls Try.prog 26 #[.pointer (some ⟨b, 0, none⟩), .int .i64 t, .int .i64 c] w fun e w' => e = .returned (.tuple #[.slice none 0 0, .int .i64 1]) ∧ w = w' := by
  by_cases ht : 0 ≤ t ∧ t < 128
  · have hc : ¬ (0 ≤ c ∧ c < 256) := fun k => h ⟨ht, k⟩
    have HC := Lib.hid hc
    obtain ⟨t0, t1⟩ := ht
    clear h hc
    go_enter Try.func26, Try.ntmps26
    go_wp2_with (first | (go_at_call 29; refine (task_in _ _ t0 t1).mono ?_; rintro _ _ ⟨rfl, rfl⟩) | (go_at_call 31; refine (cell_out _ _ HC.out).mono ?_; rintro _ _ ⟨rfl, rfl⟩))
    go_ret2
    exact ⟨rfl, rfl⟩
  · have HC := Lib.hid ht
    clear h ht
    go_enter Try.func26, Try.ntmps26
    go_wp2_with (first | (go_at_call 29; refine (task_out _ _ HC.out).mono ?_; rintro _ _ ⟨rfl, rfl⟩))
    go_ret2
    exact ⟨rfl, rfl⟩
theorem ask_state (w : World) (b : Nat) (V : Nat → Value) (m : Web) (t c : Nat) (ht : t < 128) (hc : c < 256) (h : Blk w b V m) (hw : 0 < m.wai t) :
    Calls Try.prog 26 #[.pointer (some ⟨b, 0, none⟩), .int .i64 t, .int .i64 c] w fun e w' => e = .returned (.tuple #[.slice none 0 0, .int .i64 7]) ∧ w = w' := by
  have c0 := h.waits ht
  have ht' : (t : Int) < 128 := by omega
  have hc' : (c : Int) < 256 := by omega
  clear h
  go_enter Try.func26, Try.ntmps26
  go_wp2_with (first | (go_at_call 29; refine (task_in _ _ (by omega) (by omega)).mono ?_; rintro _ _ ⟨rfl, rfl⟩) | (go_at_call 31; refine (cell_in _ _ (by omega) (by omega)).mono ?_; rintro _ _ ⟨rfl, rfl⟩))
  go_ret2
  exact ⟨rfl, rfl⟩
set_option maxRecDepth 100000 in
theorem ask_ok (B : Nat) (w : World) (b : Nat) (V : Nat → Value) (m : Web) (t c n : Nat) (ht : t < 128) (hc : c < 256) (h : At B w b V m) (wf : Wf m) (he : ends m t n c) (hn : n ≤ 1000) (hw : ¬ 0 < m.wai t) :
    Calls Try.prog 26 #[.pointer (some ⟨b, 0, none⟩), .int .i64 t, .int .i64 c] w fun e w' => ∃ v, e = .returned (.tuple #[v, .int .i64 0]) ∧ Row w.heap.size w' v (circle m t n c) ∧ Below w.heap.size w w' := by
  have c0 := h.blk.waits ht
  have ht' : (t : Int) < 128 := by omega
  have hc' : (c : Int) < 256 := by omega
  have HA := Lib.hid (And.intro h (And.intro wf he))
  clear h wf he
  go_enter Try.func26, Try.ntmps26
  go_wp2_with (first | (go_at_call 29; refine (task_in _ _ (by omega) (by omega)).mono ?_; rintro _ _ ⟨rfl, rfl⟩) | (go_at_call 31; refine (cell_in _ _ (by omega) (by omega)).mono ?_; rintro _ _ ⟨rfl, rfl⟩) | (go_at_call 43; refine (circle_any B w b V m t c n ht hc HA.out.1 HA.out.2.1 HA.out.2.2 hn).mono ?_; rintro _ w1 ⟨v, rfl, hr, hb⟩; have HR := Lib.hid hr; have HB := Lib.hid hb; clear hr hb))
  go_ret2
  exact ⟨v, rfl, HR.out, HB.out⟩

theorem wait_range (w : World) (b : Nat) (t c : Int) (h : ¬ ((0 ≤ t ∧ t < 128) ∧ (0 ≤ c ∧ c < 256))) :
    Calls Try.prog 20 #[.pointer (some ⟨b, 0, none⟩), .int .i64 t, .int .i64 c] w fun e w' => e = .returned (.tuple #[.slice none 0 0, .int .i64 1]) ∧ w = w' := by
  have HC := Lib.hid h
  clear h
  go_enter Try.func20, Try.ntmps20
  go_wp2_with (go_at_call 26; refine (ask_range _ _ _ _ HC.out).mono ?_; rintro _ _ ⟨rfl, rfl⟩)
  go_ret2
  exact ⟨rfl, rfl⟩
theorem wait_state (w : World) (b : Nat) (V : Nat → Value) (m : Web) (t c : Nat) (ht : t < 128) (hc : c < 256) (h : Blk w b V m) (hw : 0 < m.wai t) :
    Calls Try.prog 20 #[.pointer (some ⟨b, 0, none⟩), .int .i64 t, .int .i64 c] w fun e w' => e = .returned (.tuple #[.slice none 0 0, .int .i64 7]) ∧ w = w' := by
  have HC := Lib.hid h
  clear h
  go_enter Try.func20, Try.ntmps20
  go_wp2_with (go_at_call 26; refine (ask_state _ _ _ _ _ _ ht hc HC.out hw).mono ?_; rintro _ _ ⟨rfl, rfl⟩)
  go_ret2
  exact ⟨rfl, rfl⟩
theorem wait_none (B : Nat) (w : World) (b : Nat) (V : Nat → Value) (m : Web) (t c n : Nat) (ht : t < 128) (hc : c < 256) (h : At B w b V m) (wf : Wf m) (he : ends m t n c) (hn : n ≤ 1000) (hw : ¬ 0 < m.wai t) (hr : m.run c = 0) :
    Calls Try.prog 20 #[.pointer (some ⟨b, 0, none⟩), .int .i64 t, .int .i64 c] w fun e w' => e = .returned (.tuple #[.slice none 0 0, .int .i64 4]) ∧ Below w.heap.size w w' := by
  have HA := Lib.hid (And.intro h (And.intro wf he))
  have hc' : (c : Int) < 256 := by omega
  have HZ := Lib.hid hr
  clear h wf he hr
  go_enter Try.func20, Try.ntmps20
  go_wp2_with (go_at_call 26; refine (ask_ok B w b V m t c n ht hc HA.out.1 HA.out.2.1 HA.out.2.2 hn hw).mono ?_; rintro _ w1 ⟨v, rfl, hr, hb⟩; have HB := Lib.hid hb; clear hr hb; have q1 := (HA.out.1.below HB.out).blk.runner hc; rw [HZ.out] at q1)
  go_ret2
  exact ⟨rfl, HB.out⟩
set_option maxRecDepth 100000 in
theorem wait_cycle (B : Nat) (w : World) (b : Nat) (V : Nat → Value) (m : Web) (t c n : Nat) (ht : t < 128) (hc : c < 256) (h : At B w b V m) (wf : Wf m) (he : ends m t n c) (hn : n ≤ 1000) (hw : ¬ 0 < m.wai t) (hr : ¬ m.run c = 0) (hl : circle m t n c ≠ []) :
    Calls Try.prog 20 #[.pointer (some ⟨b, 0, none⟩), .int .i64 t, .int .i64 c] w fun e w' => ∃ v, e = .returned (.tuple #[v, .int .i64 140]) ∧ Row w.heap.size w' v (circle m t n c) ∧ Below w.heap.size w w' := by
  have HA := Lib.hid (And.intro h (And.intro wf he))
  have hc' : (c : Int) < 256 := by omega
  have hb1 : (m.run c == 0) = false := by simpa using hr
  have hl1 : (0 : Int) < ((circle m t n c).length : Int) := by cases hq : circle m t n c with | nil => exact absurd hq hl | cons x l => simp
  clear h wf he hr hl
  go_enter Try.func20, Try.ntmps20
  go_wp2_with (go_at_call 26; refine (ask_ok B w b V m t c n ht hc HA.out.1 HA.out.2.1 HA.out.2.2 hn hw).mono ?_; rintro _ w1 ⟨v, rfl, hr, hb⟩; obtain ⟨A, cap, rfl⟩ := hr.shape; have HB := Lib.hid hb; have HR := Lib.hid hr; clear hr hb; have q1 := (HA.out.1.below HB.out).blk.runner hc)
  go_ret2
  exact ⟨_, rfl, HR.out, HB.out⟩

/-- What an append of one number to a row asks for. -/
structure Ask1 (B : Nat) (w : World) (b : Nat) (V : Nat → Value) (m : Web) (i : Nat) (x : Int) : Prop where
  row : Row B (w.alloc (.cells #[.int .i64 x] 3)) (V i) (m.ls i)
  new1 : ([x].map (Value.int .i64)).length = [x].length * 1
  new2 : ∀ j u, ([x].map (Value.int .i64))[j]? = some u → (w.alloc (.cells #[.int .i64 x] 3)).cell? ((⟨w.heap.size, 0, none⟩ : Addr).add j) = some u
  new3 : ∀ u ∈ [x].map (Value.int .i64), u.oneCell' = true
  q1 : (m.ls i).length + 1 ≤ maxLen
  q2 : ((m.ls i).length + 1) * 8 ≤ 140737488355328
  q3 : B ≤ (w.alloc (.cells #[.int .i64 x] 3)).heap.size
theorem At.ask1 {B : Nat} {w : World} {b : Nat} {V : Nat → Value} {m : Web} (h : At B w b V m) {i : Nat} (hi : i < 384) (hl : (m.ls i).length ≤ 1000) (x : Int) : Ask1 B w b V m i x := by
  obtain ⟨h1, h2, h3⟩ := news (w := w.alloc (.cells #[.int .i64 x] 3)) (n := 1) (l := [x]) (blk_new w (.cells #[.int .i64 x] 3)) rfl
  have hlt := blk_lt h.blk
  have hb := h.hb
  exact ⟨(h.row i hi).below ((Below.refl w.heap.size w).alloc (Nat.le_refl _) _), h1, h2, h3, by unfold maxLen; omega, by omega, by rw [World.size_alloc]; omega⟩

/-- The append done, its value stored back. -/
theorem At.pushed {B : Nat} {w w1 : World} {b : Nat} {V : Nat → Value} {m : Web} (h : At B w b V m) {i : Nat} (hi : i < 384) (x : Int) {o g cap' : Nat}
    (hown : w1.ownsRow B 3 1 (.slice (some ⟨g, 0, none⟩) ((m.ls i).length + 1) cap') ((m.ls i).length + 1) ((m.ls i).map (Value.int .i64) ++ [x].map (Value.int .i64)))
    (hgrow : (w.alloc (.cells #[.int .i64 x] 3)).drew.grownBy w1 (V i).ownBlock) (hat : (V i).ownBlock = some g ∨ g = (w.alloc (.cells #[.int .i64 x] 3)).drew.heap.size)
    (hset : Blk w1 b V m → Blk (w1.setCell ⟨b, o, none⟩ (.slice (some ⟨g, 0, none⟩) ((m.ls i).length + 1) cap')) b (upd V i (.slice (some ⟨g, 0, none⟩) ((m.ls i).length + 1) cap')) { m with ls := upd m.ls i (m.ls i ++ [x]) }) :
    Post B w b V { m with ls := upd m.ls i (m.ls i ++ [x]) } (w1.setCell ⟨b, o, none⟩ (.slice (some ⟨g, 0, none⟩) ((m.ls i).length + 1) cap')) := by
  have hs' : (w.alloc (.cells #[.int .i64 x] 3)).drew.heap.size = w.heap.size + 1 := World.size_alloc w _
  have hgrow' : (w.alloc (.cells #[.int .i64 x] 3)).grownBy w1 (V i).ownBlock := ⟨hgrow.os, hgrow.tape, hgrow.output, hgrow.size, hgrow.block⟩
  obtain ⟨k1, k2⟩ := h.far hi _ hgrow'
  have hlt := blk_lt h.blk
  have hgb : g ≠ b := by
    rcases hat with e | e
    · exact h.ne hi e
    · omega
  have hap : ∀ k, (Value.slice (some ⟨g, 0, none⟩) ((m.ls i).length + 1) cap').ownBlock = some k → (V i).ownBlock = some k ∨ w.heap.size ≤ k := by
    intro k hk
    cases hk
    rcases hat with e | e
    · exact Or.inl e
    · exact Or.inr (show w.heap.size ≤ g by omega)
  refine ⟨_, h.put (l' := m.ls i ++ [x]) (hset k1) (fun j _ => rfl) ?_ ?_ hap hi, ?_, own_upd hi hap⟩
  · refine Row.move (w := w1) ?_ (fun k hk => by cases hk; exact Below.heap_setCell _ _ _ _ hgb)
    unfold Row
    rw [List.length_append, List.map_append]
    exact hown
  · intro j hj hne k hk
    rw [Below.heap_setCell _ _ _ _ (h.ne hj hk)]
    exact k2 j hj hne k hk
  · refine Chg.setCell ?_ (Or.inl rfl) _
    have hs := World.size_alloc w (.cells #[.int .i64 x] 3)
    refine ⟨hgrow.os, hgrow.tape, hgrow.output, by have := hgrow.size; omega, fun k hk hn => ?_⟩
    rw [hgrow.block k (by omega) (fun e => hn (Or.inr ⟨i, hi, e.symm⟩))]
    exact Below.heap_alloc w _ k hk

theorem Post.trans {B : Nat} {w w1 w2 : World} {b : Nat} {V V1 : Nat → Value} {m2 : Web} (hc : Chg (Own b V) w w1) (ho : ∀ k, Own b V1 k → Own b V k ∨ w.heap.size ≤ k) (k : Post B w1 b V1 m2 w2) : Post B w b V m2 w2 := by
  obtain ⟨V2, h1, h2, h3⟩ := k
  refine ⟨V2, h1, ⟨h2.os.trans hc.os, h2.tape.trans hc.tape, h2.output.trans hc.output, Nat.le_trans hc.size h2.size, fun i hi hn => ?_⟩, fun k hk => ?_⟩
  · refine (h2.block i (Nat.lt_of_lt_of_le hi hc.size) (fun e => ?_)).trans (hc.block i hi hn)
    rcases ho i e with h | h
    · exact hn h
    · omega
  · rcases h3 k hk with h | h
    · exact ho k h
    · exact Or.inr (Nat.le_trans hc.size h)

def waited (m : Web) (t c : Nat) : Web := { m with ls := upd m.ls (128 + c) (m.ls (128 + c) ++ [(t : Int)]), wai := upd m.wai t ((c : Int) + 1) }

set_option maxHeartbeats 1000000 in
set_option maxRecDepth 100000 in
theorem wait_ok (B : Nat) (w : World) (b : Nat) (V : Nat → Value) (m : Web) (t c n : Nat) (ht : t < 128) (hc : c < 256) (h : At B w b V m) (wf : Wf m) (he : ends m t n c) (hn : n ≤ 1000) (hw : ¬ 0 < m.wai t) (hr : ¬ m.run c = 0) (hl : circle m t n c = []) (hq : (m.ls (128 + c)).length ≤ 1000) :
    Calls Try.prog 20 #[.pointer (some ⟨b, 0, none⟩), .int .i64 t, .int .i64 c] w fun e w' => e = .returned (.tuple #[.slice none 0 0, .int .i64 0]) ∧ Post B w b V (waited m t c) w' := by
  have HA := Lib.hid (And.intro h (And.intro wf he))
  have hc' : (c : Int) < 256 := by omega
  have ht' : (t : Int) < 128 := by omega
  have hb1 : (m.run c == 0) = false := by simpa using hr
  obtain ⟨i0, hi, hz0, hz1, hz2⟩ := info_parts info3
  have HI := Lib.hid (And.intro hi (And.intro hz0 (And.intro hz1 hz2)))
  obtain ⟨A, cap, e⟩ := (h.row (128 + c) (by omega)).shape
  have HE := Lib.hid e
  have HL := Lib.hid hl
  have HQ := Lib.hid hq
  clear h wf he hr hl e hi hz0 hz1 hz2 hq
  go_enter Try.func20, Try.ntmps20
  go_wp2_with (go_at_call 26; refine (ask_ok B w b V m t c n ht hc HA.out.1 HA.out.2.1 HA.out.2.2 hn hw).mono ?_; rintro _ w1 ⟨v, rfl, hr, hb⟩; have HB := Lib.hid hb; rw [HL.out] at hr; obtain ⟨A1, cap1, rfl⟩ := hr.shape; clear hr hb; have q1 := (HA.out.1.below HB.out).blk.runner hc; have q2 := (HA.out.1.below HB.out).blk.waits ht; have f := (HA.out.1.below HB.out).blk.free)
  have HA2 := Lib.hid ((HA.out.1.below HB.out).setWaits ht ((c : Int) + 1))
  generalize hw2 : w1.setCell ⟨b, 384 + t, none⟩ (.int .i64 ((c : Int) + 1)) = w2 at *
  have q3 := HA2.out.blk.queue hc
  rw [HE.out] at q3
  have f2 := HA2.out.blk.free
  have hlt2 := blk_lt HA2.out.blk
  have HF := Lib.hid (HA2.out.ask1 (i := 128 + c) (by omega) HQ.out (t : Int))
  have HFar := Lib.hid (fun w1 hg => HA2.out.far (w1 := w1) (i := 128 + c) (by omega) (.cells #[.int .i64 (t : Int)] 3) hg)
  have HW := Lib.hid hw2
  clear hw2 f q1 q2
  go_region_law (refine step_append_lies _ rfl (.tmp 48) (.tmp 50) 22 rfl B 3 i0 (.int .i64 0) 1 8 Try.underlying22 HI.out.1 HI.out.2.1 HI.out.2.2.1 HI.out.2.2.2 rfl (by decide) (V (128 + c)) (m.ls (128 + c)).length ((m.ls (128 + c)).map (Value.int .i64)) (by rw [HE.out]; rfl) HF.out.row ⟨w2.heap.size, 0, none⟩ 1 1 [.int .i64 t] rfl HF.out.new1 HF.out.new2 HF.out.new3 (by decide) HF.out.q1 HF.out.q2 HF.out.q3 _ rfl ?_; intro g cap' w3 hown hgrow hat hlt1; have HG := Lib.hid (And.intro hown (And.intro (show (w2.alloc (.cells #[.int .i64 t] 3)).drew.grownBy w3 (V (128 + c)).ownBlock from ⟨hgrow.os, hgrow.tape, hgrow.output, hgrow.size, hgrow.block⟩) hat)); clear hown hgrow hat hlt1; have q1 := (HFar.out w3 ⟨HG.out.2.1.os, HG.out.2.1.tape, HG.out.2.1.output, HG.out.2.1.size, HG.out.2.1.block⟩).1.queue hc; rw [HE.out] at q1; have q2 := (HFar.out w3 ⟨HG.out.2.1.os, HG.out.2.1.tape, HG.out.2.1.output, HG.out.2.1.size, HG.out.2.1.block⟩).1.free)
  all_goals
    have HT := Lib.hid (HA2.out.pushed (by omega) (t : Int) HG.out.1 HG.out.2.1 HG.out.2.2 (fun k => k.setQueue hc _ _))
    go_wp2
    go_ret2
    refine ⟨rfl, Post.trans (V1 := V) ?_ (fun k hk => Or.inl hk) HT.out⟩
    rw [← HW.out]
    exact (Chg.of_below HB.out).setCell (Or.inl rfl) _
end Go.Proofs.Ytohkobfamofkgaa.Wb
