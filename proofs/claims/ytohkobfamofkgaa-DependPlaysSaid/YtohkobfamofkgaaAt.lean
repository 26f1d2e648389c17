/- How a web in memory is kept while one of its rows, or a number of its block, is turned: for every web. -/
import Derived.Test.YtohkobfamofkgaaSl
import Derived.Deep.AppendLies
namespace Go.Proofs.Ytohkobfamofkgaa.Wb
open Go.RowKit Go.Maps Go.Proofs.Ytohkobfamofkgaa

theorem Row.move {B : Nat} {w w' : World} {v : Value} {l : List Int} (h : Row B w v l) (k : ∀ i, v.ownBlock = some i → w'.heap[i]? = w.heap[i]?) : Row B w' v l := by
  obtain ⟨h1, h2 | ⟨g, cap, cur, e, hg, hb, r⟩⟩ := h
  · exact ⟨h1, Or.inl h2⟩
  · refine ⟨h1, Or.inr ⟨g, cap, cur, e, hg, ?_, r⟩⟩
    rw [k g (by rw [e]; rfl), hb]
theorem Row.below {B : Nat} {w w' : World} {v : Value} {l : List Int} (h : Row B w v l) (k : Below w.heap.size w w') : Row B w' v l := by
  rcases h.cases with ⟨rfl, rfl⟩ | ⟨g, cap, cur, rfl, hg, hb, _⟩
  · exact ⟨rfl, Or.inl ⟨rfl, rfl⟩⟩
  · exact h.move (fun i hi => by cases hi; exact k.block g (blk_lt hb))
theorem Row.block {B : Nat} {w : World} {v : Value} {l : List Int} (h : Row B w v l) {k : Nat} (hk : v.ownBlock = some k) : B ≤ k ∧ k < w.heap.size ∧ ∃ cur, w.heap[k]? = some (.cells cur 3 (0, 0)) := by
  rcases h.cases with ⟨rfl, rfl⟩ | ⟨g, cap, cur, rfl, hg, hb, _⟩
  · exact absurd hk (by simp [Value.ownBlock])
  · cases hk; exact ⟨hg, blk_lt hb, cur, hb⟩
theorem Row.lower {B B' : Nat} {w : World} {v : Value} {l : List Int} (h : Row B w v l) (hb : B' ≤ B) : Row B' w v l := by
  obtain ⟨h1, h2 | ⟨g, cap, cur, e, hg, r⟩⟩ := h
  · exact ⟨h1, Or.inl h2⟩
  · exact ⟨h1, Or.inr ⟨g, cap, cur, e, Nat.le_trans hb hg, r⟩⟩

section
variable {B : Nat} {w w' : World} {b : Nat} {V : Nat → Value} {m : Web}

theorem At.ne (h : At B w b V m) {i k : Nat} (hi : i < 384) (hk : (V i).ownBlock = some k) : k ≠ b := by
  rintro rfl
  obtain ⟨_, _, cur, hc⟩ := (h.row i hi).block hk
  have hb := h.blk
  unfold Blk at hb
  rw [hc] at hb
  injection hb with hb
  injection hb with _ ht
  exact absurd ht (by decide)

/-- The blocks of a web. -/
def Own (b : Nat) (V : Nat → Value) (k : Nat) : Prop := k = b ∨ ∃ i, i < 384 ∧ (V i).ownBlock = some k

/-- What a call leaves: the web as m' tells it; of what was there only its own blocks may have turned; its own blocks now are among those, or new. -/
def Post (B : Nat) (w : World) (b : Nat) (V : Nat → Value) (m' : Web) (w' : World) : Prop :=
  ∃ V', At B w' b V' m' ∧ Chg (Own b V) w w' ∧ ∀ k, Own b V' k → Own b V k ∨ w.heap.size ≤ k

theorem At.own_lt (h : At B w b V m) {k : Nat} (hk : Own b V k) : k < w.heap.size ∧ B ≤ k := by
  rcases hk with rfl | ⟨i, hi, hk⟩
  · exact ⟨blk_lt h.blk, h.hb⟩
  · obtain ⟨h1, h2, _⟩ := (h.row i hi).block hk
    exact ⟨h2, h1⟩

/-- Nothing of the web's has turned. -/
theorem At.kept (h : At B w b V m) (k : ∀ i, Own b V i → w'.heap[i]? = w.heap[i]?) : At B w' b V m :=
  ⟨(k b (Or.inl rfl)).trans h.blk, h.hb, fun i hi => (h.row i hi).move (fun j hj => k j (Or.inr ⟨i, hi, hj⟩)), h.apart⟩
theorem At.below (h : At B w b V m) (k : Below w.heap.size w w') : At B w' b V m := h.kept (fun i hi => k.block i (h.own_lt hi).1)
theorem At.post (h : At B w b V m) (k : Below w.heap.size w w') : Post B w b V m w' := ⟨V, h.below k, Chg.of_below k, fun _ hk => Or.inl hk⟩

/-- One row is another value now; the other rows stand. -/
theorem At.put (h : At B w b V m) {m' : Web} {i : Nat} {v' : Value} {l' : List Int} (hb' : Blk w' b (upd V i v') m') (hls : ∀ j, j < 384 → m'.ls j = upd m.ls i l' j) (hrow : Row B w' v' l')
    (hkeep : ∀ j, j < 384 → j ≠ i → ∀ k, (V j).ownBlock = some k → w'.heap[k]? = w.heap[k]?) (hap : ∀ k, v'.ownBlock = some k → (V i).ownBlock = some k ∨ w.heap.size ≤ k) (hi : i < 384) : At B w' b (upd V i v') m' := by
  refine ⟨hb', h.hb, fun j hj => ?_, fun j j' hj hj' hne k hk => ?_⟩
  · rw [hls j hj]
    by_cases e : j = i
    · subst e; rw [upd_same, upd_same]; exact hrow
    · rw [upd_other _ _ e, upd_other _ _ e]; exact (h.row j hj).move (hkeep j hj e)
  · by_cases e : j = i
    · subst e
      rw [upd_same] at hk
      rw [upd_other _ _ (fun e => hne e.symm)]
      intro hk'
      rcases hap k hk with h1 | h1
      · exact h.apart j j' hj hj' hne k h1 hk'
      · have := ((h.row j' hj').block hk').2.1; omega
    · rw [upd_other _ _ e] at hk
      by_cases e' : j' = i
      · subst e'
        rw [upd_same]
        intro hk'
        rcases hap k hk' with h1 | h1
        · exact h.apart j j' hj hj' hne k hk h1
        · have := ((h.row j hj).block hk).2.1; omega
      · rw [upd_other _ _ e']
        exact h.apart j j' hj hj' hne k hk

/-- The same rows, another block of numbers. -/
theorem At.nums (h : At B w b V m) {m' : Web} (hb' : Blk w' b V m') (hls : m'.ls = m.ls) (hkeep : ∀ k, k ≠ b → Own b V k → w'.heap[k]? = w.heap[k]?) : At B w' b V m' := by
  refine ⟨hb', h.hb, fun j hj => ?_, h.apart⟩
  rw [hls]
  exact (h.row j hj).move (fun k hk => hkeep k (h.ne hj hk) (Or.inr ⟨j, hj, hk⟩))
theorem At.setRunner (h : At B w b V m) {c : Nat} (hc : c < 256) (x : Int) : At B (w.setCell ⟨b, 128 + c, none⟩ (.int .i64 x)) b V { m with run := upd m.run c x } :=
  h.nums (h.blk.setRunner hc x) rfl (fun k hk _ => Below.heap_setCell _ _ _ _ hk)
theorem At.setWaits (h : At B w b V m) {t : Nat} (ht : t < 128) (x : Int) : At B (w.setCell ⟨b, 384 + t, none⟩ (.int .i64 x)) b V { m with wai := upd m.wai t x } :=
  h.nums (h.blk.setWaits ht x) rfl (fun k hk _ => Below.heap_setCell _ _ _ _ hk)

/-- An append to row i, its value stored back. -/
theorem own_upd {i : Nat} {v' : Value} {n : Nat} (hi : i < 384) (hap : ∀ k, v'.ownBlock = some k → (V i).ownBlock = some k ∨ n ≤ k) : ∀ k, Own b (upd V i v') k → Own b V k ∨ n ≤ k := by
  rintro k (rfl | ⟨j, hj, hk⟩)
  · exact Or.inl (Or.inl rfl)
  · by_cases e : j = i
    · subst e
      rw [upd_same] at hk
      rcases hap k hk with h | h
      · exact Or.inl (Or.inr ⟨j, hi, h⟩)
      · exact Or.inr h
    · rw [upd_other _ _ e] at hk
      exact Or.inl (Or.inr ⟨j, hj, hk⟩)
end
end Go.Proofs.Ytohkobfamofkgaa.Wb
