/- How a slice that came in is opened: it reads as a list of elements, whatever they are, and takes no more than the reach. No program in sight. -/
import Derived.Test.YtdnkedifjaccoaaDoorWMore
import Derived.Deep.Slices
import Derived.SizedLaws
import Derived.ProofKit
namespace Go.Proofs.YtdnkedifjaccoaaDoor
open Go.RowKit Go.Deep Go.ChangeShapes Go.WideShapes Go.Proofs.YtdnkedifjaccoaaDoorW.PrintWords
section
variable {H : Type} {enc : TypeId × Value → H} {P : Program} {w : World} {base : Nat} {spare : Nat → Bool} {held : Bool}

theorem cells_at {a : Addr} {n : Nat} {cs : List Value} (h : w.cells? base a n = some cs) : cs.length = n ∧ ∀ i u, cs[i]? = some u → w.cell? (a.add i) = some u := by
  obtain ⟨_, hlen, hc⟩ := World.cells?_some h
  refine ⟨hlen, fun i u hu => ?_⟩
  have hi : i < n := by
    rcases Nat.lt_or_ge i cs.length with k | k
    · omega
    · rw [List.getElem?_eq_none k] at hu; exact absurd hu (by simp)
  exact (hc i hi).trans hu

theorem open_row {α : Type} (d : Kd α) (Q : α → Prop) {t e : TypeId} {v : Value} {d0 : DataW H} {p : List MemPlace} {r : Reach} {b0 : Nat} (ht : P.underlying t = some (.slice e)) (hc : P.cellsOf e = d.sz)
    (hdec : ∀ n cs y, DataW.trod enc P w base spare held n e cs = some y → cs.length = d.sz → ∃ x, d.K w x cs ∧ Q x)
    (hv : Value.okWide P w r b0 t v) (h : DataW.Trod enc P w base spare held t v d0 p) :
    ∃ (A : Option Addr) (l : List α) (c : Nat), v = .slice A l.length c ∧ l.length ≤ c ∧ d.C w A l.length l ∧ ∀ x ∈ l, Q x := by
  obtain ⟨a, len, cap, rfl⟩ := okWide_slice ht hv
  obtain ⟨fuel, hf⟩ := h
  rcases open_slice ht hf with ⟨hcs, _⟩ | ⟨ad, len', cap', m, n, D, Pl, hcs, _, hl, hm, hmm, _, hx⟩
  · simp [Value.cells] at hcs
    obtain ⟨rfl, rfl, rfl⟩ := hcs
    exact ⟨none, [], 0, rfl, Nat.le_refl _, ⟨rfl, by simp, fun h => absurd h (by simp)⟩, by simp⟩
  · simp [Value.cells] at hcs
    obtain ⟨rfl, rfl, rfl⟩ := hcs
    have hlm : len ≤ m := by rw [hmm]; split <;> omega
    have hall : ∀ i, i < len → ∃ x, (∃ cs, w.cells? base (ad.add (i * P.cellsOf e)) (P.cellsOf e) = some cs ∧ cs.length = d.sz ∧ d.K w x cs) ∧ Q x := by
      intro i hi
      obtain ⟨cs, h1, h2⟩ := hx i (by omega)
      have hlen := (cells_at h1).1
      obtain ⟨x, hk, hq⟩ := hdec n cs _ h2 (hlen.trans hc)
      exact ⟨x, ⟨cs, h1, hlen.trans hc, hk⟩, hq⟩
    -- one list of all
    have hlist : ∀ k, k ≤ len → ∃ l : List α, l.length = k ∧ ∀ i x, l[i]? = some x → (∃ cs, w.cells? base (ad.add (i * P.cellsOf e)) (P.cellsOf e) = some cs ∧ cs.length = d.sz ∧ d.K w x cs) ∧ Q x := by
      intro k
      induction k with
      | zero => intro _; exact ⟨[], rfl, by simp⟩
      | succ k ih =>
        intro hk
        obtain ⟨l, hl1, hl2⟩ := ih (by omega)
        obtain ⟨x, hx⟩ := hall k (by omega)
        refine ⟨l ++ [x], by simp [hl1], fun i y hy => ?_⟩
        by_cases hi : i < l.length
        · rw [List.getElem?_append_left hi] at hy
          exact hl2 i y hy
        · rw [List.getElem?_append_right (by omega)] at hy
          have h0 : i - l.length = 0 := by
            cases hz : i - l.length with
            | zero => rfl
            | succ q => rw [hz] at hy; simp at hy
          rw [h0] at hy
          simp at hy
          subst hy
          have : i = k := by omega
          subst this
          exact hx
    obtain ⟨l, hl1, hl2⟩ := hlist len (Nat.le_refl _)
    subst hl1
    refine ⟨some ad, l, cap, rfl, hl, ⟨rfl, by unfold maxLen at hm; omega, fun _ => ⟨ad, rfl, fun j x hj => ?_⟩⟩, fun x hx => ?_⟩
    · obtain ⟨⟨cs, h1, h2, h3⟩, _⟩ := hl2 j x hj
      refine ⟨cs, h2, h3, fun i u hu => ?_⟩
      have := (cells_at h1).2 i u hu
      rw [Go.Deep.add_add, hc] at this
      exact this
    · obtain ⟨j, hj, he⟩ := List.mem_iff_getElem.1 hx
      exact (hl2 j x (by rw [List.getElem?_eq_getElem hj, he])).2

theorem reach_slice {t e : TypeId} {A : Option Addr} {n c B : Nat} {d0 : DataW H} {p : List MemPlace} {ts : List TypeId} {ds : List (DataW H)} {j : Nat}
    (hsz : (DataW.weightsEach P ts ds).all (· ≤ reachBytes) = true) (ht : ts[j]? = some t) (hd : ds[j]? = some d0) (hu : P.underlying t = some (.slice e)) (hB : P.bytesOf e = B)
    (h : DataW.Trod enc P w base spare held t (.slice A n c) d0 p) : n * B ≤ 140737488351232 := by
  obtain ⟨fuel, hf⟩ := h
  rcases open_slice hu hf with ⟨hcs, _⟩ | ⟨ad, len', cap', m, k, D, Pl, hcs, _, hl, hm, hmm, hx, _⟩
  · simp [Value.cells] at hcs
    obtain ⟨rfl, rfl, rfl⟩ := hcs
    simp
  · simp [Value.cells] at hcs
    obtain ⟨rfl, rfl, rfl⟩ := hcs
    obtain ⟨hx, _⟩ := Prod.mk.inj hx
    subst hx
    have z := sized_slice hsz ht hd hu
    rw [hB] at z
    have z2 : n * B ≤ (((List.range n).map D).length + ((List.range (m - n)).map fun j => D (n + j)).length) * B := by
      apply Nat.mul_le_mul_right
      simp
    exact Nat.le_trans (Nat.le_trans z2 z) (by decide)

/-- An element that is a bool. -/
theorem dec_bool {e : TypeId} (he : P.underlying e = some .bool) : ∀ n cs y, DataW.trod enc P w base spare held n e cs = some y → cs.length = Kd.bool.sz → ∃ x, Kd.bool.K w x cs ∧ True := by
  intro n cs y h _
  obtain ⟨b, h1, _⟩ := DataW.trod_bool he h
  exact ⟨b, h1, trivial⟩
/-- An element that is a whole number. -/
theorem dec_int {e : TypeId} {k : IntKind} (he : P.underlying e = some (.int k)) : ∀ n cs y, DataW.trod enc P w base spare held n e cs = some y → cs.length = (Kd.int k).sz → ∃ x, (Kd.int k).K w x cs ∧ (Lit.int k x).wf = true := by
  intro n cs y h _
  obtain ⟨x, h1, _, h3⟩ := DataW.trod_int he h
  exact ⟨x, h1, h3⟩
end
end Go.Proofs.YtdnkedifjaccoaaDoor
