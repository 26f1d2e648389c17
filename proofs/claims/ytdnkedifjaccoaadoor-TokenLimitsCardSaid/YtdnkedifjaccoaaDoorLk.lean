/- The least deadline of a token and of all that it hangs on, in plain Lean. -/
import Derived.Test.YtdnkedifjaccoaaDoorPa
namespace Go.Proofs.YtdnkedifjaccoaaDoor.Ce
open Go.RowKit Go.Maps Go.Proofs.YtdnkedifjaccoaaDoor Go.Proofs.YtdnkedifjaccoaaDoorW.PrintWords Go.Proofs.YtdnkedifjaccoaaDoorW.PrintLast Go.Proofs.YtdnkedifjaccoaaDoorW.PrintMore PToken
set_option linter.unusedVariables false
set_option linter.unusedSimpArgs false
namespace Tree
section
variable {t : Tree} {x p j : Nat} {S S' Sj : List Nat} {m m' mj : Int}
/-- What a visit of x leaves: whom it saw, and the least deadline. -/
structure LimP (t : Tree) (x : Nat) (S : List Nat) (m : Int) (S' : List Nat) (m' : Int) : Prop where
  sub : ∀ y ∈ S, y ∈ S'
  mem : x ∈ S'
  lt : ∀ y ∈ S', y < t.toks.length
  new : ∀ y ∈ S', y ∈ S ∨ (Anc t y x ∧ ∀ q ∈ (t.tk y).par, q ∈ S')
  least : m' = m ∨ ∃ y, Anc t y x ∧ m' = (t.tk y).dl ∧ 0 ≤ (t.tk y).dl
  below : ∀ y ∈ S', y ∈ S ∨ (0 ≤ (t.tk y).dl → 0 ≤ m' ∧ m' ≤ (t.tk y).dl)
  keep : 0 ≤ m → 0 ≤ m' ∧ m' ≤ m
theorem LimP.seen (hx : x ∈ S) (hS : ∀ y ∈ S, y < t.toks.length) : LimP t x S m S m :=
  ⟨fun _ h => h, hx, hS, fun _ h => Or.inl h, Or.inl rfl, fun _ h => Or.inl h, fun h => ⟨h, Int.le_refl _⟩⟩
def least1 (m d : Int) : Int := if 0 ≤ d ∧ (m < 0 ∨ d < m) then d else m
/-- What holds on the way through x's parents. -/
structure LimI (t : Tree) (x : Nat) (S : List Nat) (m : Int) (j : Nat) (Sj : List Nat) (mj : Int) : Prop where
  sub : ∀ y ∈ S, y ∈ Sj
  mem : x ∈ Sj
  lt : ∀ y ∈ Sj, y < t.toks.length
  new : ∀ y ∈ Sj, y ∈ S ∨ y = x ∨ (Anc t y x ∧ ∀ q ∈ (t.tk y).par, q ∈ Sj)
  pars : ∀ i, i < j → (t.tk x).par.getD i 0 ∈ Sj
  least : mj = m ∨ ∃ y, Anc t y x ∧ mj = (t.tk y).dl ∧ 0 ≤ (t.tk y).dl
  below : ∀ y ∈ Sj, y ∈ S ∨ (0 ≤ (t.tk y).dl → 0 ≤ mj ∧ mj ≤ (t.tk y).dl)
  keep : 0 ≤ m → 0 ≤ mj ∧ mj ≤ m
theorem LimI.start (hx : x < t.toks.length) (hS : ∀ y ∈ S, y < t.toks.length) : LimI t x S m 0 (S ++ [x]) (least1 m (t.tk x).dl) := by
  refine ⟨fun y hy => List.mem_append_left _ hy, by simp, fun y hy => ?_, fun y hy => ?_, fun i hi => by omega, ?_, fun y hy => ?_, ?_⟩
  · rcases List.mem_append.1 hy with h | h
    · exact hS y h
    · rw [List.mem_singleton.1 h]; exact hx
  · rcases List.mem_append.1 hy with h | h
    · exact Or.inl h
    · exact Or.inr (Or.inl (List.mem_singleton.1 h))
  · unfold least1
    by_cases h : 0 ≤ (t.tk x).dl ∧ (m < 0 ∨ (t.tk x).dl < m)
    · rw [if_pos h]; exact Or.inr ⟨x, Anc.self x, rfl, h.1⟩
    · rw [if_neg h]; exact Or.inl rfl
  · rcases List.mem_append.1 hy with h | h
    · exact Or.inl h
    · rw [List.mem_singleton.1 h]
      refine Or.inr fun h0 => ?_
      unfold least1
      by_cases h : 0 ≤ (t.tk x).dl ∧ (m < 0 ∨ (t.tk x).dl < m)
      · rw [if_pos h]; omega
      · rw [if_neg h]; omega
  · unfold least1
    intro h0
    by_cases h : 0 ≤ (t.tk x).dl ∧ (m < 0 ∨ (t.tk x).dl < m)
    · rw [if_pos h]; omega
    · rw [if_neg h]; omega
theorem LimI.step (h : LimI t x S m j Sj mj) (hj : j < (t.tk x).par.length) (k : LimP t ((t.tk x).par.getD j 0) Sj mj S' m') : LimI t x S m (j + 1) S' m' := by
  have hp : (t.tk x).par.getD j 0 ∈ (t.tk x).par := by rw [List.getD_eq_getElem?_getD, List.getElem?_eq_getElem hj]; exact List.getElem_mem hj
  refine ⟨fun y hy => k.sub y (h.sub y hy), k.sub _ h.mem, k.lt, fun y hy => ?_, fun i hi => ?_, ?_, fun y hy => ?_, fun h0 => ?_⟩
  · rcases k.new y hy with h1 | ⟨h1, h2⟩
    · rcases h.new y h1 with h3 | h3 | ⟨h3, h4⟩
      · exact Or.inl h3
      · exact Or.inr (Or.inl h3)
      · exact Or.inr (Or.inr ⟨h3, fun q hq => k.sub _ (h4 q hq)⟩)
    · exact Or.inr (Or.inr ⟨h1.down hp, h2⟩)
  · by_cases e : i = j
    · rw [e]; exact k.mem
    · exact k.sub _ (h.pars i (by omega))
  · rcases k.least with h1 | ⟨y, h1, h2, h3⟩
    · rw [h1]; exact h.least
    · exact Or.inr ⟨y, h1.down hp, h2, h3⟩
  · rcases k.below y hy with h1 | h1
    · rcases h.below y h1 with h2 | h2
      · exact Or.inl h2
      · refine Or.inr fun h0 => ?_
        have h3 := h2 h0
        have h4 := k.keep h3.1
        omega
    · exact Or.inr h1
  · have h3 := h.keep h0
    have h4 := k.keep h3.1
    omega
theorem LimI.done (h : LimI t x S m j Sj mj) (hj : (t.tk x).par.length ≤ j) : LimP t x S m Sj mj := by
  refine ⟨h.sub, h.mem, h.lt, fun y hy => ?_, h.least, h.below, h.keep⟩
  rcases h.new y hy with h1 | h1 | h1
  · exact Or.inl h1
  · refine Or.inr ⟨by rw [h1]; exact Anc.self x, fun q hq => ?_⟩
    rw [h1] at hq
    obtain ⟨i, hi, he⟩ := List.mem_iff_getElem.1 hq
    have := h.pars i (by omega)
    rwa [List.getD_eq_getElem?_getD, List.getElem?_eq_getElem hi, Option.getD_some, he] at this
  · exact Or.inr h1
theorem LimP.all (h : LimP t x [] (-1) S' m') : ∀ {y}, Anc t y x → y ∈ S' := by
  intro y hy
  induction hy with
  | self _ => exact h.mem
  | up hp _ ih =>
    rcases h.new _ (ih h) with h1 | h1
    · simp at h1
    · exact h1.2 _ hp
/-- The least of all. -/
theorem LimP.iff (h : LimP t x [] (-1) S' m') (now : Int) : (0 ≤ m' ∧ m' ≤ now) ↔ ∃ y, Anc t y x ∧ 0 ≤ (t.tk y).dl ∧ (t.tk y).dl ≤ now := by
  constructor
  · rintro ⟨h0, h1⟩
    rcases h.least with h2 | ⟨y, h2, h3, h4⟩
    · omega
    · exact ⟨y, h2, h4, by omega⟩
  · rintro ⟨y, hy, h0, h1⟩
    rcases h.below y (h.all hy) with h2 | h2
    · simp at h2
    · have := h2 h0; omega
end
end Tree
end Go.Proofs.YtdnkedifjaccoaaDoor.Ce
