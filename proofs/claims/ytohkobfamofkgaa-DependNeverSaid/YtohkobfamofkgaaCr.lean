/- The document's Circle, as printed, tells what Cy's law says. -/
import Derived.Test.YtohkobfamofkgaaCy
import Derived.Test.YtohkobfamofkgaaPDependCirclesx1
import Derived.Test.YtohkobfamofkgaaPDependCirclesx2
namespace Go.Proofs.Ytohkobfamofkgaa.Cy
open Go.RowKit Go.Proofs.Ytohkobfamofkgaa.PDependCircles Go.Proofs.YtohkobfamofkgaaW.PrintWords

/-- What Circle answers. -/
def Says (of : List Int) (L : List Int) (e : Int) : Prop :=
  ((of.length : Int) > 4096 ∧ L = [] ∧ e = 3) ∨ ((of.length : Int) ≤ 4096 ∧ ¬ Good of ∧ L = [] ∧ e = 1) ∨ ((of.length : Int) ≤ 4096 ∧ Good of ∧ e = 0 ∧ Tells of L)
theorem says_same {of a b : List Int} {e f : Int} (h : Says of a e) (k : Says of b f) : a = b ∧ e = f := by
  rcases h with ⟨h1, rfl, rfl⟩ | ⟨h1, h2, rfl, rfl⟩ | ⟨h1, h2, rfl, h3⟩
  · rcases k with ⟨k1, rfl, rfl⟩ | ⟨k1, _⟩ | ⟨k1, _⟩
    · exact ⟨rfl, rfl⟩
    · omega
    · omega
  · rcases k with ⟨k1, _⟩ | ⟨k1, k2, rfl, rfl⟩ | ⟨k1, k2, _⟩
    · omega
    · exact ⟨rfl, rfl⟩
    · exact absurd k2 h2
  · rcases k with ⟨k1, _⟩ | ⟨k1, k2, _⟩ | ⟨k1, k2, rfl, k3⟩
    · omega
    · exact absurd h2 k2
    · exact ⟨tells_same h3 k3, rfl⟩

section
variable {of : List Int}
theorem w1 (i : Nat) (h : i < 100000) : wrap64 ((i : Int) + 1) = ((i + 1 : Nat) : Int) := by unfold wrap64; omega

theorem ref_l2_off (hn : (of.length : Int) ≤ 4096) (hg : Good of) (i : Nat) (hi : i < of.length) (hc : ¬ Cyc of i) (R : List Int × Int) (h : ∃ k, oncewebref14_Circle.l1 k of ((i + 1 : Nat) : Int) = some R) :
    ∀ d q, q + d = of.length + 1 → 0 < q → ∃ k, oncewebref14_Circle.l2 k of i (orb of q i) (it of q i) = some R := by
  intro d
  induction d with
  | zero =>
    intro q hq h0
    obtain ⟨k, hk⟩ := h
    refine ⟨k + 1, ?_⟩
    simp only [oncewebref14_Circle.l2]
    have hne : ¬ it of q i = i := fun e => hc ⟨by omega, by omega, q, h0, e⟩
    rw [orb_length, if_neg hne, if_neg hne, if_neg (show ¬ (q : Int) ≤ of.length by omega), w1 i (by omega), hk]
    simp
  | succ d ih =>
    intro q hq h0
    have hne : ¬ it of q i = i := fun e => hc ⟨by omega, by omega, q, h0, e⟩
    by_cases h7 : it of q i ≥ 0
    · obtain ⟨k, hk⟩ := ih (q + 1) (by omega) (by omega)
      refine ⟨k + 1, ?_⟩
      simp only [oncewebref14_Circle.l2]
      rw [orb_length, if_pos h7, if_neg hne, if_pos (by omega), if_pos (by omega), if_pos h7, if_pos (it_range hg (by omega) (by omega) q).1, ← orb_succ, ← nx_pos h7]
      exact hk
    · obtain ⟨k, hk⟩ := h
      refine ⟨k + 1, ?_⟩
      simp only [oncewebref14_Circle.l2]
      rw [if_neg h7, if_neg hne, w1 i (by omega), hk]
theorem ref_l2_on (hn : (of.length : Int) ≤ 4096) (hg : Good of) (i : Nat) (hi : i < of.length) (hc : Cyc of i) (p : Nat) (hp : 0 < p) (hp2 : p ≤ of.length) (e : it of p i = i) (hmin : ∀ q, 0 < q → q < p → it of q i ≠ i) :
    ∀ d q, q + d = p → 0 < q → ∃ k, oncewebref14_Circle.l2 k of i (orb of q i) (it of q i) = some (orb of p i, 0) := by
  intro d
  induction d with
  | zero =>
    intro q hq h0
    obtain rfl : q = p := by omega
    refine ⟨1, ?_⟩
    simp only [oncewebref14_Circle.l2]
    rw [e, if_pos (by omega), if_pos rfl]
  | succ d ih =>
    intro q hq h0
    have hne : ¬ it of q i = i := hmin q h0 (by omega)
    have h7 : it of q i ≥ 0 := cyc_pos hc q
    obtain ⟨k, hk⟩ := ih (q + 1) (by omega) (by omega)
    refine ⟨k + 1, ?_⟩
    simp only [oncewebref14_Circle.l2]
    rw [orb_length, if_pos h7, if_neg hne, if_pos (by omega), if_pos (by omega), if_pos h7, if_pos (it_range hg (by omega) (by omega) q).1, ← orb_succ, ← nx_pos h7]
    exact hk
theorem it_one {x : Int} (h : 0 ≤ x) : it of 1 x = rd of x := nx_pos h
theorem orb_one (x : Int) : orb of 1 x = [x] := rfl
theorem ref_l1 (hn : (of.length : Int) ≤ 4096) (hg : Good of) : ∀ d (i : Nat), i + d = of.length → (∀ x, Cyc of x → (i : Int) ≤ x) → ∃ k L, oncewebref14_Circle.l1 k of (i : Int) = some (L, 0) ∧ Tells of L := by
  intro d
  induction d with
  | zero =>
    intro i hi h
    refine ⟨1, [], ?_, Tells.none (fun x hx => by have := h x hx; have := hx.2.1; omega)⟩
    simp only [oncewebref14_Circle.l1]
    rw [if_neg (by omega)]
  | succ d ih =>
    intro i hi h
    by_cases hc : Cyc of i
    · obtain ⟨p, hp, hp2, e, hmin⟩ := period hg hc
      obtain ⟨k, hk⟩ := ref_l2_on hn hg i (by omega) hc p hp hp2 e hmin (p - 1) 1 (by omega) (by omega)
      refine ⟨k + 1, _, ?_, Tells.some i p hc h hp hp2 e hmin⟩
      simp only [oncewebref14_Circle.l1]
      rw [if_pos (by omega), if_pos (by omega), ← it_one (by omega), ← orb_one (of := of), hk]
    · obtain ⟨k0, L, h1, h2⟩ := ih (i + 1) (by omega) (fun x hx => by
        have h3 := h x hx
        rcases Int.lt_or_eq_of_le h3 with h4 | h4
        · omega
        · subst h4; exact absurd hx hc)
      obtain ⟨k, hk⟩ := ref_l2_off hn hg i (by omega) hc _ ⟨k0, h1⟩ of.length 1 (by omega) (by omega)
      refine ⟨k + 1, L, ?_, h2⟩
      simp only [oncewebref14_Circle.l1]
      rw [if_pos (by omega), if_pos (by omega), ← it_one (by omega), ← orb_one (of := of), hk]
theorem ref_l0 (hn : (of.length : Int) ≤ 4096) : ∀ d (i : Nat), i + d = of.length → (∀ j : Int, 0 ≤ j → j < i → -1 ≤ rd of j ∧ rd of j < of.length) → ∃ k L e, oncewebref14_Circle.l0 k of (i : Int) = some (L, e) ∧ Says of L e := by
  intro d
  induction d with
  | zero =>
    intro i hi h
    have hg : Good of := fun j h0 h1 => h j h0 (by omega)
    obtain ⟨k, L, h1, h2⟩ := ref_l1 hn hg of.length 0 (by omega) (fun x hx => hx.1)
    refine ⟨k + 1, L, 0, ?_, Or.inr (Or.inr ⟨hn, hg, rfl, h2⟩)⟩
    simp only [oncewebref14_Circle.l0]
    rw [if_neg (by omega)]
    exact h1
  | succ d ih =>
    intro i hi h
    by_cases h1 : rd of i < -1
    · refine ⟨1, [], 1, ?_, Or.inr (Or.inl ⟨hn, fun hg => by have := hg i (by omega) (by omega); omega, rfl, rfl⟩)⟩
      simp only [oncewebref14_Circle.l0]
      rw [if_pos (by omega), if_pos (by omega), if_pos h1]
    · by_cases h2 : rd of i ≥ of.length
      · refine ⟨1, [], 1, ?_, Or.inr (Or.inl ⟨hn, fun hg => by have := hg i (by omega) (by omega); omega, rfl, rfl⟩)⟩
        simp only [oncewebref14_Circle.l0]
        rw [if_pos (by omega), if_pos (by omega), if_neg h1, if_pos h2]
      · obtain ⟨k, L, e, h3, h4⟩ := ih (i + 1) (by omega) (fun j h0 hj => by
          by_cases ej : j = i
          · subst ej; omega
          · exact h j h0 (by omega))
        refine ⟨k + 1, L, e, ?_, h4⟩
        simp only [oncewebref14_Circle.l0]
        rw [if_pos (by omega), if_pos (by omega), if_neg h1, if_neg h2, w1 i (by omega), h3]
theorem ref_says (of : List Int) : ∃ k L e, oncewebref14_Circle.f k of = some (L, e) ∧ Says of L e := by
  unfold oncewebref14_Circle.f
  by_cases hn : (of.length : Int) > 4096
  · exact ⟨0, [], 3, by rw [if_pos hn], Or.inl ⟨hn, rfl, rfl⟩⟩
  · obtain ⟨k, L, e, h1, h2⟩ := ref_l0 (of := of) (by omega) of.length 0 (by omega) (fun j h0 h1 => by omega)
    exact ⟨k, L, e, by rw [if_neg hn]; exact h1, h2⟩
end
end Go.Proofs.Ytohkobfamofkgaa.Cy
