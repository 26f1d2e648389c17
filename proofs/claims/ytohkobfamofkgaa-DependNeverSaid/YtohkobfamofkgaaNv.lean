/- From a task to the one that runs what it waits for, one comes to an end: the list of a right web, in plain Lean. -/
import Derived.Test.YtohkobfamofkgaaKp
namespace Go.Proofs.Ytohkobfamofkgaa.Wb
open Go.RowKit Go.Maps Go.Proofs.Ytohkobfamofkgaa Go.Proofs.YtohkobfamofkgaaW.PrintWords Go.Proofs.YtohkobfamofkgaaW.PrintLast Go.Proofs.YtohkobfamofkgaaW.PrintMore

/-- Whom a task waits for; -1: nobody. -/
def next (m : Web) (t : Nat) : Int := if m.wai t = 0 then -1 else m.run (m.wai t - 1).toNat - 1
def nexts (m : Web) (j : Nat) : List Int := (List.range j).map (next m)
theorem nexts_length (m : Web) (j : Nat) : (nexts m j).length = j := by simp [nexts]
theorem nexts_succ (m : Web) (j : Nat) : nexts m (j + 1) = nexts m j ++ [next m j] := by simp [nexts, List.range_succ]
theorem nexts_rd (m : Web) (j : Int) (h0 : 0 ≤ j) (h1 : j < 128) : rd (nexts m 128) j = next m j.toNat := by
  unfold rd nexts
  rw [List.getD_eq_getElem?_getD, List.getElem?_map, List.getElem?_range (by omega)]
  rfl
section
variable {m : Web} (h : Iw m)
include h
theorem Iw.next_some {t : Nat} (ht : t < 128) (hw : m.wai t ≠ 0) : ∃ c r : Nat, c < 256 ∧ r < 128 ∧ m.wai t = (c : Int) + 1 ∧ m.run c = (r : Int) + 1 ∧ next m t = r ∧ r ≠ t := by
  rcases h.wf.wai t ht with k | ⟨c, hc, k⟩
  · exact absurd k hw
  · rcases h.wf.run c hc with k2 | ⟨r, hr, k2, _⟩
    · exact absurd k2 (h.runs t c ht k)
    · refine ⟨c, r, hc, hr, k, k2, ?_, fun e => ?_⟩
      · unfold next
        rw [if_neg hw, show (m.wai t - 1).toNat = c by omega]; omega
      · subst e
        obtain ⟨rk, hrk⟩ := h.rank
        exact absurd (hrk r c r ht k k2) (Nat.lt_irrefl _)
theorem Iw.nexts_good : Cy.Good (nexts m 128) := fun j h0 h1 => by
  rw [nexts_length] at h1 ⊢
  rw [nexts_rd m j h0 h1]
  by_cases hw : m.wai j.toNat = 0
  · have : next m j.toNat = -1 := by unfold next; rw [if_pos hw]
    omega
  · obtain ⟨c, r, _, hr, _, _, e, _⟩ := h.next_some (t := j.toNat) (by omega) hw
    omega
theorem Iw.no_cyc (x : Int) : ¬ Cy.Cyc (nexts m 128) x := by
  intro hc
  obtain ⟨rk, hrk⟩ := h.rank
  have hpos := Cy.cyc_pos hc
  obtain ⟨h0, h1, p, hp, e⟩ := hc
  have hrng := Cy.it_range h.nexts_good h0 h1
  have hstep : ∀ k, rk (Cy.it (nexts m 128) (k + 1) x).toNat < rk (Cy.it (nexts m 128) k x).toNat := fun k => by
    have a0 := hpos k
    have a1 := (hrng k).1
    have a2 := hpos (k + 1)
    rw [Cy.it_succ, Cy.nx_pos a0] at a2 ⊢
    generalize Cy.it (nexts m 128) k x = y at *
    rw [nexts_length] at a1
    rw [nexts_rd m y a0 a1] at a2 ⊢
    by_cases hw : m.wai y.toNat = 0
    · have : next m y.toNat = -1 := by unfold next; rw [if_pos hw]
      omega
    · obtain ⟨c, r, _, hr, k1, k2, e, _⟩ := h.next_some (t := y.toNat) (by omega) hw
      rw [e, Int.toNat_natCast]
      exact hrk y.toNat c r (by omega) k1 k2
  have hall : ∀ k, rk (Cy.it (nexts m 128) k x).toNat + k ≤ rk x.toNat := fun k => by
    induction k with
    | zero => exact Nat.le_refl _
    | succ k ih => have := hstep k; omega
  have := hall p
  rw [e] at this
  omega
theorem Iw.off (x : Int) (h0 : 0 ≤ x) (h1 : x < 128) : Cy.it (nexts m 128) 128 x < 0 := by
  rcases Int.lt_or_le (Cy.it (nexts m 128) 128 x) 0 with h2 | h2
  · exact h2
  · have e := nexts_length m 128
    obtain ⟨y, hy⟩ := Cy.cyc_of_long h.nexts_good h0 (by rw [e]; exact h1) (by rw [e]; exact h2)
    exact absurd hy (h.no_cyc y)
/-- On the way from whoever runs what a task waits for, one does not come to it. -/
theorem Iw.apart {t c r : Nat} (ht : t < 128) (hw : m.wai t = (c : Int) + 1) (hr : m.run c = (r : Int) + 1) (hr1 : r < 128) : ∀ k, 0 ≤ Cy.it (nexts m 128) k r → Cy.it (nexts m 128) k r ≠ t := by
  obtain ⟨rk, hrk⟩ := h.rank
  have h0 := hrk t c r ht hw hr
  have hrng := Cy.it_range h.nexts_good (x := (r : Int)) (by omega) (by rw [nexts_length]; omega)
  have hall : ∀ k, 0 ≤ Cy.it (nexts m 128) k r → rk (Cy.it (nexts m 128) k r).toNat < rk t := fun k => by
    induction k with
    | zero => intro _; show rk ((r : Int)).toNat < rk t; rw [Int.toNat_natCast]; exact h0
    | succ k ih =>
      intro a2
      have a0 := Cy.it_back (of := nexts m 128) (x := r) (Nat.le_succ k) a2
      have a1 := (hrng k).1
      have h3 := ih a0
      rw [Cy.it_succ, Cy.nx_pos a0] at a2 ⊢
      generalize Cy.it (nexts m 128) k r = y at *
      rw [nexts_length] at a1
      rw [nexts_rd m y a0 a1] at a2 ⊢
      by_cases hw : m.wai y.toNat = 0
      · have : next m y.toNat = -1 := by unfold next; rw [if_pos hw]
        omega
      · obtain ⟨c, r, _, hr, k1, k2, e, _⟩ := h.next_some (t := y.toNat) (by omega) hw
        rw [e, Int.toNat_natCast]
        exact Nat.lt_trans (hrk y.toNat c r (by omega) k1 k2) h3
  intro k hk e
  have := hall k hk
  rw [e, Int.toNat_natCast] at this
  exact Nat.lt_irrefl _ this
end
end Go.Proofs.Ytohkobfamofkgaa.Wb
