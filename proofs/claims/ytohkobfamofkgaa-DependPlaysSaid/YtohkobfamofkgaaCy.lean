/- Going from number to number in a list: the plain law of depend.Circle and of the document's Circle. No program in sight. -/
import Derived.Test.YtohkobfamofkgaaWWords
namespace Go.Proofs.Ytohkobfamofkgaa.Cy
open Go.RowKit Go.Proofs.YtohkobfamofkgaaW.PrintWords

def nx (of : List Int) (x : Int) : Int := if x < 0 then x else rd of x
def it (of : List Int) : Nat → Int → Int
  | 0, x => x
  | k + 1, x => nx of (it of k x)
def Cyc (of : List Int) (x : Int) : Prop := 0 ≤ x ∧ x < of.length ∧ ∃ p, 0 < p ∧ it of p x = x
/-- Every number is one of the list's places, or -1. -/
def Good (of : List Int) : Prop := ∀ j : Int, 0 ≤ j → j < of.length → -1 ≤ rd of j ∧ rd of j < of.length

section
variable {of : List Int}
theorem it_succ (k : Nat) (x : Int) : it of (k + 1) x = nx of (it of k x) := rfl
theorem it_add (a b : Nat) (x : Int) : it of (a + b) x = it of a (it of b x) := by
  induction a with
  | zero => rw [Nat.zero_add]; rfl
  | succ a ih => rw [show a + 1 + b = (a + b) + 1 by omega, it_succ, it_succ, ih]
theorem nx_pos {x : Int} (h : 0 ≤ x) : nx of x = rd of x := by unfold nx; rw [if_neg (by omega)]
theorem nx_neg {x : Int} (h : x < 0) : nx of x = x := by unfold nx; rw [if_pos h]
theorem it_neg {x : Int} (h : x < 0) (k : Nat) : it of k x = x := by
  induction k with
  | zero => rfl
  | succ k ih => rw [it_succ, ih, nx_neg h]
/-- What is not negative later was not so before. -/
theorem it_back {x : Int} {a b : Nat} (hab : a ≤ b) (h : 0 ≤ it of b x) : 0 ≤ it of a x := by
  rcases Int.lt_or_le (it of a x) 0 with h1 | h1
  · rw [show b = (b - a) + a by omega, it_add, it_neg h1] at h
    omega
  · exact h1
theorem it_range (hg : Good of) {x : Int} (h0 : 0 ≤ x) (h1 : x < of.length) (k : Nat) : it of k x < of.length ∧ (0 ≤ it of k x ∨ it of k x = -1) := by
  induction k with
  | zero => exact ⟨h1, Or.inl h0⟩
  | succ k ih =>
    rw [it_succ]
    rcases Int.lt_or_le (it of k x) 0 with h | h
    · rw [nx_neg h]; exact ih
    · rw [nx_pos h]
      have := hg _ h ih.1
      exact ⟨this.2, by omega⟩
/-- p is the way round. -/
theorem it_mul {x : Int} {p : Nat} (h : it of p x = x) (q : Nat) : it of (q * p) x = x := by
  induction q with
  | zero => rw [Nat.zero_mul]; rfl
  | succ q ih => rw [Nat.succ_mul, it_add, h, ih]
theorem cyc_pos {x : Int} (h : Cyc of x) (k : Nat) : 0 ≤ it of k x := by
  obtain ⟨h0, _, p, hp, e⟩ := h
  refine it_back (b := k * p) (Nat.le_mul_of_pos_right k hp) ?_
  rw [it_mul e]; exact h0
theorem cyc_it (hg : Good of) {x : Int} (h : Cyc of x) (k : Nat) : Cyc of (it of k x) := by
  obtain ⟨h0, h1, p, hp, e⟩ := h
  refine ⟨cyc_pos ⟨h0, h1, p, hp, e⟩ k, (it_range hg h0 h1 k).1, p, hp, ?_⟩
  rw [← it_add, Nat.add_comm, it_add, e]

/-- No more different places than there are. -/
theorem pigeon : ∀ (n : Nat) (l : List Int), l.Nodup → (∀ x ∈ l, 0 ≤ x ∧ x < (n : Int)) → l.length ≤ n
  | 0, l, _, h => by
    cases l with
    | nil => simp
    | cons x l => have := h x (by simp); omega
  | n + 1, l, hn, h => by
    have h1 := pigeon n (l.filter (fun x => x ≠ (n : Int))) (hn.filter _) (fun x hx => by
      rw [List.mem_filter] at hx
      have := h x hx.1
      have h2 : x ≠ (n : Int) := by simpa using hx.2
      omega)
    have h2 : l.length ≤ (l.filter (fun x => x ≠ (n : Int))).length + 1 := by
      clear h1 h
      induction l with
      | nil => simp
      | cons x l ih =>
        rw [List.nodup_cons] at hn
        by_cases e : x = (n : Int)
        · have : l.filter (fun x => x ≠ (n : Int)) = l := List.filter_eq_self.2 (fun y hy => by
            have : y ≠ (n : Int) := fun e2 => hn.1 (by rw [e, ← e2]; exact hy)
            simpa using this)
          rw [List.filter_cons_of_neg (by simpa using e), this]; simp
        · rw [List.filter_cons_of_pos (by simpa using e)]
          have := ih hn.2
          simp only [List.length_cons]; omega
    omega

def orb (of : List Int) (p : Nat) (x : Int) : List Int := (List.range p).map (fun k => it of k x)
theorem orb_length (p : Nat) (x : Int) : (orb of p x).length = p := by simp [orb]
theorem orb_succ (p : Nat) (x : Int) : orb of (p + 1) x = orb of p x ++ [it of p x] := by simp [orb, List.range_succ]

/-- Two of the first p + 1 are the same where there are more than places. -/
theorem twice (x : Int) (p : Nat) (h : ∀ k, k < p → 0 ≤ it of k x ∧ it of k x < of.length) (hp : of.length < p) : ∃ a b, a < b ∧ b < p ∧ it of a x = it of b x := by
  by_cases hn : (orb of p x).Nodup
  · have := pigeon of.length _ hn (fun y hy => by
      obtain ⟨k, hk, rfl⟩ := List.mem_map.1 hy
      exact h k (List.mem_range.1 hk))
    rw [orb_length] at this; omega
  · apply Classical.byContradiction
    intro hne
    apply hn
    unfold List.Nodup
    rw [List.pairwise_iff_getElem]
    intro i j hi hj hij e
    rw [orb_length] at hj
    simp [orb] at e
    exact hne ⟨i, j, hij, hj, e⟩
/-- A least way round, no longer than the list. -/
theorem period (hg : Good of) {x : Int} (h : Cyc of x) : ∃ p, 0 < p ∧ p ≤ of.length ∧ it of p x = x ∧ ∀ q, 0 < q → q < p → it of q x ≠ x := by
  obtain ⟨p, hp, e, hmin⟩ : ∃ p, 0 < p ∧ it of p x = x ∧ ∀ q, 0 < q → q < p → it of q x ≠ x := by
    obtain ⟨_, _, p, hp, e⟩ := h
    induction p using Nat.strongRecOn with
    | _ p ih =>
      by_cases hq : ∃ q, 0 < q ∧ q < p ∧ it of q x = x
      · obtain ⟨q, h1, h2, h3⟩ := hq
        exact ih q h2 h1 h3
      · exact ⟨p, hp, e, fun q h1 h2 h3 => hq ⟨q, h1, h2, h3⟩⟩
  refine ⟨p, hp, ?_, e, hmin⟩
  rcases Nat.lt_or_ge of.length p with hlt | hge
  · obtain ⟨a, b, hab, hb, hh⟩ := twice x p (fun k _ => ⟨cyc_pos h k, (it_range hg h.1 h.2.1 k).1⟩) hlt
    exfalso
    refine hmin (p - b + a) (by omega) (by omega) ?_
    rw [it_add, hh, ← it_add, show p - b + b = p by omega, e]
  · exact hge
/-- Where one goes on long enough there is a way round. -/
theorem cyc_of_long (hg : Good of) {x : Int} (h0 : 0 ≤ x) (h1 : x < of.length) (h : 0 ≤ it of of.length x) : ∃ y, Cyc of y := by
  obtain ⟨a, b, hab, hb, hh⟩ := twice x (of.length + 1) (fun k hk => ⟨it_back (by omega) h, (it_range hg h0 h1 k).1⟩) (by omega)
  refine ⟨it of a x, it_back (by omega) h, (it_range hg h0 h1 a).1, b - a, by omega, ?_⟩
  rw [← it_add, show b - a + a = b by omega, hh]

/-- What both tell. -/
inductive Tells (of : List Int) : List Int → Prop
  | none (h : ∀ x, ¬ Cyc of x) : Tells of []
  | some (m : Int) (p : Nat) (h : Cyc of m) (hl : ∀ x, Cyc of x → m ≤ x) (hp : 0 < p) (hp2 : p ≤ of.length) (e : it of p m = m) (hmin : ∀ q, 0 < q → q < p → it of q m ≠ m) : Tells of (orb of p m)
theorem tells_same {a b : List Int} (ha : Tells of a) (hb : Tells of b) : a = b := by
  cases ha with
  | none h =>
    cases hb with
    | none _ => rfl
    | some m p h2 => exact absurd h2 (h m)
  | some m p h hl hp hp2 e hmin =>
    cases hb with
    | none h2 => exact absurd h (h2 m)
    | some m' p' h' hl' hp' hp2' e' hmin' =>
      have : m = m' := by have := hl m' h'; have := hl' m h; omega
      subst this
      have : p = p' := by
        rcases Nat.lt_trichotomy p p' with hlt | heq | hgt
        · exact absurd e (hmin' p hp hlt)
        · exact heq
        · exact absurd e' (hmin p' hp' hgt)
      rw [this]
end
end Go.Proofs.Ytohkobfamofkgaa.Cy
