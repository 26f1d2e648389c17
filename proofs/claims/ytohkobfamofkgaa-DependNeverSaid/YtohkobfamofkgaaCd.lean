/- depend.Circle, as printed, tells what Cy's law says. -/
import Derived.Test.YtohkobfamofkgaaCr
namespace Go.Proofs.Ytohkobfamofkgaa.Cy
open Go.RowKit Go.Proofs.Ytohkobfamofkgaa.PDependCircles Go.Proofs.YtohkobfamofkgaaW.PrintWords Go.Proofs.YtohkobfamofkgaaW.PrintMore

/-- What has been gone through ahead of the i-th start. -/
structure Inv (of T : List Int) (best : Int) (i : Nat) : Prop where
  len : T.length = of.length
  val : ∀ x : Int, 0 ≤ x → x < of.length → 0 ≤ rd T x ∧ rd T x ≤ i
  closed : ∀ x : Int, 0 ≤ x → x < of.length → rd T x ≠ 0 → rd of x < 0 ∨ rd T (rd of x) ≠ 0
  all : ∀ x : Int, 0 ≤ x → x < i → rd T x ≠ 0
  least : ∀ x : Int, Cyc of x → rd T x ≠ 0 → 0 ≤ best ∧ best ≤ x
  best : best = -1 ∨ Cyc of best
/-- K steps of the way from i. -/
structure Wk (of T0 T : List Int) (i K : Nat) : Prop where
  len : T.length = of.length
  old : ∀ x : Int, 0 ≤ x → x < of.length → rd T0 x ≠ 0 → rd T x = rd T0 x
  new : ∀ x : Int, 0 ≤ x → x < of.length → rd T0 x = 0 → rd T x ≠ 0 → rd T x = i + 1 ∧ ∃ k, k < K ∧ x = it of k i
  path : ∀ k, k < K → 0 ≤ it of k i ∧ rd T (it of k i) = i + 1 ∧ rd T0 (it of k i) = 0
  dist : ∀ a b, a < b → b < K → it of a i ≠ it of b i

section
variable {of T0 T : List Int} {best : Int} {i K : Nat}
theorem rd_set (T : List Int) (x y v : Int) (hx : 0 ≤ x) (hl : x < T.length) (hy : 0 ≤ y) : rd (T.set x.toNat v) y = if y = x then v else rd T y := by
  unfold rd
  rw [List.getD_eq_getElem?_getD, List.getElem?_set, List.getD_eq_getElem?_getD]
  by_cases e : y = x
  · subst e
    rw [if_pos rfl, if_pos (by omega), if_pos rfl]; rfl
  · rw [if_neg (by omega), if_neg e]
theorem Wk.zero (h : Inv of T0 best i) : Wk of T0 T0 i 0 := ⟨h.len, fun _ _ _ _ => rfl, fun _ _ _ h0 h1 => absurd h0 h1, fun _ hk => by omega, fun _ _ _ hb => by omega⟩
theorem Wk.few (hg : Good of) (hi : i < of.length) (h : Wk of T0 T i K) : K ≤ of.length := by
  rcases Nat.lt_or_ge of.length K with hlt | hge
  · obtain ⟨a, b, hab, hb, hh⟩ := twice (of := of) (i : Int) K (fun k hk => ⟨(h.path k hk).1, (it_range hg (by omega) (by omega) k).1⟩) hlt
    exact absurd hh (h.dist a b hab hb)
  · exact hge
theorem Wk.step (hg : Good of) (hi : i < of.length) (h : Wk of T0 T i K) (h0 : 0 ≤ it of K i) (hz : rd T (it of K i) = 0) : Wk of T0 (T.set (it of K i).toNat ((i : Int) + 1)) i (K + 1) := by
  have hr := (it_range hg (by omega : (0 : Int) ≤ i) (by omega) K).1
  have hs := fun y hy => rd_set T (it of K i) y ((i : Int) + 1) h0 (by rw [h.len]; exact hr) hy
  have ho : rd T0 (it of K i) = 0 := by
    apply Classical.byContradiction
    intro hne
    exact hne ((h.old _ h0 hr hne).symm.trans hz)
  refine ⟨by rw [List.length_set]; exact h.len, fun x h1 h2 h3 => ?_, fun x h1 h2 h3 h4 => ?_, fun k hk => ?_, fun a b hab hb => ?_⟩
  · rw [hs x h1, if_neg (fun e => h3 (by rw [e]; exact ho))]
    exact h.old x h1 h2 h3
  · rw [hs x h1] at h4 ⊢
    by_cases e : x = it of K i
    · rw [if_pos e]; exact ⟨rfl, K, by omega, e⟩
    · rw [if_neg e] at h4 ⊢
      obtain ⟨h5, k, h6, h7⟩ := h.new x h1 h2 h3 h4
      exact ⟨h5, k, by omega, h7⟩
  · by_cases e : k = K
    · subst e
      rw [hs _ h0, if_pos rfl]
      exact ⟨h0, rfl, ho⟩
    · obtain ⟨p1, p2, p3⟩ := h.path k (by omega)
      refine ⟨p1, ?_, p3⟩
      rw [hs _ p1]
      split
      · rfl
      · exact p2
  · by_cases e : b = K
    · subst e
      intro e2
      have := (h.path a hab).2.1
      rw [e2, hz] at this
      omega
    · exact h.dist a b hab (by omega)

/-- From a place gone through before, all that one comes to was gone through. -/
theorem Inv.go (hg : Good of) (h : Inv of T0 best i) {x : Int} (h0 : 0 ≤ x) (h1 : x < of.length) (hx : rd T0 x ≠ 0) (k : Nat) (hk : 0 ≤ it of k x) : rd T0 (it of k x) ≠ 0 := by
  induction k with
  | zero => exact hx
  | succ k ih =>
    have hp : 0 ≤ it of k x := it_back (Nat.le_succ k) hk
    rw [it_succ, nx_pos hp] at hk ⊢
    rcases h.closed _ hp (it_range hg h0 h1 k).1 (ih hp) with h2 | h2
    · omega
    · exact h2
/-- A place on a circle, from which one comes to another: one comes back from that. -/
theorem cyc_back {x : Int} (hx : Cyc of x) (j : Nat) : ∃ m, it of m (it of j x) = x := by
  obtain ⟨_, _, p, hp, e⟩ := hx
  refine ⟨j * p - j, ?_⟩
  have : j ≤ j * p := Nat.le_mul_of_pos_right j hp
  rw [← it_add, show j * p - j + j = j * p by omega, it_mul e]

theorem Inv.next (hg : Good of) (hi : i < of.length) (h : Inv of T0 best i) (k : Wk of T0 T i K) (he : it of K i < 0 ∨ rd T (it of K i) ≠ 0) (best' : Int) (hb : 0 ≤ best → 0 ≤ best' ∧ best' ≤ best) (hbc : best' = -1 ∨ Cyc of best')
    (hl : ∀ x, Cyc of x → rd T x ≠ 0 → rd T0 x = 0 → 0 ≤ best' ∧ best' ≤ x) : Inv of T best' (i + 1) := by
  refine ⟨k.len, fun x h0 h1 => ?_, fun x h0 h1 h2 => ?_, fun x h0 h1 => ?_, fun x hx h2 => ?_, hbc⟩
  · by_cases e : rd T0 x = 0
    · by_cases e2 : rd T x = 0
      · rw [e2]; omega
      · have := (k.new x h0 h1 e e2).1; omega
    · rw [k.old x h0 h1 e]
      have := h.val x h0 h1; omega
  · by_cases e : rd T0 x = 0
    · obtain ⟨_, j, hj, rfl⟩ := k.new x h0 h1 e h2
      rw [← nx_pos h0, ← it_succ]
      by_cases e2 : j + 1 = K
      · rw [e2]; exact he
      · have := (k.path (j + 1) (by omega)).2.1
        exact Or.inr (by omega)
    · rcases h.closed x h0 h1 e with h3 | h3
      · exact Or.inl h3
      · have hr := hg x h0 h1
        by_cases h4 : rd of x < 0
        · exact Or.inl h4
        · exact Or.inr (by rw [k.old _ (by omega) hr.2 h3]; exact h3)
  · by_cases e : x = i
    · subst e
      by_cases hK : K = 0
      · subst hK
        rcases he with h3 | h3
        · have : (i : Int) < 0 := h3
          omega
        · exact h3
      · have := (k.path 0 (by omega)).2.1
        have e0 : it of 0 (i : Int) = i := rfl
        rw [e0] at this; omega
    · have h3 := h.all x h0 (by omega)
      rw [k.old x h0 (by omega) h3]; exact h3
  · by_cases e : rd T0 x = 0
    · exact hl x hx h2 e
    · have h3 := h.least x hx e
      have h4 := hb h3.1
      omega

/-- Nothing that was gone through now lies on a circle, where the way ended or came to what was gone through before. -/
theorem Wk.off (hg : Good of) (hi : i < of.length) (h : Inv of T0 best i) (k : Wk of T0 T i K) (he : it of K i < 0 ∨ (rd T (it of K i) ≠ 0 ∧ rd T (it of K i) ≠ i + 1)) (x : Int) (hx : Cyc of x) (h2 : rd T x ≠ 0) : rd T0 x ≠ 0 := by
  intro h3
  obtain ⟨_, j, hj, e⟩ := k.new x hx.1 hx.2.1 h3 h2
  have e2 : it of (K - j) x = it of K i := by rw [e, ← it_add, show K - j + j = K by omega]
  have hp := cyc_pos hx (K - j)
  rw [e2] at hp
  rcases he with h4 | ⟨h4, h5⟩
  · omega
  · have hr := (it_range hg (by omega : (0 : Int) ≤ i) (by omega) K).1
    have h6 : rd T0 (it of K i) ≠ 0 := fun e3 => h5 (k.new _ hp hr e3 h4).1
    obtain ⟨m, hm⟩ := cyc_back hx (K - j)
    rw [e2] at hm
    have := h.go hg hp hr h6 m (by rw [hm]; exact hx.1)
    rw [hm] at this
    exact this h3
/-- The way came back to itself: it is on a circle, and all of the circle's that was gone through now is on this one. -/
theorem Wk.on (hg : Good of) (hi : i < of.length) (h : Inv of T0 best i) (k : Wk of T0 T i K) (h0 : 0 ≤ it of K i) (he : rd T (it of K i) = i + 1) : Cyc of (it of K i) ∧ ∀ x, Cyc of x → rd T x ≠ 0 → rd T0 x = 0 → ∃ m, it of m (it of K i) = x := by
  have hr := (it_range hg (by omega : (0 : Int) ≤ i) (by omega) K).1
  have hz : rd T0 (it of K i) = 0 := by
    apply Classical.byContradiction
    intro hne
    have := (h.val _ h0 hr).2
    rw [← k.old _ h0 hr hne] at this
    omega
  obtain ⟨_, j, hj, e⟩ := k.new _ h0 hr hz (by omega)
  have hc : Cyc of (it of K i) := ⟨h0, hr, K - j, by omega, by
    have e2 : it of (K - j) (it of j i) = it of K i := by rw [← it_add, show K - j + j = K by omega]
    rw [← e] at e2; exact e2⟩
  refine ⟨hc, fun x hx h2 h3 => ?_⟩
  obtain ⟨_, j2, hj2, e3⟩ := k.new x hx.1 hx.2.1 h3 h2
  have e2 : it of (K - j2) x = it of K i := by rw [e3, ← it_add, show K - j2 + j2 = K by omega]
  obtain ⟨m, hm⟩ := cyc_back hx (K - j2)
  rw [e2] at hm
  exact ⟨m, hm⟩

/-- From here the loop over the starts tells what it should. -/
def On (of T : List Int) (best : Int) (i : Nat) : Prop := ∃ k L, depend_Circle.l1 k of T best of.length (i : Int) = some (L, 0) ∧ Tells of L

theorem dep_l4 (hn : (of.length : Int) ≤ 4096) (hg : Good of) (m : Int) (hc : Cyc of m) (p : Nat) (hp : 0 < p) (hp2 : p ≤ of.length) (e : it of p m = m) (hmin : ∀ q, 0 < q → q < p → it of q m ≠ m) :
    ∀ d q, q + d = p → 0 < q → ∃ k, depend_Circle.l4 k of m (orb of q m) (it of q m) = some (orb of p m, 0) := by
  intro d
  induction d with
  | zero =>
    intro q hq h0
    obtain rfl : q = p := by omega
    refine ⟨1, ?_⟩
    simp only [depend_Circle.l4]
    rw [e, if_pos rfl]
  | succ d ih =>
    intro q hq h0
    have hne : ¬ it of q m = m := hmin q h0 (by omega)
    have h7 := cyc_pos hc q
    obtain ⟨k, hk⟩ := ih (q + 1) (by omega) (by omega)
    refine ⟨k + 1, ?_⟩
    simp only [depend_Circle.l4]
    rw [orb_length, if_neg hne, if_pos (by omega), if_pos h7, if_pos (it_range hg hc.1 hc.2.1 q).1, ← orb_succ, ← nx_pos h7]
    exact hk

theorem dep_l3 (hn : (of.length : Int) ≤ 4096) (hg : Good of) (hi : i < of.length) (at_ : Int) (hc : Cyc of at_) (p : Nat) (hp : 0 < p) (e : it of p at_ = at_) (hmin : ∀ q, 0 < q → q < p → it of q at_ ≠ at_)
    (hfin : ∀ least, (∀ m, least ≤ it of m at_) → (∃ m, least = it of m at_) → On of T (if best < 0 then least else if least < best then least else best) (i + 1)) :
    ∀ d j, j + d = p → 0 < j → ∀ least, (∀ m, m < j → least ≤ it of m at_) → (∃ m, least = it of m at_) → ∃ k L, depend_Circle.l3 k of T best at_ least (it of j at_) of.length (i : Int) = some (L, 0) ∧ Tells of L := by
  intro d
  induction d with
  | zero =>
    intro j hj h0 least hl hm
    obtain rfl : j = p := by omega
    have hall : ∀ m, least ≤ it of m at_ := by
      intro m
      have e2 : it of m at_ = it of (m % j) at_ := by
        rw [show it of m at_ = it of (m % j + m / j * j) at_ by rw [Nat.mul_comm, Nat.mod_add_div], it_add, it_mul e]
      rw [e2]
      exact hl _ (Nat.mod_lt _ hp)
    obtain ⟨k, L, hk, hL⟩ := hfin least hall hm
    refine ⟨k + 1, L, ?_, hL⟩
    simp only [depend_Circle.l3]
    rw [e, if_pos rfl, w1 i (by omega)]
    split
    · rename_i h; rw [if_pos h] at hk; exact hk
    · rename_i h
      rw [if_neg h] at hk
      split
      · rename_i h2; rw [if_pos h2] at hk; exact hk
      · rename_i h2; rw [if_neg h2] at hk; exact hk
  | succ d ih =>
    intro j hj h0 least hl hm
    have hne : ¬ it of j at_ = at_ := hmin j h0 (by omega)
    have h7 := cyc_pos hc j
    obtain ⟨k, L, hk, hL⟩ := ih (j + 1) (by omega) (by omega) (mn least (it of j at_)) (fun m hm => by
      unfold mn
      split
      · by_cases e2 : m = j
        · rw [e2]; omega
        · have := hl m (by omega); omega
      · by_cases e2 : m = j
        · rw [e2]; omega
        · exact hl m (by omega)) (by
      unfold mn
      split
      · exact ⟨j, rfl⟩
      · exact hm)
    refine ⟨k + 1, L, ?_, hL⟩
    simp only [depend_Circle.l3]
    rw [if_neg hne, if_pos h7, if_pos (it_range hg hc.1 hc.2.1 j).1, ← nx_pos h7]
    exact hk

theorem dep_j3 (hn : (of.length : Int) ≤ 4096) (hg : Good of) (hi : i < of.length) (h : Inv of T0 best i) (k : Wk of T0 T i K) (he : it of K i < 0 ∨ rd T (it of K i) ≠ 0) (next : ∀ T best, Inv of T best (i + 1) → On of T best (i + 1)) :
    ∃ k L, depend_Circle.j3 k of T best i (it of K i) of.length (i : Int) = some (L, 0) ∧ Tells of L := by
  have hr := (it_range hg (by omega : (0 : Int) ≤ i) (by omega) K)
  -- the way ended, or came to what was gone through before
  have hoff : (it of K i < 0 ∨ (rd T (it of K i) ≠ 0 ∧ rd T (it of K i) ≠ i + 1)) → ∃ k L, depend_Circle.j4 k of T best (it of K i) of.length (i : Int) true = some (L, 0) ∧ Tells of L := by
    intro ho
    obtain ⟨q, L, hq, hL⟩ := next T best (h.next hg hi k he best (fun h0 => ⟨h0, Int.le_refl _⟩) h.best (fun x hx h2 h3 => absurd h3 (k.off hg hi h ho x hx h2)))
    refine ⟨q + 1, L, ?_, hL⟩
    simp only [depend_Circle.j4]
    rw [if_pos True.intro, w1 i (by omega)]
    exact hq
  by_cases h0 : it of K i < 0
  · obtain ⟨q, L, hq, hL⟩ := hoff (Or.inl h0)
    refine ⟨q + 1, L, ?_, hL⟩
    simp only [depend_Circle.j3]
    rw [if_pos h0]
    exact hq
  · have h0' : 0 ≤ it of K i := by omega
    have hnz : rd T (it of K i) ≠ 0 := by rcases he with h1 | h1; exact absurd h1 h0; exact h1
    by_cases h1 : rd T (it of K i) = i + 1
    · obtain ⟨hc, hall⟩ := k.on hg hi h h0' h1
      obtain ⟨p, hp, hp2, e, hmin⟩ := period hg hc
      obtain ⟨q, L, hq, hL⟩ := dep_l3 (T := T) (best := best) hn hg hi (it of K i) hc p hp e hmin (fun least h2 h3 => next T _ (by
        obtain ⟨m, hm⟩ := h3
        have hcl : Cyc of least := by rw [hm]; exact cyc_it hg hc m
        refine h.next hg hi k he _ (fun hb => ?_) ?_ (fun x hx h4 h5 => ?_)
        · rw [if_neg (by omega)]
          have := hcl.1
          split <;> omega
        · split
          · exact Or.inr hcl
          · split
            · exact Or.inr hcl
            · exact h.best
        · obtain ⟨m2, hm2⟩ := hall x hx h4 h5
          have h6 := h2 m2
          rw [hm2] at h6
          have := hcl.1
          split
          · omega
          · split <;> omega)) (p - 1) 1 (by omega) (by omega) (it of K i) (fun m hm => by
            obtain rfl : m = 0 := by omega
            exact Int.le_refl _) ⟨0, rfl⟩
      refine ⟨q + 2, L, ?_, hL⟩
      simp only [depend_Circle.j3, depend_Circle.j4]
      have hb : (rd T (it of K i) != wrap64 ((i : Int) + 1)) = false := by rw [h1, w1 i (by omega)]; simp
      rw [if_neg h0, if_pos h0', if_pos (by rw [k.len]; exact hr.1), hb, if_neg (by simp), if_pos h0', if_pos hr.1, ← it_one (of := of) h0']
      exact hq
    · obtain ⟨q, L, hq, hL⟩ := hoff (Or.inr ⟨hnz, h1⟩)
      refine ⟨q + 1, L, ?_, hL⟩
      simp only [depend_Circle.j3]
      have hb : (rd T (it of K i) != wrap64 ((i : Int) + 1)) = true := by rw [w1 i (by omega)]; simpa using h1
      rw [if_neg h0, if_pos h0', if_pos (by rw [k.len]; exact hr.1), hb]
      exact hq

theorem dep_l2 (hn : (of.length : Int) ≤ 4096) (hg : Good of) (hi : i < of.length) (h : Inv of T0 best i) (next : ∀ T best, Inv of T best (i + 1) → On of T best (i + 1)) :
    ∀ d K T, K + d = of.length + 1 → Wk of T0 T i K → ∃ k L, depend_Circle.l2 k of T best i (it of K i) of.length (i : Int) = some (L, 0) ∧ Tells of L := by
  intro d
  induction d with
  | zero => intro K T hK k; have := k.few hg hi; omega
  | succ d ih =>
    intro K T hK k
    have hr := (it_range hg (by omega : (0 : Int) ≤ i) (by omega) K)
    by_cases h0 : it of K i ≥ 0
    · by_cases hz : rd T (it of K i) = 0
      · obtain ⟨q, L, hq, hL⟩ := ih (K + 1) _ (by omega) (k.step hg hi h0 hz)
        refine ⟨q + 1, L, ?_, hL⟩
        simp only [depend_Circle.l2]
        rw [if_pos h0, if_pos h0, if_pos (by rw [k.len]; exact hr.1), if_pos hz, if_pos hr.1, w1 i (by omega), ← nx_pos h0]
        exact hq
      · obtain ⟨q, L, hq, hL⟩ := dep_j3 hn hg hi h k (Or.inr hz) next
        refine ⟨q + 1, L, ?_, hL⟩
        simp only [depend_Circle.l2]
        rw [if_pos h0, if_pos h0, if_pos (by rw [k.len]; exact hr.1), if_neg hz]
        exact hq
    · obtain ⟨q, L, hq, hL⟩ := dep_j3 hn hg hi h k (Or.inl (by omega)) next
      refine ⟨q + 1, L, ?_, hL⟩
      simp only [depend_Circle.l2]
      rw [if_neg h0]
      exact hq

theorem dep_l1 (hn : (of.length : Int) ≤ 4096) (hg : Good of) : ∀ d (i : Nat), i + d = of.length → ∀ T best, Inv of T best i → On of T best i := by
  intro d
  induction d with
  | zero =>
    intro i hi T best h
    have hall : ∀ x, Cyc of x → 0 ≤ best ∧ best ≤ x := fun x hx => h.least x hx (h.all x hx.1 (by have := hx.2.1; omega))
    by_cases hb : best < 0
    · refine ⟨1, [], ?_, Tells.none (fun x hx => by have := hall x hx; omega)⟩
      simp only [depend_Circle.l1]
      rw [if_neg (by omega), if_pos hb]
    · have hc : Cyc of best := by
        rcases h.best with h1 | h1
        · omega
        · exact h1
      obtain ⟨p, hp, hp2, e, hmin⟩ := period hg hc
      obtain ⟨k, hk⟩ := dep_l4 hn hg best hc p hp hp2 e hmin (p - 1) 1 (by omega) (by omega)
      refine ⟨k + 1, _, ?_, Tells.some best p hc (fun x hx => (hall x hx).2) hp hp2 e hmin⟩
      simp only [depend_Circle.l1]
      rw [if_neg (by omega), if_neg hb, if_pos hc.1, if_pos hc.2.1, ← it_one hc.1, ← orb_one (of := of), hk]
  | succ d ih =>
    intro i hi T best h
    obtain ⟨k, L, hk, hL⟩ := dep_l2 hn hg (by omega) h (fun T' b' h' => ih (i + 1) (by omega) T' b' h') (of.length + 1) 0 T (by omega) (Wk.zero h)
    refine ⟨k + 1, L, ?_, hL⟩
    simp only [depend_Circle.l1]
    rw [if_pos (by omega)]
    exact hk
theorem rd_rep (n : Nat) (x : Int) : rd (List.replicate n (0 : Int)) x = 0 := by
  unfold rd
  rw [List.getD_eq_getElem?_getD, List.getElem?_replicate]
  split <;> rfl
theorem Inv.start (hg : Good of) : Inv of (List.replicate of.length (0 : Int)) (-1) 0 :=
  ⟨by simp, fun x _ _ => by rw [rd_rep]; omega, fun x _ _ h => absurd (rd_rep _ _) h, fun x h0 h1 => by omega, fun x _ h => absurd (rd_rep _ _) h, Or.inl rfl⟩
theorem dep_l0 (hn : (of.length : Int) ≤ 4096) : ∀ d (i : Nat), i + d = of.length → (∀ j : Int, 0 ≤ j → j < i → -1 ≤ rd of j ∧ rd of j < of.length) → ∃ k L e, depend_Circle.l0 k of of of.length (i : Int) = some (L, e) ∧ Says of L e := by
  intro d
  induction d with
  | zero =>
    intro i hi h
    have hg : Good of := fun j h0 h1 => h j h0 (by omega)
    obtain ⟨k, L, h1, h2⟩ := dep_l1 hn hg of.length 0 (by omega) _ _ (Inv.start hg)
    refine ⟨k + 1, L, 0, ?_, Or.inr (Or.inr ⟨hn, hg, rfl, h2⟩)⟩
    simp only [depend_Circle.l0]
    rw [if_neg (by omega), if_pos (by omega), if_pos (by omega)]
    exact h1
  | succ d ih =>
    intro i hi h
    by_cases h1 : rd of i < -1
    · refine ⟨1, [], 1, ?_, Or.inr (Or.inl ⟨hn, fun hg => by have := hg i (by omega) (by omega); omega, rfl, rfl⟩)⟩
      simp only [depend_Circle.l0]
      rw [if_pos (by omega), if_pos (by omega), if_pos (by omega), if_pos h1]
    · by_cases h2 : rd of i ≥ of.length
      · refine ⟨1, [], 1, ?_, Or.inr (Or.inl ⟨hn, fun hg => by have := hg i (by omega) (by omega); omega, rfl, rfl⟩)⟩
        simp only [depend_Circle.l0]
        rw [if_pos (by omega), if_pos (by omega), if_pos (by omega), if_neg h1, if_pos h2]
      · obtain ⟨k, L, e, h3, h4⟩ := ih (i + 1) (by omega) (fun j h0 hj => by
          by_cases ej : j = i
          · subst ej; omega
          · exact h j h0 (by omega))
        refine ⟨k + 1, L, e, ?_, h4⟩
        simp only [depend_Circle.l0]
        rw [if_pos (by omega), if_pos (by omega), if_pos (by omega), if_neg h1, if_neg h2, w1 i (by omega), h3]
end
theorem dep_says (of : List Int) : ∃ k L e, depend_Circle.f k of = some (L, e) ∧ Says of L e := by
  unfold depend_Circle.f
  by_cases hn : (of.length : Int) > 4096
  · exact ⟨0, [], 3, by rw [if_pos hn], Or.inl ⟨hn, rfl, rfl⟩⟩
  · obtain ⟨k, L, e, h1, h2⟩ := dep_l0 (of := of) (by omega) of.length 0 (by omega) (fun j h0 h1 => by omega)
    exact ⟨k, L, e, by rw [if_neg hn]; exact h1, h2⟩
end Go.Proofs.Ytohkobfamofkgaa.Cy
