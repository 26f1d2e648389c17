/- A heap in a list, by a strict order: up, down, push, pop, in plain Lean: no program in sight. -/
import Derived.KernelRfl
namespace Go.Proofs.YtccjclmjoegibaaDoor.Hp

/-- What a heap needs of its order: 'not behind' is reflexive, transitive; one of two is not behind the other. -/
structure Ord (lt : Int → Int → Bool) : Prop where
  refl : ∀ a, lt a a = false
  asym : ∀ a b, lt a b = true → lt b a = false
  trans : ∀ a b c, lt b a = false → lt c b = false → lt c a = false

def at_ (h : List Int) (k : Nat) : Int := h.getD k 0
def swap (h : List Int) (i j : Nat) : List Int := (h.set i (at_ h j)).set j (at_ h i)
theorem swap_len (h : List Int) (i j : Nat) : (swap h i j).length = h.length := by simp [swap]
theorem at_set (h : List Int) (i : Nat) (x : Int) (k : Nat) (hi : i < h.length) : at_ (h.set i x) k = if k = i then x else at_ h k := by
  unfold at_
  by_cases e : k = i
  · subst e
    simp [hi]
  · rw [if_neg e]
    simp [List.getD, List.getElem?_set_ne (Ne.symm e)]
theorem at_swap (h : List Int) (i j k : Nat) (hi : i < h.length) (hj : j < h.length) : at_ (swap h i j) k = if k = j then at_ h i else if k = i then at_ h j else at_ h k := by
  unfold swap
  rw [at_set _ _ _ _ (by simpa using hj), at_set _ _ _ _ hi]

theorem at_get (h : List Int) (k : Nat) (hk : k < h.length) : at_ h k = h[k] := by simp [at_, hk]
theorem list_ext {a b : List Int} (hl : a.length = b.length) (h : ∀ k, k < a.length → at_ a k = at_ b k) : a = b := by
  refine List.ext_getElem hl (fun k h1 h2 => ?_)
  have := h k h1
  rw [at_get _ _ h1, at_get _ _ h2] at this
  exact this

theorem swap_perm (h : List Int) (i j : Nat) (hi : i < h.length) (hj : j < h.length) : (swap h i j).Perm h := by
  rw [List.perm_iff_count]
  intro a
  unfold swap
  rw [at_get h j hj, at_get h i hi]
  by_cases e : i = j
  · subst e
    simp
  · rw [List.count_set (by simpa using hj), List.count_set hi]
    rw [List.getElem_set_ne e]
    have c1 : (h[i] == a) = true → 0 < h.count a := fun q => by rw [← beq_iff_eq.1 q]; exact List.count_pos_iff.2 (List.getElem_mem hi)
    have c2 : (h[j] == a) = true → 0 < h.count a := fun q => by rw [← beq_iff_eq.1 q]; exact List.count_pos_iff.2 (List.getElem_mem hj)
    cases e1 : (h[i] == a) <;> cases e2 : (h[j] == a) <;> simp only [e1, e2, if_true, if_false, Bool.false_eq_true] at c1 c2 ⊢ <;> first | omega | (have := c1 trivial; omega) | (have := c2 trivial; omega)

theorem and_use {A B : Prop} (a : A) (f : A → B) : B := f a
/-- The parent. -/
def par (k : Nat) : Nat := (k - 1) / 2
theorem par_lt {k : Nat} (h : 0 < k) : par k < k := by unfold par; omega

def upL (lt : Int → Int → Bool) (h : List Int) (j : Nat) : List Int :=
  if _h0 : j = 0 then h else if lt (at_ h j) (at_ h (par j)) = true then upL lt (swap h (par j) j) (par j) else h
termination_by j
decreasing_by exact par_lt (by omega)

theorem upL_stop (lt : Int → Int → Bool) (h : List Int) (j : Nat) (hs : j = 0 ∨ lt (at_ h j) (at_ h (par j)) = false) : upL lt h j = h := by
  unfold upL
  rcases hs with rfl | hs
  · simp
  · split
    · rfl
    · rw [hs]; simp
theorem upL_go (lt : Int → Int → Bool) (h : List Int) (j : Nat) (h0 : j ≠ 0) (hs : lt (at_ h j) (at_ h (par j)) = true) : upL lt h j = upL lt (swap h (par j) j) (par j) := by
  rw [upL, dif_neg h0, if_pos hs]

/-- A heap on its first n places. -/
def Heap (lt : Int → Int → Bool) (h : List Int) (n : Nat) : Prop := ∀ k, 0 < k → k < n → lt (at_ h k) (at_ h (par k)) = false

theorem up_heap {lt : Int → Int → Bool} (O : Ord lt) : ∀ (j : Nat) (h : List Int) (n : Nat), n ≤ h.length → j < n → (∀ k, 0 < k → k < n → k ≠ j → lt (at_ h k) (at_ h (par k)) = false) → (∀ c, 0 < c → c < n → par c = j → 0 < j → lt (at_ h c) (at_ h (par j)) = false) →
    Heap lt (upL lt h j) n ∧ (upL lt h j).Perm h ∧ ∀ k, n ≤ k → at_ (upL lt h j) k = at_ h k := by
  intro j
  induction j using Nat.strongRecOn with
  | _ j ih =>
    intro h n hn hj H1 H2
    by_cases h0 : j = 0
    · subst h0
      rw [upL_stop lt h 0 (.inl rfl)]
      exact ⟨fun k hk hkn => H1 k hk hkn (by omega), List.Perm.refl _, fun _ _ => rfl⟩
    · cases hl : lt (at_ h j) (at_ h (par j)) with
      | false =>
        rw [upL_stop lt h j (.inr hl)]
        refine ⟨fun k hk hkn => ?_, List.Perm.refl _, fun _ _ => rfl⟩
        by_cases e : k = j
        · rw [e]; exact hl
        · exact H1 k hk hkn e
      | true =>
        rw [upL_go lt h j h0 hl]
        have hp := par_lt (k := j) (by omega)
        have hjl : j < h.length := by omega
        have hpl : par j < h.length := by omega
        have A := fun k => at_swap h (par j) j k hpl hjl
        refine and_use (ih (par j) hp (swap h (par j) j) n (by rw [swap_len]; exact hn) (by omega) (fun k hk hkn hne => ?_) (fun c hc hcn hpc hpp => ?_)) ?_
        rotate_right
        · rintro ⟨r1, r2, r3⟩
          refine ⟨r1, r2.trans (swap_perm h _ _ hpl hjl), fun k hk => ?_⟩
          rw [r3 k hk, A, if_neg (by omega), if_neg (by omega)]
        · by_cases e : k = j
          · subst e
            rw [A, A, if_pos rfl, if_neg (by omega), if_pos rfl]
            exact O.asym _ _ hl
          · by_cases e2 : par k = par j
            · rw [A, A, e2, if_neg e, if_neg hne, if_neg (by omega), if_pos rfl]
              have k1 := H1 k hk hkn e
              rw [e2] at k1
              exact O.trans _ _ _ (O.asym _ _ hl) k1
            · by_cases e3 : par k = j
              · rw [A, A, if_neg e, if_neg hne, if_pos e3]
                exact H2 k hk hkn e3 (by omega)
              · rw [A, A, if_neg e, if_neg hne, if_neg e3, if_neg e2]
                exact H1 k hk hkn e
        · have hpp2 := par_lt hpp
          have g1 := H1 (par j) hpp (by omega) (by omega)
          rw [A, A, if_neg (show ¬ par (par j) = j by omega), if_neg (show ¬ par (par j) = par j by omega)]
          by_cases e : c = j
          · subst e
            rw [if_pos rfl]
            exact g1
          · have hcp := par_lt hc
            rw [if_neg e, if_neg (by omega)]
            have g2 := H1 c hc hcn e
            rw [hpc] at g2
            exact O.trans _ _ _ g1 g2

/-- The child that may go up. -/
def kid (lt : Int → Int → Bool) (h : List Int) (i n : Nat) : Nat := if 2 * i + 2 < n ∧ lt (at_ h (2 * i + 2)) (at_ h (2 * i + 1)) = true then 2 * i + 2 else 2 * i + 1
theorem kid_gt (lt : Int → Int → Bool) (h : List Int) (i n : Nat) : i < kid lt h i n := by unfold kid; split <;> omega
theorem kid_lt (lt : Int → Int → Bool) (h : List Int) (i n : Nat) (hi : 2 * i + 1 < n) : kid lt h i n < n := by unfold kid; split <;> omega
theorem kid_par (lt : Int → Int → Bool) (h : List Int) (i n : Nat) : par (kid lt h i n) = i := by unfold kid par; split <;> omega
theorem kid_best {lt : Int → Int → Bool} (O : Ord lt) (h : List Int) (i n : Nat) (c : Nat) (hc : 0 < c) (hcn : c < n) (hp : par c = i) : lt (at_ h c) (at_ h (kid lt h i n)) = false := by
  unfold par at hp
  have hcc : c = 2 * i + 1 ∨ c = 2 * i + 2 := by omega
  unfold kid
  split
  · rename_i hk
    rcases hcc with rfl | rfl
    · exact O.asym _ _ hk.2
    · exact O.refl _
  · rename_i hk
    rcases hcc with rfl | rfl
    · exact O.refl _
    · cases hl : lt (at_ h (2 * i + 2)) (at_ h (2 * i + 1)) with
      | false => rfl
      | true => exact absurd ⟨hcn, hl⟩ hk

def downL (lt : Int → Int → Bool) (h : List Int) (i n : Nat) : List Int :=
  if _h0 : 2 * i + 1 < n then (if lt (at_ h (kid lt h i n)) (at_ h i) = true then downL lt (swap h i (kid lt h i n)) (kid lt h i n) n else h) else h
termination_by n - i
decreasing_by have := kid_gt lt h i n; have := kid_lt lt h i n _h0; omega

theorem downL_stop (lt : Int → Int → Bool) (h : List Int) (i n : Nat) (hs : ¬ 2 * i + 1 < n ∨ lt (at_ h (kid lt h i n)) (at_ h i) = false) : downL lt h i n = h := by
  unfold downL
  rcases hs with hs | hs
  · rw [dif_neg hs]
  · split
    · rw [hs]; simp
    · rfl
theorem downL_go (lt : Int → Int → Bool) (h : List Int) (i n : Nat) (h0 : 2 * i + 1 < n) (hs : lt (at_ h (kid lt h i n)) (at_ h i) = true) : downL lt h i n = downL lt (swap h i (kid lt h i n)) (kid lt h i n) n := by
  rw [downL, dif_pos h0, if_pos hs]

theorem down_heap {lt : Int → Int → Bool} (O : Ord lt) : ∀ (m i : Nat) (h : List Int) (n : Nat), m = n - i → n ≤ h.length → (∀ k, 0 < k → k < n → par k ≠ i → lt (at_ h k) (at_ h (par k)) = false) → (∀ c, 0 < c → c < n → par c = i → 0 < i → lt (at_ h c) (at_ h (par i)) = false) →
    Heap lt (downL lt h i n) n ∧ (downL lt h i n).Perm h ∧ ∀ k, n ≤ k → at_ (downL lt h i n) k = at_ h k := by
  intro m
  induction m using Nat.strongRecOn with
  | _ m ih =>
    intro i h n hm hn H1 H2
    by_cases h0 : 2 * i + 1 < n
    · have hk1 := kid_gt lt h i n
      have hk2 := kid_lt lt h i n h0
      have hk3 := kid_par lt h i n
      have hkb := kid_best O h i n
      cases hl : lt (at_ h (kid lt h i n)) (at_ h i) with
      | false =>
        rw [downL_stop lt h i n (.inr hl)]
        refine ⟨fun k hk hkn => ?_, List.Perm.refl _, fun _ _ => rfl⟩
        by_cases e : par k = i
        · rw [e]
          exact O.trans _ _ _ hl (hkb k hk hkn e)
        · exact H1 k hk hkn e
      | true =>
        rw [downL_go lt h i n h0 hl]
        generalize hj : kid lt h i n = j at *
        have hil : i < h.length := by omega
        have hjl : j < h.length := by omega
        have A := fun k => at_swap h i j k hil hjl
        refine and_use (ih (n - j) (by omega) j (swap h i j) n rfl (by rw [swap_len]; exact hn) (fun k hk hkn hne => ?_) (fun c hc hcn hpc hpp => ?_)) ?_
        rotate_right
        · rintro ⟨r1, r2, r3⟩
          refine ⟨r1, r2.trans (swap_perm h _ _ hil hjl), fun k hk => ?_⟩
          rw [r3 k hk, A, if_neg (by omega), if_neg (by omega)]
        · have hpk := par_lt hk
          by_cases e : k = j
          · subst e
            rw [A, A, if_pos rfl, hk3, if_neg (by omega), if_pos rfl]
            exact O.asym _ _ hl
          · by_cases e2 : par k = i
            · rw [A, A, e2, if_neg e, if_neg (by omega), if_neg (by omega), if_pos rfl]
              exact hkb k hk hkn e2
            · by_cases e3 : k = i
              · subst e3
                rw [A, A, if_neg e, if_pos rfl, if_neg hne, if_neg e2]
                exact H2 j (by omega) hk2 hk3 hk
              · rw [A, A, if_neg e, if_neg e3, if_neg hne, if_neg e2]
                exact H1 k hk hkn e2
        · have hcp := par_lt hc
          rw [A, A, if_neg (show ¬ c = j by omega), if_neg (show ¬ c = i by omega), hk3, if_neg (by omega), if_pos rfl]
          have g := H1 c hc hcn (by omega)
          rw [hpc] at g
          exact g
    · rw [downL_stop lt h i n (.inl h0)]
      refine ⟨fun k hk hkn => ?_, List.Perm.refl _, fun _ _ => rfl⟩
      by_cases e : par k = i
      · unfold par at e; omega
      · exact H1 k hk hkn e

def pushL (lt : Int → Int → Bool) (h : List Int) (x : Int) : List Int := upL lt (h ++ [x]) h.length
theorem at_app (h : List Int) (x : Int) (k : Nat) (hk : k < h.length) : at_ (h ++ [x]) k = at_ h k := by
  unfold at_
  simp [List.getD, List.getElem?_append_left hk]
theorem push_heap {lt : Int → Int → Bool} (O : Ord lt) (h : List Int) (x : Int) (H : Heap lt h h.length) : Heap lt (pushL lt h x) (h.length + 1) ∧ (pushL lt h x).Perm (x :: h) := by
  unfold pushL
  refine and_use (up_heap O h.length (h ++ [x]) (h.length + 1) (by simp) (by omega) (fun k hk hkn hne => ?_) (fun c hc hcn hpc hp => ?_)) ?_
  rotate_right
  · rintro ⟨r1, r2, _⟩
    exact ⟨r1, r2.trans (List.perm_append_singleton x h)⟩
  · have := par_lt hk
    rw [at_app _ _ _ (by omega), at_app _ _ _ (by omega)]
    exact H k hk (by omega)
  · have := par_lt hc
    omega

/-- What stays when the first is taken. -/
def popL (lt : Int → Int → Bool) (h : List Int) : List Int := (downL lt (swap h 0 (h.length - 1)) 0 (h.length - 1)).take (h.length - 1)
theorem at_take (h : List Int) (n k : Nat) (hk : k < n) : at_ (h.take n) k = at_ h k := by
  unfold at_
  simp [List.getD, hk]
theorem take_last (h : List Int) (n : Nat) (hn : h.length = n + 1) : h = h.take n ++ [at_ h n] := by
  refine list_ext (by simp [hn]) (fun k hk => ?_)
  by_cases e : k < n
  · rw [at_app _ _ _ (by simp; omega), at_take _ _ _ e]
  · have : k = n := by omega
    subst this
    unfold at_
    have hl : (h.take k).length = k := by simp; omega
    simp [List.getD]
    rw [List.getElem?_append_right (by omega), hl]
    simp
theorem pop_heap {lt : Int → Int → Bool} (O : Ord lt) (h : List Int) (hp : 0 < h.length) (H : Heap lt h h.length) :
    Heap lt (popL lt h) (popL lt h).length ∧ (popL lt h).length = h.length - 1 ∧ (at_ h 0 :: popL lt h).Perm h ∧ at_ (downL lt (swap h 0 (h.length - 1)) 0 (h.length - 1)) (h.length - 1) = at_ h 0 ∧ (downL lt (swap h 0 (h.length - 1)) 0 (h.length - 1)).length = h.length ∧ ∀ x ∈ h, lt x (at_ h 0) = false := by
  have A := fun k => at_swap h 0 (h.length - 1) k hp (by omega)
  refine and_use (down_heap O (h.length - 1 - 0) 0 (swap h 0 (h.length - 1)) (h.length - 1) rfl (by rw [swap_len]; omega) (fun k hk hkn hne => ?_) (fun c _ _ _ h0 => absurd h0 (by omega))) ?_
  rotate_right
  · rintro ⟨r1, r2, r3⟩
    have hlen : (downL lt (swap h 0 (h.length - 1)) 0 (h.length - 1)).length = h.length := by rw [r2.length_eq, swap_len]
    have hl : (popL lt h).length = h.length - 1 := by unfold popL; rw [List.length_take, hlen]; omega
    have hlast : at_ (downL lt (swap h 0 (h.length - 1)) 0 (h.length - 1)) (h.length - 1) = at_ h 0 := by
      rw [r3 _ (Nat.le_refl _), A, if_pos rfl]
    refine ⟨fun k hk hkn => ?_, hl, ?_, hlast, hlen, ?_⟩
    · have := par_lt hk
      rw [hl] at hkn
      unfold popL
      rw [at_take _ _ _ hkn, at_take _ _ _ (by omega)]
      exact r1 k hk hkn
    · have e := take_last (downL lt (swap h 0 (h.length - 1)) 0 (h.length - 1)) (h.length - 1) (by omega)
      rw [hlast] at e
      have p1 : (at_ h 0 :: popL lt h).Perm (popL lt h ++ [at_ h 0]) := (List.perm_append_singleton _ _).symm
      unfold popL at p1 ⊢
      rw [← e] at p1
      exact p1.trans (r2.trans (swap_perm h _ _ hp (by omega)))
    · have hall : ∀ k, k < h.length → lt (at_ h k) (at_ h 0) = false := by
        intro k
        induction k using Nat.strongRecOn with
        | _ k ih =>
          intro hk
          by_cases e : k = 0
          · subst e; exact O.refl _
          · have hpk := par_lt (k := k) (by omega)
            exact O.trans _ _ _ (ih (par k) hpk (by omega)) (H k (by omega) hk)
      intro x hx
      obtain ⟨k, hk, rfl⟩ := List.mem_iff_getElem.1 hx
      rw [← at_get h k hk]
      exact hall k hk
  · have := par_lt hk
    rw [A, A, if_neg (by omega), if_neg (by omega), if_neg (by omega)]
    by_cases e : par k = 0
    · exact absurd e hne
    · rw [if_neg e]
      exact H k hk (by omega)
end Go.Proofs.YtccjclmjoegibaaDoor.Hp
