/- A heap in a list, by a strict order: up, down, push, pop, in plain Lean: no program in sight. The heap of the parts that may be closed next, in memory: Len, Less, ahead, Pop, Push of the program's own type. The heap of the parts that may be closed next, in memory: Swap, Pop, Push; up, down. The heap of the parts that may be closed next, in memory: up, down, Push, Pop of Go's library. Push and Pop of Go's heap, over the parts that may be closed next. Of some places, each behind all that must be ahead of it, of those that may be next the first by a strict order: what counting and a heap give, in plain Lean. -/
import Derived.KernelRfl
import Derived.Test.YtccjclmjoegibaaDoorK
import Derived.Test.YtccjclmjoegibaaDoorQ0
import Derived.Deep.RegionHeld3
import Derived.Deep.RegionLaw
import Derived.Test.YtccjclmjoegibaaDoorWMore
namespace Go.Proofs.YtccjclmjoegibaaDoor.Hp

/-- What a heap needs of its order: 'not behind' is reflexive, transitive; one of two is not behind the other. -/
structure Ord (lt : Int → Int → Bool) : Prop where
 refl : ∀ a, lt a a = false
 asym : ∀ a b, lt a b = true → lt b a = false
 trans : ∀ a b c, lt b a = false → lt c b = false → lt c a = false

def at_ (h : List Int) (k : Nat) : Int := h.getD k 0
def swap (h : List Int) (i j : Nat) : List Int := (h.set i (at_ h j)).set j (at_ h i)
theorem swap_len (h : List Int) (i j : Nat) : (swap h i j).length = h.length := by simp [swap]
theorem at_set (h : List Int) (i : Nat) (x : Int) (k : Nat) (hi : i < h.length) : at_ (h.set i x) k = if k = i then x else at_ h k := by
 unfold at_
 by_cases e : k = i
 ·subst e
  simp [hi]
 ·rw [if_neg e]
  simp [List.getD, List.getElem?_set_ne (Ne.symm e)]
theorem at_swap (h : List Int) (i j k : Nat) (hi : i < h.length) (hj : j < h.length) : at_ (swap h i j) k = if k = j then at_ h i else if k = i then at_ h j else at_ h k := by
 unfold swap
 rw [at_set _ _ _ _ (by simpa using hj), at_set _ _ _ _ hi]

theorem at_get (h : List Int) (k : Nat) (hk : k < h.length) : at_ h k = h[k] := by simp [at_, hk]
theorem list_ext {a b : List Int} (hl : a.length = b.length) (h : ∀ k, k < a.length → at_ a k = at_ b k) : a = b := by
 refine List.ext_getElem hl (fun k h1 h2 => ?_)
 have := h k h1
 rw [at_get _ _ h1, at_get _ _ h2] at this
 exact this

theorem swap_perm (h : List Int) (i j : Nat) (hi : i < h.length) (hj : j < h.length) : (swap h i j).Perm h := by
 rw [List.perm_iff_count]
 intro a
 unfold swap
 rw [at_get h j hj, at_get h i hi]
 by_cases e : i = j
 ·subst e
  simp
 ·rw [List.count_set (by simpa using hj), List.count_set hi]
  rw [List.getElem_set_ne e]
  have c1 : (h[i] == a) = true → 0 < h.count a := fun q => by rw [← beq_iff_eq.1 q]; exact List.count_pos_iff.2 (List.getElem_mem hi)
  have c2 : (h[j] == a) = true → 0 < h.count a := fun q => by rw [← beq_iff_eq.1 q]; exact List.count_pos_iff.2 (List.getElem_mem hj)
  cases e1 : (h[i] == a) <;> cases e2 : (h[j] == a) <;> simp only [e1, e2, if_true, if_false, Bool.false_eq_true] at c1 c2 ⊢ <;> first | omega | (have := c1 trivial; omega) | (have := c2 trivial; omega)

theorem and_use {A B : Prop} (a : A) (f : A → B) : B := f a
/-- The parent. -/
def par (k : Nat) : Nat := (k - 1) / 2
theorem par_lt {k : Nat} (h : 0 < k) : par k < k := by unfold par; omega

def upL (lt : Int → Int → Bool) (h : List Int) (j : Nat) : List Int :=
 if _h0 : j = 0 then h else if lt (at_ h j) (at_ h (par j)) = true then upL lt (swap h (par j) j) (par j) else h
termination_by j
decreasing_by exact par_lt (by omega)

theorem upL_stop (lt : Int → Int → Bool) (h : List Int) (j : Nat) (hs : j = 0 ∨ lt (at_ h j) (at_ h (par j)) = false) : upL lt h j = h := by
 unfold upL
 rcases hs with rfl | hs
 ·simp
 ·split
  ·rfl
  ·rw [hs]; simp
theorem upL_go (lt : Int → Int → Bool) (h : List Int) (j : Nat) (h0 : j ≠ 0) (hs : lt (at_ h j) (at_ h (par j)) = true) : upL lt h j = upL lt (swap h (par j) j) (par j) := by
 rw [upL, dif_neg h0, if_pos hs]

/-- A heap on its first n places. -/
def Heap (lt : Int → Int → Bool) (h : List Int) (n : Nat) : Prop := ∀ k, 0 < k → k < n → lt (at_ h k) (at_ h (par k)) = false

theorem up_heap {lt : Int → Int → Bool} (O : Ord lt) : ∀ (j : Nat) (h : List Int) (n : Nat), n ≤ h.length → j < n → (∀ k, 0 < k → k < n → k ≠ j → lt (at_ h k) (at_ h (par k)) = false) → (∀ c, 0 < c → c < n → par c = j → 0 < j → lt (at_ h c) (at_ h (par j)) = false) →
  Heap lt (upL lt h j) n ∧ (upL lt h j).Perm h ∧ ∀ k, n ≤ k → at_ (upL lt h j) k = at_ h k := by
 intro j
 induction j using Nat.strongRecOn with
 | _ j ih =>
  intro h n hn hj H1 H2
  by_cases h0 : j = 0
  ·subst h0
   rw [upL_stop lt h 0 (.inl rfl)]
   exact ⟨fun k hk hkn => H1 k hk hkn (by omega), List.Perm.refl _, fun _ _ => rfl⟩
  ·cases hl : lt (at_ h j) (at_ h (par j)) with
   | false =>
    rw [upL_stop lt h j (.inr hl)]
    refine ⟨fun k hk hkn => ?_, List.Perm.refl _, fun _ _ => rfl⟩
    by_cases e : k = j
    ·rw [e]; exact hl
    ·exact H1 k hk hkn e
   | true =>
    rw [upL_go lt h j h0 hl]
    have hp := par_lt (k := j) (by omega)
    have hjl : j < h.length := by omega
    have hpl : par j < h.length := by omega
    have A := fun k => at_swap h (par j) j k hpl hjl
    refine and_use (ih (par j) hp (swap h (par j) j) n (by rw [swap_len]; exact hn) (by omega) (fun k hk hkn hne => ?_) (fun c hc hcn hpc hpp => ?_)) ?_
    rotate_right
    ·rintro ⟨r1, r2, r3⟩
     refine ⟨r1, r2.trans (swap_perm h _ _ hpl hjl), fun k hk => ?_⟩
     rw [r3 k hk, A, if_neg (by omega), if_neg (by omega)]
    ·by_cases e : k = j
     ·subst e
      rw [A, A, if_pos rfl, if_neg (by omega), if_pos rfl]
      exact O.asym _ _ hl
     ·by_cases e2 : par k = par j
      ·rw [A, A, e2, if_neg e, if_neg hne, if_neg (by omega), if_pos rfl]
       have k1 := H1 k hk hkn e
       rw [e2] at k1
       exact O.trans _ _ _ (O.asym _ _ hl) k1
      ·by_cases e3 : par k = j
       ·rw [A, A, if_neg e, if_neg hne, if_pos e3]
        exact H2 k hk hkn e3 (by omega)
       ·rw [A, A, if_neg e, if_neg hne, if_neg e3, if_neg e2]
        exact H1 k hk hkn e
    ·have hpp2 := par_lt hpp
     have g1 := H1 (par j) hpp (by omega) (by omega)
     rw [A, A, if_neg (show ¬ par (par j) = j by omega), if_neg (show ¬ par (par j) = par j by omega)]
     by_cases e : c = j
     ·subst e
      rw [if_pos rfl]
      exact g1
     ·have hcp := par_lt hc
      rw [if_neg e, if_neg (by omega)]
      have g2 := H1 c hc hcn e
      rw [hpc] at g2
      exact O.trans _ _ _ g1 g2

/-- The child that may go up. -/
def kid (lt : Int → Int → Bool) (h : List Int) (i n : Nat) : Nat := if 2 * i + 2 < n ∧ lt (at_ h (2 * i + 2)) (at_ h (2 * i + 1)) = true then 2 * i + 2 else 2 * i + 1
theorem kid_gt (lt : Int → Int → Bool) (h : List Int) (i n : Nat) : i < kid lt h i n := by unfold kid; split <;> omega
theorem kid_lt (lt : Int → Int → Bool) (h : List Int) (i n : Nat) (hi : 2 * i + 1 < n) : kid lt h i n < n := by unfold kid; split <;> omega
theorem kid_par (lt : Int → Int → Bool) (h : List Int) (i n : Nat) : par (kid lt h i n) = i := by unfold kid par; split <;> omega
theorem kid_best {lt : Int → Int → Bool} (O : Ord lt) (h : List Int) (i n : Nat) (c : Nat) (hc : 0 < c) (hcn : c < n) (hp : par c = i) : lt (at_ h c) (at_ h (kid lt h i n)) = false := by
 unfold par at hp
 have hcc : c = 2 * i + 1 ∨ c = 2 * i + 2 := by omega
 unfold kid
 split
 ·rename_i hk
  rcases hcc with rfl | rfl
  ·exact O.asym _ _ hk.2
  ·exact O.refl _
 ·rename_i hk
  rcases hcc with rfl | rfl
  ·exact O.refl _
  ·cases hl : lt (at_ h (2 * i + 2)) (at_ h (2 * i + 1)) with
   | false => rfl
   | true => exact absurd ⟨hcn, hl⟩ hk

def downL (lt : Int → Int → Bool) (h : List Int) (i n : Nat) : List Int :=
 if _h0 : 2 * i + 1 < n then (if lt (at_ h (kid lt h i n)) (at_ h i) = true then downL lt (swap h i (kid lt h i n)) (kid lt h i n) n else h) else h
termination_by n - i
decreasing_by have := kid_gt lt h i n; have := kid_lt lt h i n _h0; omega

theorem downL_stop (lt : Int → Int → Bool) (h : List Int) (i n : Nat) (hs : ¬ 2 * i + 1 < n ∨ lt (at_ h (kid lt h i n)) (at_ h i) = false) : downL lt h i n = h := by
 unfold downL
 rcases hs with hs | hs
 ·rw [dif_neg hs]
 ·split
  ·rw [hs]; simp
  ·rfl
theorem downL_go (lt : Int → Int → Bool) (h : List Int) (i n : Nat) (h0 : 2 * i + 1 < n) (hs : lt (at_ h (kid lt h i n)) (at_ h i) = true) : downL lt h i n = downL lt (swap h i (kid lt h i n)) (kid lt h i n) n := by
 rw [downL, dif_pos h0, if_pos hs]

theorem down_heap {lt : Int → Int → Bool} (O : Ord lt) : ∀ (m i : Nat) (h : List Int) (n : Nat), m = n - i → n ≤ h.length → (∀ k, 0 < k → k < n → par k ≠ i → lt (at_ h k) (at_ h (par k)) = false) → (∀ c, 0 < c → c < n → par c = i → 0 < i → lt (at_ h c) (at_ h (par i)) = false) →
  Heap lt (downL lt h i n) n ∧ (downL lt h i n).Perm h ∧ ∀ k, n ≤ k → at_ (downL lt h i n) k = at_ h k := by
 intro m
 induction m using Nat.strongRecOn with
 | _ m ih =>
  intro i h n hm hn H1 H2
  by_cases h0 : 2 * i + 1 < n
  ·have hk1 := kid_gt lt h i n
   have hk2 := kid_lt lt h i n h0
   have hk3 := kid_par lt h i n
   have hkb := kid_best O h i n
   cases hl : lt (at_ h (kid lt h i n)) (at_ h i) with
   | false =>
    rw [downL_stop lt h i n (.inr hl)]
    refine ⟨fun k hk hkn => ?_, List.Perm.refl _, fun _ _ => rfl⟩
    by_cases e : par k = i
    ·rw [e]
     exact O.trans _ _ _ hl (hkb k hk hkn e)
    ·exact H1 k hk hkn e
   | true =>
    rw [downL_go lt h i n h0 hl]
    generalize hj : kid lt h i n = j at *
    have hil : i < h.length := by omega
    have hjl : j < h.length := by omega
    have A := fun k => at_swap h i j k hil hjl
    refine and_use (ih (n - j) (by omega) j (swap h i j) n rfl (by rw [swap_len]; exact hn) (fun k hk hkn hne => ?_) (fun c hc hcn hpc hpp => ?_)) ?_
    rotate_right
    ·rintro ⟨r1, r2, r3⟩
     refine ⟨r1, r2.trans (swap_perm h _ _ hil hjl), fun k hk => ?_⟩
     rw [r3 k hk, A, if_neg (by omega), if_neg (by omega)]
    ·have hpk := par_lt hk
     by_cases e : k = j
     ·subst e
      rw [A, A, if_pos rfl, hk3, if_neg (by omega), if_pos rfl]
      exact O.asym _ _ hl
     ·by_cases e2 : par k = i
      ·rw [A, A, e2, if_neg e, if_neg (by omega), if_neg (by omega), if_pos rfl]
       exact hkb k hk hkn e2
      ·by_cases e3 : k = i
       ·subst e3
        rw [A, A, if_neg e, if_pos rfl, if_neg hne, if_neg e2]
        exact H2 j (by omega) hk2 hk3 hk
       ·rw [A, A, if_neg e, if_neg e3, if_neg hne, if_neg e2]
        exact H1 k hk hkn e2
    ·have hcp := par_lt hc
     rw [A, A, if_neg (show ¬ c = j by omega), if_neg (show ¬ c = i by omega), hk3, if_neg (by omega), if_pos rfl]
     have g := H1 c hc hcn (by omega)
     rw [hpc] at g
     exact g
  ·rw [downL_stop lt h i n (.inl h0)]
   refine ⟨fun k hk hkn => ?_, List.Perm.refl _, fun _ _ => rfl⟩
   by_cases e : par k = i
   ·unfold par at e; omega
   ·exact H1 k hk hkn e

def pushL (lt : Int → Int → Bool) (h : List Int) (x : Int) : List Int := upL lt (h ++ [x]) h.length
theorem at_app (h : List Int) (x : Int) (k : Nat) (hk : k < h.length) : at_ (h ++ [x]) k = at_ h k := by
 unfold at_
 simp [List.getD, List.getElem?_append_left hk]
theorem push_heap {lt : Int → Int → Bool} (O : Ord lt) (h : List Int) (x : Int) (H : Heap lt h h.length) : Heap lt (pushL lt h x) (h.length + 1) ∧ (pushL lt h x).Perm (x :: h) := by
 unfold pushL
 refine and_use (up_heap O h.length (h ++ [x]) (h.length + 1) (by simp) (by omega) (fun k hk hkn hne => ?_) (fun c hc hcn hpc hp => ?_)) ?_
 rotate_right
 ·rintro ⟨r1, r2, _⟩
  exact ⟨r1, r2.trans (List.perm_append_singleton x h)⟩
 ·have := par_lt hk
  rw [at_app _ _ _ (by omega), at_app _ _ _ (by omega)]
  exact H k hk (by omega)
 ·have := par_lt hc
  omega

/-- What stays when the first is taken. -/
def popL (lt : Int → Int → Bool) (h : List Int) : List Int := (downL lt (swap h 0 (h.length - 1)) 0 (h.length - 1)).take (h.length - 1)
theorem at_take (h : List Int) (n k : Nat) (hk : k < n) : at_ (h.take n) k = at_ h k := by
 unfold at_
 simp [List.getD, hk]
theorem take_last (h : List Int) (n : Nat) (hn : h.length = n + 1) : h = h.take n ++ [at_ h n] := by
 refine list_ext (by simp [hn]) (fun k hk => ?_)
 by_cases e : k < n
 ·rw [at_app _ _ _ (by simp; omega), at_take _ _ _ e]
 ·have : k = n := by omega
  subst this
  unfold at_
  have hl : (h.take k).length = k := by simp; omega
  simp [List.getD]
  rw [List.getElem?_append_right (by omega), hl]
  simp
theorem pop_heap {lt : Int → Int → Bool} (O : Ord lt) (h : List Int) (hp : 0 < h.length) (H : Heap lt h h.length) :
  Heap lt (popL lt h) (popL lt h).length ∧ (popL lt h).length = h.length - 1 ∧ (at_ h 0 :: popL lt h).Perm h ∧ at_ (downL lt (swap h 0 (h.length - 1)) 0 (h.length - 1)) (h.length - 1) = at_ h 0 ∧ (downL lt (swap h 0 (h.length - 1)) 0 (h.length - 1)).length = h.length ∧ ∀ x ∈ h, lt x (at_ h 0) = false := by
 have A := fun k => at_swap h 0 (h.length - 1) k hp (by omega)
 refine and_use (down_heap O (h.length - 1 - 0) 0 (swap h 0 (h.length - 1)) (h.length - 1) rfl (by rw [swap_len]; omega) (fun k hk hkn hne => ?_) (fun c _ _ _ h0 => absurd h0 (by omega))) ?_
 rotate_right
 ·rintro ⟨r1, r2, r3⟩
  have hlen : (downL lt (swap h 0 (h.length - 1)) 0 (h.length - 1)).length = h.length := by rw [r2.length_eq, swap_len]
  have hl : (popL lt h).length = h.length - 1 := by unfold popL; rw [List.length_take, hlen]; omega
  have hlast : at_ (downL lt (swap h 0 (h.length - 1)) 0 (h.length - 1)) (h.length - 1) = at_ h 0 := by
   rw [r3 _ (Nat.le_refl _), A, if_pos rfl]
  refine ⟨fun k hk hkn => ?_, hl, ?_, hlast, hlen, ?_⟩
  ·have := par_lt hk
   rw [hl] at hkn
   unfold popL
   rw [at_take _ _ _ hkn, at_take _ _ _ (by omega)]
   exact r1 k hk hkn
  ·have e := take_last (downL lt (swap h 0 (h.length - 1)) 0 (h.length - 1)) (h.length - 1) (by omega)
   rw [hlast] at e
   have p1 : (at_ h 0 :: popL lt h).Perm (popL lt h ++ [at_ h 0]) := (List.perm_append_singleton _ _).symm
   unfold popL at p1 ⊢
   rw [← e] at p1
   exact p1.trans (r2.trans (swap_perm h _ _ hp (by omega)))
  ·have hall : ∀ k, k < h.length → lt (at_ h k) (at_ h 0) = false := by
    intro k
    induction k using Nat.strongRecOn with
    | _ k ih =>
     intro hk
     by_cases e : k = 0
     ·subst e; exact O.refl _
     ·have hpk := par_lt (k := k) (by omega)
      exact O.trans _ _ _ (ih (par k) hpk (by omega)) (H k (by omega) hk)
   intro x hx
   obtain ⟨k, hk, rfl⟩ := List.mem_iff_getElem.1 hx
   rw [← at_get h k hk]
   exact hall k hk
 ·have := par_lt hk
  rw [A, A, if_neg (by omega), if_neg (by omega), if_neg (by omega)]
  by_cases e : par k = 0
  ·exact absurd e hne
  ·rw [if_neg e]
   exact H k hk (by omega)
end Go.Proofs.YtccjclmjoegibaaDoor.Hp
namespace Go.Proofs.YtccjclmjoegibaaDoor.Ce
open Go.RowKit Go.Maps Go.Proofs.YtccjclmjoegibaaDoor Go.Proofs.YtccjclmjoegibaaDoorW.PrintWords Go.Proofs.YtccjclmjoegibaaDoorW.PrintLast Go.Proofs.YtccjclmjoegibaaDoorW.PrintMore PCloserOrders Hp
attribute [local go_sem] max2_int min2_int max_two min_two max_three min_three max_four min_four
set_option linter.unusedVariables false
set_option linter.unusedSimpArgs false

/-- Which of two parts ended last; of two of the same end the later place. -/
def aheadB (l : List S33) (a b : Int) : Bool := if (rd_T33 l a).f3 = (rd_T33 l b).f3 then decide (a > b) else decide ((rd_T33 l a).f3 > (rd_T33 l b).f3)
theorem ahead_true (l : List S33) (a b : Int) : aheadB l a b = true ↔ (rd_T33 l a).f3 > (rd_T33 l b).f3 ∨ (rd_T33 l a).f3 = (rd_T33 l b).f3 ∧ a > b := by
 unfold aheadB
 by_cases h : (rd_T33 l a).f3 = (rd_T33 l b).f3
 ·rw [if_pos h, decide_eq_true_iff]; omega
 ·rw [if_neg h, decide_eq_true_iff]; omega
theorem ahead_false (l : List S33) (a b : Int) : aheadB l a b = false ↔ ¬ ((rd_T33 l a).f3 > (rd_T33 l b).f3 ∨ (rd_T33 l a).f3 = (rd_T33 l b).f3 ∧ a > b) := by rw [← ahead_true, Bool.not_eq_true]
theorem ahead_ord (l : List S33) : Ord (aheadB l) := by
 refine ⟨fun a => ?_, fun a b => ?_, fun a b c => ?_⟩ <;> simp only [ahead_true, ahead_false] <;> omega

theorem ahead_is (w : World) (A : Option Addr) (c : Nat) (l : List S33) (a b : Int) (hr : Kd.C k33 w A l.length l) (a0 : 0 ≤ a) (a1 : a < l.length) (b0 : 0 ≤ b) (b1 : b < l.length) :
  Calls Tryd.prog 51 #[.slice A l.length c, .int .i64 a, .int .i64 b] w fun e w' => e = .returned (.bool (aheadB l a b)) ∧ Drawn0 w w' := by
 obtain ⟨ad, A4, c4, rfl, -, -, -, ha, -⟩ := at_T33 hr a a0 a1
 obtain ⟨ad', B4, d4, e, -, -, -, hb, -⟩ := at_T33 hr b b0 b1
 obtain rfl : ad = ad' := by injection e
 clear e hr
 unfold aheadB
 by_cases h : (rd_T33 l a).f3 = (rd_T33 l b).f3
 ·rw [if_pos h]
  rw [h] at ha
  generalize (rd_T33 l b).f3 = eb at *
  clear h
  go_enter Tryd.func51, Tryd.ntmps51
  go_wp2_with fail
  go_quiet (fail)
  go_wp2_with fail
  go_ret
  exact ⟨rfl, ⟨_, rfl⟩⟩
 ·rw [if_neg h]
  generalize (rd_T33 l b).f3 = eb at *
  generalize (rd_T33 l a).f3 = ea at *
  have hne : (ea != eb) = true := by simpa using h
  clear h
  go_enter Tryd.func51, Tryd.ntmps51
  go_wp2_with fail
  go_quiet (fail)
  go_wp2_with fail
  go_quiet (fail)
  go_wp2_with fail
  go_ret
  exact ⟨rfl, ⟨_, World.drewN_drewN ..⟩⟩

/-- The parts and the heap of places in memory. -/
def nextV (v : Value) (A : Option Addr) (n c : Nat) : Array Value := #[v, .func (.func 51) #[.slice A n c] #[]]
structure HS (w0 w : World) (hb : Nat) (ok : Nat → Prop) (A : Option Addr) (c : Nat) (l : List S33) (v : Value) (h : List Int) : Prop where
 blk : w.heap[hb]? = some (.cells (nextV v A l.length c) 76 (0, 0))
 row : Kd.R (Kd.int .i64) 3 w w0.heap.size ok v h
 bel : Below w0.heap.size w0 w
 hb : w0.heap.size ≤ hb
 parts : Kd.C k33 w0 A l.length l
 rng : ∀ x ∈ h, 0 ≤ x ∧ x < l.length
theorem HS.below {w0 w w' : World} {hb : Nat} {ok : Nat → Prop} {A : Option Addr} {c : Nat} {l : List S33} {v : Value} {h : List Int} (H : HS w0 w hb ok A c l v h) (hc : Below w.heap.size w w') : HS w0 w' hb ok A c l v h :=
 ⟨blk_below H.blk hc, Kd.R_below H.row hc, below_step H.bel hc, H.hb, H.parts, H.rng⟩
theorem HS.form {w0 w : World} {hb : Nat} {ok : Nat → Prop} {A : Option Addr} {c : Nat} {l : List S33} {v : Value} {h : List Int} (H : HS w0 w hb ok A c l v h) (hp : 0 < h.length) :
  ∃ g cap, v = .slice (some ⟨g, 0, none⟩) h.length cap ∧ w0.heap.size ≤ g ∧ ok g ∧ (∀ i : Nat, i < h.length → w.cell? ⟨g, i, none⟩ = some (.int .i64 (at_ h i)) ∧ w.frozen? ⟨g, i, none⟩ = false) := by
 have hr := H.row
 obtain ⟨g, cap, e, h1, h2, _⟩ := Kd.R_form hr hp
 subst e
 refine ⟨g, cap, rfl, h1, hr.1 g rfl, fun i hi => ?_⟩
 have := Kd.R_celln (0 : Int) hr (i : Int) (by omega) (by omega)
 exact this
theorem HS.cells {w0 w : World} {hb : Nat} {ok : Nat → Prop} {A : Option Addr} {c : Nat} {l : List S33} {v : Value} {h : List Int} (H : HS w0 w hb ok A c l v h) :
  w.cell? ⟨hb, 0, none⟩ = some v ∧ w.cell? ⟨hb, 1, none⟩ = some (.func (.func 51) #[.slice A l.length c] #[]) ∧ w.frozen? ⟨hb, 0, none⟩ = false :=
 ⟨(blk_cell H.blk 0).trans rfl, (blk_cell H.blk 1).trans rfl, blk_frozen H.blk 0⟩
theorem HS.slice {w0 w : World} {hb : Nat} {ok : Nat → Prop} {A : Option Addr} {c : Nat} {l : List S33} {v : Value} {h : List Int} (H : HS w0 w hb ok A c l v h) : ∃ B d, v = .slice B h.length d := Kd.R_slice H.row
theorem HS.at_rng {w0 w : World} {hb : Nat} {ok : Nat → Prop} {A : Option Addr} {c : Nat} {l : List S33} {v : Value} {h : List Int} (H : HS w0 w hb ok A c l v h) (i : Nat) (hi : i < h.length) : 0 ≤ at_ h i ∧ at_ h i < l.length :=
 H.rng _ (by rw [at_get h i hi]; exact List.getElem_mem hi)

theorem len_is (w0 w : World) (hb : Nat) (ok : Nat → Prop) (A : Option Addr) (c : Nat) (l : List S33) (v : Value) (h : List Int) (H : HS w0 w hb ok A c l v h) :
  Calls Tryd.prog 53 #[.pointer (some ⟨hb, 0, none⟩)] w fun e w' => e = .returned (.int .i64 h.length) ∧ w' = w := by
 obtain ⟨B, d, rfl⟩ := H.slice
 obtain ⟨q0, q1, q2⟩ := H.cells
 clear H
 go_enter Tryd.func53, Tryd.ntmps53
 go_wp2_with fail
 go_ret
 exact ⟨rfl, rfl⟩

theorem less_is (w0 w : World) (hb : Nat) (ok : Nat → Prop) (A : Option Addr) (c : Nat) (l : List S33) (v : Value) (h : List Int) (i j : Nat) (H : HS w0 w hb ok A c l v h) (hi : i < h.length) (hj : j < h.length) :
  Calls Tryd.prog 97 #[.pointer (some ⟨hb, 0, none⟩), .int .i64 i, .int .i64 j] w fun e w' => e = .returned (.bool (aheadB l (at_ h i) (at_ h j))) ∧ Drawn0 w w' := by
 obtain ⟨g, cap, rfl, hg, -, hx⟩ := H.form (by omega)
 obtain ⟨q0, q1, q2⟩ := H.cells
 obtain ⟨x0, -⟩ := hx i hi
 obtain ⟨y0, -⟩ := hx j hj
 have HP := Lib.hid (fun n => ahead_is (w.drewN n) A c l (at_ h i) (at_ h j) (Kd.C_below H.parts (H.bel.trans (pw_below_drewN (Below.refl _ _) n))) (H.at_rng i hi).1 (H.at_rng i hi).2 (H.at_rng j hj).1 (H.at_rng j hj).2)
 have i0 : (0 : Int) ≤ (i : Int) := by omega
 have i1 : (i : Int) < (h.length : Int) := by omega
 have j0 : (0 : Int) ≤ (j : Int) := by omega
 have j1 : (j : Int) < (h.length : Int) := by omega
 generalize at_ h i = x at *
 generalize at_ h j = y at *
 generalize h.length = n at *
 clear H hx hi hj
 go_enter Tryd.func97, Tryd.ntmps97
 go_wp2_with fail
 trace_state
 go_region_held3 (fun w' => w'.cell? ⟨hb, 0, none⟩ = some (.slice (some ⟨g, 0, none⟩) n cap) ∧ w'.cell? ⟨hb, 1, none⟩ = some (.func (.func 51) #[.slice A l.length c] #[]) ∧ w'.cell? ⟨g, i, none⟩ = some (.int .i64 x) ∧ w'.cell? ⟨g, j, none⟩ = some (.int .i64 y)) (first | exact ⟨q0, q1, x0, y0⟩ | fail) (first | (go_at_call 51; refine (HP.out 1).mono ?_; rintro _ w9 ⟨rfl, ⟨m, rfl⟩⟩) | fail)
 trace_state
 go_wp2_with fail
 go_ret
 exact ⟨rfl, ⟨_, rfl⟩⟩
end Go.Proofs.YtccjclmjoegibaaDoor.Ce
namespace Go.Proofs.YtccjclmjoegibaaDoor.Ce
open Go.RowKit Go.Maps Go.Proofs.YtccjclmjoegibaaDoor Go.Proofs.YtccjclmjoegibaaDoorW.PrintWords Go.Proofs.YtccjclmjoegibaaDoorW.PrintLast Go.Proofs.YtccjclmjoegibaaDoorW.PrintMore PCloserOrders Hp
attribute [local go_sem] max2_int min2_int max_two min_two max_three min_three max_four min_four
set_option linter.unusedVariables false
set_option linter.unusedSimpArgs false
theorem HS.swapped {w0 w : World} {hb : Nat} {ok : Nat → Prop} {A : Option Addr} {c g cap : Nat} {l : List S33} {h : List Int} (H : HS w0 w hb ok A c l (.slice (some ⟨g, 0, none⟩) h.length cap) h) (i j : Nat) (hi : i < h.length) (hj : j < h.length) :
  HS w0 ((w.setCell ⟨g, i, none⟩ (.int .i64 (at_ h j))).setCell ⟨g, j, none⟩ (.int .i64 (at_ h i))) hb ok A c l (.slice (some ⟨g, 0, none⟩) h.length cap) (swap h i j) ∧ Chg ok w ((w.setCell ⟨g, i, none⟩ (.int .i64 (at_ h j))).setCell ⟨g, j, none⟩ (.int .i64 (at_ h i))) := by
 have hok : ok g := H.row.1 g rfl
 have hg : w0.heap.size ≤ g := by
  obtain ⟨g', cap', e, h1, _⟩ := Kd.R_form H.row (by omega)
  injection e with e _ _
  injection e with e
  injection e with e _ _
  omega
 have hc : Chg ok w ((w.setCell ⟨g, i, none⟩ (.int .i64 (at_ h j))).setCell ⟨g, j, none⟩ (.int .i64 (at_ h i))) := ((Chg.refl ok w).setCell (p := ⟨g, i, none⟩) hok _).setCell (p := ⟨g, j, none⟩) hok _
 have hcg : Chg (· = g) w ((w.setCell ⟨g, i, none⟩ (.int .i64 (at_ h j))).setCell ⟨g, j, none⟩ (.int .i64 (at_ h i))) := ((Chg.refl (· = g) w).setCell (p := ⟨g, i, none⟩) rfl _).setCell (p := ⟨g, j, none⟩) rfl _
 have hne : hb ≠ g := fun e => by
  obtain ⟨cs, hcs⟩ := Kd.R_typed H.row g rfl
  rw [← e, H.blk] at hcs
  injection hcs with hcs
  injection hcs with _ h2 _
  exact absurd h2 (by decide)
 have r1 := Kd.R_putn (xs := h) (n := h.length) (cap := cap) (g := g) H.row (i : Int) (at_ h j)
 have r2 := Kd.R_putn r1 (j : Int) (at_ h i)
 refine ⟨⟨blk_chg H.blk hcg hne, r2, Chg.below H.bel hcg (fun k e => by omega) H.bel.size, H.hb, H.parts, fun x hx => ?_⟩, hc⟩
 exact H.rng x ((swap_perm h i j hi hj).mem_iff.1 hx)
set_option maxHeartbeats 4000000 in
set_option maxRecDepth 100000 in
theorem swap_is (w0 w : World) (hb : Nat) (ok : Nat → Prop) (A : Option Addr) (c : Nat) (l : List S33) (v : Value) (h : List Int) (i j : Nat) (H : HS w0 w hb ok A c l v h) (hi : i < h.length) (hj : j < h.length) :
  Calls Tryd.prog 100 #[.pointer (some ⟨hb, 0, none⟩), .int .i64 i, .int .i64 j] w fun e w' => e = .returned (.tuple #[]) ∧ HS w0 w' hb ok A c l v (swap h i j) ∧ Chg ok w w' := by
 have H2 := Lib.hid (H.below (Below.refl w.heap.size w).drew)
 obtain ⟨g, cap, rfl, hg, -, hx⟩ := H.form (by omega)
 obtain ⟨q0, q1, q2⟩ := H.cells
 obtain ⟨x0, fx⟩ := hx i hi
 obtain ⟨y0, fy⟩ := hx j hj
 have HQ := Lib.hid (H2.out.swapped i j hi hj)
 have HZ := Lib.hid (show ∃ z, (w.setCell ⟨g, i, none⟩ (.int .i64 (at_ h j))).cell? ⟨g, j, none⟩ = some (.int .i64 z) from ⟨_, (Kd.R_celln (0 : Int) (Kd.R_putn H.row (i : Int) (at_ h j)) (j : Int) (by omega) (by omega)).1⟩)
 have i0 : (0 : Int) ≤ (i : Int) := by omega
 have i1 : (i : Int) < (h.length : Int) := by omega
 have j0 : (0 : Int) ≤ (j : Int) := by omega
 have j1 : (j : Int) < (h.length : Int) := by omega
 obtain ⟨s2, hs2⟩ : ∃ s, s = swap h i j := ⟨_, rfl⟩
 rw [← hs2] at HQ ⊢
 clear hs2
 obtain ⟨x, ex⟩ : ∃ x, x = at_ h i := ⟨_, rfl⟩
 obtain ⟨y, ey⟩ : ∃ y, y = at_ h j := ⟨_, rfl⟩
 rw [← ex] at x0 HQ
 rw [← ey] at y0 HQ HZ
 clear ex ey
 obtain ⟨z, z0⟩ := HZ.out
 clear HZ
 generalize h.length = n at *
 clear H hx hi hj H2
 go_enter Tryd.func100, Tryd.ntmps100
 go_wp2_with fail
 refine start_ (n := 28) (S := (fun w' => w'.cell? ⟨hb, 0, none⟩ = some (.slice (some ⟨g, 0, none⟩) n cap) ∧ w'.cell? ⟨g, i, none⟩ = some (.int .i64 x) ∧ w'.cell? ⟨g, j, none⟩ = some (.int .i64 y))) (ds := [25, 27]) #[false, false, false, false, false, false, false, false, false, false, false, false, false, false, false, false, false, false, false, false, false, false, false, false, false, false, false, false] (by kernel_rfl) rfl rfl ⟨q0, x0, y0⟩ (fun hHeld => ?_)
 refine pure_ (i := 0) (N := some 6) (v := ?_) (a' := ?_) #[true, false, false, false, false, false, false, false, false, false, false, false, false, false, false, false, false, false, false, false, false, false, false, false, false, false, false, false] rfl rfl (by kernel_rfl) (fun _ _ _ h => h) (Or.inl ⟨by rfl, ?_⟩) ?_ ?_
 rotate_left
 ·intro w'
  go_simp
  try with_reducible rfl
 rotate_left
 ·simp only [Act.put, List.setIfInBounds_toArray, List.set_cons_zero, List.set_cons_succ]
  rfl
 refine pure_ (i := 1) (N := some 7) (v := ?_) (a' := ?_) #[true, true, false, false, false, false, false, false, false, false, false, false, false, false, false, false, false, false, false, false, false, false, false, false, false, false, false, false] rfl rfl (by kernel_rfl) (fun _ _ _ h => h) (Or.inl ⟨by rfl, ?_⟩) ?_ ?_
 rotate_left
 ·intro w'
  go_simp
  try with_reducible rfl
 rotate_left
 ·simp only [Act.put, List.setIfInBounds_toArray, List.set_cons_zero, List.set_cons_succ]
  rfl
 refine pure_ (i := 2) (N := some 8) (v := ?_) (a' := ?_) #[true, true, true, false, false, false, false, false, false, false, false, false, false, false, false, false, false, false, false, false, false, false, false, false, false, false, false, false] rfl rfl (by kernel_rfl) (fun _ _ _ h => h) (Or.inl ⟨by rfl, ?_⟩) ?_ ?_
 rotate_left
 ·intro w'
  go_simp
  try with_reducible rfl
 rotate_left
 ·simp only [Act.put, List.setIfInBounds_toArray, List.set_cons_zero, List.set_cons_succ]
  rfl
 refine take_ (i := 3) (N := some 9) (v := ?_) (a' := ?_) #[true, true, true, true, false, false, false, false, false, false, false, false, false, false, false, false, false, false, false, false, false, false, false, false, false, false, false, false] rfl rfl (by kernel_rfl) (fun _ _ _ h => h) (Or.inl ⟨by rfl, ?_⟩) hHeld ?_ ?_
 rotate_left
 ·rintro w' ⟨s0, s1, s2⟩
  go_simp
  try with_reducible rfl
 rotate_left
 ·simp only [Act.put, List.setIfInBounds_toArray, List.set_cons_zero, List.set_cons_succ]
  rfl
 refine pure_ (i := 4) (N := some 10) (v := ?_) (a' := ?_) #[true, true, true, true, true, false, false, false, false, false, false, false, false, false, false, false, false, false, false, false, false, false, false, false, false, false, false, false] rfl rfl (by kernel_rfl) (fun _ _ _ h => h) (Or.inl ⟨by rfl, ?_⟩) ?_ ?_
 rotate_left
 ·intro w'
  go_simp
  try with_reducible rfl
 rotate_left
 ·simp only [Act.put, List.setIfInBounds_toArray, List.set_cons_zero, List.set_cons_succ]
  rfl
 refine pure_ (i := 5) (N := some 11) (v := ?_) (a' := ?_) #[true, true, true, true, true, true, false, false, false, false, false, false, false, false, false, false, false, false, false, false, false, false, false, false, false, false, false, false] rfl rfl (by kernel_rfl) (fun _ _ _ h => h) (Or.inl ⟨by rfl, ?_⟩) ?_ ?_
 rotate_left
 ·intro w'
  go_simp
  try with_reducible rfl
 rotate_left
 ·simp only [Act.put, List.setIfInBounds_toArray, List.set_cons_zero, List.set_cons_succ]
  rfl
 refine pure_ (i := 6) (N := some 12) (v := ?_) (a' := ?_) #[true, true, true, true, true, true, true, false, false, false, false, false, false, false, false, false, false, false, false, false, false, false, false, false, false, false, false, false] rfl rfl (by kernel_rfl) (fun _ _ _ h => h) (Or.inl ⟨by rfl, ?_⟩) ?_ ?_
 rotate_left
 ·intro w'
  go_simp
  try with_reducible rfl
 rotate_left
 ·simp only [Act.put, List.setIfInBounds_toArray, List.set_cons_zero, List.set_cons_succ]
  rfl
 refine pure_ (i := 7) (N := some 13) (v := ?_) (a' := ?_) #[true, true, true, true, true, true, true, true, false, false, false, false, false, false, false, false, false, false, false, false, false, false, false, false, false, false, false, false] rfl rfl (by kernel_rfl) (fun _ _ _ h => h) (Or.inl ⟨by rfl, ?_⟩) ?_ ?_
 rotate_left
 ·intro w'
  go_simp
  try with_reducible rfl
 rotate_left
 ·simp only [Act.put, List.setIfInBounds_toArray, List.set_cons_zero, List.set_cons_succ]
  rfl
 refine take_ (i := 8) (N := some 14) (v := ?_) (a' := ?_) #[true, true, true, true, true, true, true, true, true, false, false, false, false, false, false, false, false, false, false, false, false, false, false, false, false, false, false, false] rfl rfl (by kernel_rfl) (fun _ _ _ h => h) (Or.inl ⟨by rfl, ?_⟩) hHeld ?_ ?_
 rotate_left
 ·rintro w' ⟨s0, s1, s2⟩
  go_simp
  try with_reducible rfl
 rotate_left
 ·simp only [Act.put, List.setIfInBounds_toArray, List.set_cons_zero, List.set_cons_succ]
  rfl
 refine pure_ (i := 9) (N := some 15) (v := ?_) (a' := ?_) #[true, true, true, true, true, true, true, true, true, true, false, false, false, false, false, false, false, false, false, false, false, false, false, false, false, false, false, false] rfl rfl (by kernel_rfl) (fun _ _ _ h => h) (Or.inl ⟨by rfl, ?_⟩) ?_ ?_
 rotate_left
 ·intro w'
  go_simp
  try with_reducible rfl
 rotate_left
 ·simp only [Act.put, List.setIfInBounds_toArray, List.set_cons_zero, List.set_cons_succ]
  rfl
 refine pure_ (i := 10) (N := some 16) (v := ?_) (a' := ?_) #[true, true, true, true, true, true, true, true, true, true, true, false, false, false, false, false, false, false, false, false, false, false, false, false, false, false, false, false] rfl rfl (by kernel_rfl) (fun _ _ _ h => h) (Or.inl ⟨by rfl, ?_⟩) ?_ ?_
 rotate_left
 ·intro w'
  go_simp
  try with_reducible rfl
 rotate_left
 ·simp only [Act.put, List.setIfInBounds_toArray, List.set_cons_zero, List.set_cons_succ]
  rfl
 refine pure_ (i := 11) (N := some 17) (v := ?_) (a' := ?_) #[true, true, true, true, true, true, true, true, true, true, true, true, false, false, false, false, false, false, false, false, false, false, false, false, false, false, false, false] rfl rfl (by kernel_rfl) (fun _ _ _ h => h) (Or.inl ⟨by rfl, ?_⟩) ?_ ?_
 rotate_left
 ·intro w'
  go_simp
  try with_reducible rfl
 rotate_left
 ·simp only [Act.put, List.setIfInBounds_toArray, List.set_cons_zero, List.set_cons_succ]
  rfl
 refine pure_ (i := 12) (N := some 18) (v := ?_) (a' := ?_) #[true, true, true, true, true, true, true, true, true, true, true, true, true, false, false, false, false, false, false, false, false, false, false, false, false, false, false, false] rfl rfl (by kernel_rfl) (fun _ _ _ h => h) (Or.inl ⟨by rfl, ?_⟩) ?_ ?_
 rotate_left
 ·intro w'
  go_simp
  try with_reducible rfl
 rotate_left
 ·simp only [Act.put, List.setIfInBounds_toArray, List.set_cons_zero, List.set_cons_succ]
  rfl
 refine take_ (i := 13) (N := some 19) (v := ?_) (a' := ?_) #[true, true, true, true, true, true, true, true, true, true, true, true, true, true, false, false, false, false, false, false, false, false, false, false, false, false, false, false] rfl rfl (by kernel_rfl) (fun _ _ _ h => h) (Or.inl ⟨by rfl, ?_⟩) hHeld ?_ ?_
 rotate_left
 ·rintro w' ⟨s0, s1, s2⟩
  go_simp
  try with_reducible rfl
 rotate_left
 ·simp only [Act.put, List.setIfInBounds_toArray, List.set_cons_zero, List.set_cons_succ]
  rfl
 refine pure_ (i := 14) (N := some 20) (v := ?_) (a' := ?_) #[true, true, true, true, true, true, true, true, true, true, true, true, true, true, true, false, false, false, false, false, false, false, false, false, false, false, false, false] rfl rfl (by kernel_rfl) (fun _ _ _ h => h) (Or.inl ⟨by rfl, ?_⟩) ?_ ?_
 rotate_left
 ·intro w'
  go_simp
  try with_reducible rfl
 rotate_left
 ·simp only [Act.put, List.setIfInBounds_toArray, List.set_cons_zero, List.set_cons_succ]
  rfl
 refine pure_ (i := 15) (N := some 21) (v := ?_) (a' := ?_) #[true, true, true, true, true, true, true, true, true, true, true, true, true, true, true, true, false, false, false, false, false, false, false, false, false, false, false, false] rfl rfl (by kernel_rfl) (fun _ _ _ h => h) (Or.inl ⟨by rfl, ?_⟩) ?_ ?_
 rotate_left
 ·intro w'
  go_simp
  try with_reducible rfl
 rotate_left
 ·simp only [Act.put, List.setIfInBounds_toArray, List.set_cons_zero, List.set_cons_succ]
  rfl
 refine take_ (i := 16) (N := some 22) (v := ?_) (a' := ?_) #[true, true, true, true, true, true, true, true, true, true, true, true, true, true, true, true, true, false, false, false, false, false, false, false, false, false, false, false] rfl rfl (by kernel_rfl) (fun _ _ _ h => h) (Or.inl ⟨by rfl, ?_⟩) hHeld ?_ ?_
 rotate_left
 ·rintro w' ⟨s0, s1, s2⟩
  go_simp
  try with_reducible rfl
 rotate_left
 ·simp only [Act.put, List.setIfInBounds_toArray, List.set_cons_zero, List.set_cons_succ]
  rfl
 refine pure_ (i := 17) (N := some 23) (v := ?_) (a' := ?_) #[true, true, true, true, true, true, true, true, true, true, true, true, true, true, true, true, true, true, false, false, false, false, false, false, false, false, false, false] rfl rfl (by kernel_rfl) (fun _ _ _ h => h) (Or.inl ⟨by rfl, ?_⟩) ?_ ?_
 rotate_left
 ·intro w'
  go_simp
  try with_reducible rfl
 rotate_left
 ·simp only [Act.put, List.setIfInBounds_toArray, List.set_cons_zero, List.set_cons_succ]
  rfl
 refine pure_ (i := 18) (N := some 24) (v := ?_) (a' := ?_) #[true, true, true, true, true, true, true, true, true, true, true, true, true, true, true, true, true, true, true, false, false, false, false, false, false, false, false, false] rfl rfl (by kernel_rfl) (fun _ _ _ h => h) (Or.inl ⟨by rfl, ?_⟩) ?_ ?_
 rotate_left
 ·intro w'
  go_simp
  try with_reducible rfl
 rotate_left
 ·simp only [Act.put, List.setIfInBounds_toArray, List.set_cons_zero, List.set_cons_succ]
  rfl
 refine pure_ (i := 19) (N := some 25) (v := ?_) (a' := ?_) #[true, true, true, true, true, true, true, true, true, true, true, true, true, true, true, true, true, true, true, true, false, false, false, false, false, false, false, false] rfl rfl (by kernel_rfl) (fun _ _ _ h => h) (Or.inl ⟨by rfl, ?_⟩) ?_ ?_
 rotate_left
 ·intro w'
  go_simp
  try with_reducible rfl
 rotate_left
 ·simp only [Act.put, List.setIfInBounds_toArray, List.set_cons_zero, List.set_cons_succ]
  rfl
 refine take_ (i := 20) (N := some 26) (v := ?_) (a' := ?_) #[true, true, true, true, true, true, true, true, true, true, true, true, true, true, true, true, true, true, true, true, true, false, false, false, false, false, false, false] rfl rfl (by kernel_rfl) (fun _ _ _ h => h) (Or.inl ⟨by rfl, ?_⟩) hHeld ?_ ?_
 rotate_left
 ·rintro w' ⟨s0, s1, s2⟩
  go_simp
  try with_reducible rfl
 rotate_left
 ·simp only [Act.put, List.setIfInBounds_toArray, List.set_cons_zero, List.set_cons_succ]
  rfl
 refine pure_ (i := 21) (N := some 27) (v := ?_) (a' := ?_) #[true, true, true, true, true, true, true, true, true, true, true, true, true, true, true, true, true, true, true, true, true, true, false, false, false, false, false, false] rfl rfl (by kernel_rfl) (fun _ _ _ h => h) (Or.inl ⟨by rfl, ?_⟩) ?_ ?_
 rotate_left
 ·intro w'
  go_simp
  try with_reducible rfl
 rotate_left
 ·simp only [Act.put, List.setIfInBounds_toArray, List.set_cons_zero, List.set_cons_succ]
  rfl
 refine pure_ (i := 22) (N := some 28) (v := ?_) (a' := ?_) #[true, true, true, true, true, true, true, true, true, true, true, true, true, true, true, true, true, true, true, true, true, true, true, false, false, false, false, false] rfl rfl (by kernel_rfl) (fun _ _ _ h => h) (Or.inl ⟨by rfl, ?_⟩) ?_ ?_
 rotate_left
 ·intro w'
  go_simp
  try with_reducible rfl
 rotate_left
 ·simp only [Act.put, List.setIfInBounds_toArray, List.set_cons_zero, List.set_cons_succ]
  rfl
 refine take_ (i := 23) (N := some 29) (v := ?_) (a' := ?_) #[true, true, true, true, true, true, true, true, true, true, true, true, true, true, true, true, true, true, true, true, true, true, true, true, false, false, false, false] rfl rfl (by kernel_rfl) (fun _ _ _ h => h) (Or.inl ⟨by rfl, ?_⟩) hHeld ?_ ?_
 rotate_left
 ·rintro w' ⟨s0, s1, s2⟩
  go_simp
  try with_reducible rfl
 rotate_left
 ·simp only [Act.put, List.setIfInBounds_toArray, List.set_cons_zero, List.set_cons_succ]
  rfl
 refine pure_ (i := 24) (N := some 30) (v := ?_) (a' := ?_) #[true, true, true, true, true, true, true, true, true, true, true, true, true, true, true, true, true, true, true, true, true, true, true, true, true, false, false, false] rfl rfl (by kernel_rfl) (fun _ _ _ h => h) (Or.inl ⟨by rfl, ?_⟩) ?_ ?_
 rotate_left
 ·intro w'
  go_simp
  try with_reducible rfl
 rotate_left
 ·simp only [Act.put, List.setIfInBounds_toArray, List.set_cons_zero, List.set_cons_succ]
  rfl
 refine last_ (i := 25) (N := none) #[true, true, true, true, true, true, true, true, true, true, true, true, true, true, true, true, true, true, true, true, true, true, true, true, true, true, false, false] rfl rfl (by kernel_rfl) (by decide) (fun K hK => ?_)
 refine skip_ (w1 := ?_) (by rfl) rfl ?_ ?_
 rotate_left
 ·go_simp
  rfl
 refine hK.out _ _ ?_
 clear hK K
 refine pure_ (i := 26) (N := some 31) (v := ?_) (a' := ?_) #[true, true, true, true, true, true, true, true, true, true, true, true, true, true, true, true, true, true, true, true, true, true, true, true, true, true, true, false] rfl rfl (by kernel_rfl) (fun _ _ _ h => h) (Or.inl ⟨by rfl, ?_⟩) ?_ ?_
 rotate_left
 ·intro w'
  go_simp
  try with_reducible rfl
 rotate_left
 ·simp only [Act.put, List.setIfInBounds_toArray, List.set_cons_zero, List.set_cons_succ]
  rfl
 refine last_ (i := 27) (N := none) #[true, true, true, true, true, true, true, true, true, true, true, true, true, true, true, true, true, true, true, true, true, true, true, true, true, true, true, true] rfl rfl (by kernel_rfl) (by decide) (fun K hK => ?_)
 refine skip_ (w1 := ?_) (by rfl) rfl ?_ ?_
 rotate_left
 ·go_simp
  rfl
 refine hK.out _ _ ?_
 clear hK K
 refine done_ (by kernel_rfl) ?_
 go_end0
 exact ⟨rfl, (HQ.out.1), (Chg.refl ok w).drew.trans HQ.out.2⟩
theorem HS.header {w0 w : World} {hb : Nat} {ok : Nat → Prop} {A : Option Addr} {c : Nat} {l : List S33} {v v' : Value} {h h' : List Int} (H : HS w0 w hb ok A c l v h) (hr : Kd.R (Kd.int .i64) 3 w w0.heap.size ok v' h') (hx : ∀ x ∈ h', 0 ≤ x ∧ x < l.length) :
  HS w0 (w.setCell ⟨hb, 0, none⟩ v') hb ok A c l v' h' ∧ Chg (· = hb) w (w.setCell ⟨hb, 0, none⟩ v') := by
 have hc : Chg (· = hb) w (w.setCell ⟨hb, 0, none⟩ v') := (Chg.refl (· = hb) w).setCell (p := ⟨hb, 0, none⟩) rfl _
 exact ⟨⟨blk_set H.blk 0 v', Kd.R_set hr H.blk (by decide) 0 v', Chg.below H.bel hc (fun k e => by have := H.hb; omega) H.bel.size, H.hb, H.parts, hx⟩, hc⟩
theorem HS.ne {w0 w : World} {hb : Nat} {ok : Nat → Prop} {A : Option Addr} {c : Nat} {l : List S33} {v : Value} {h : List Int} (H : HS w0 w hb ok A c l v h) : some hb ≠ v.ownBlock := fun e => by
 obtain ⟨cs, hcs⟩ := Kd.R_typed H.row hb e.symm
 rw [H.blk] at hcs
 injection hcs with hcs
 injection hcs with _ h2 _
 exact absurd h2 (by decide)
set_option maxHeartbeats 4000000 in
theorem popm_is (w0 w : World) (hb : Nat) (ok : Nat → Prop) (A : Option Addr) (c : Nat) (l : List S33) (v : Value) (h : List Int) (H : HS w0 w hb ok A c l v h) (hp : 0 < h.length) (hl : h.length < 1000000) :
  Calls Tryd.prog 98 #[.pointer (some ⟨hb, 0, none⟩)] w fun e w' => e = .returned (.iface 3 (.int .i64 (at_ h (h.length - 1)))) ∧ (∃ v', HS w0 w' hb ok A c l v' (h.take (h.length - 1))) ∧ Chg (· = hb) w w' := by
 obtain ⟨g, cap, rfl, hg, -, hx⟩ := H.form hp
 obtain ⟨q0, q1, q2⟩ := H.cells
 obtain ⟨x0, -⟩ := hx (h.length - 1) (by omega)
 have hcap := (Kd.R_reads' H.row).2.1
 have HR := Lib.hid (H.header (Kd.R_take (m := h.length - 1) H.row (by omega)) (fun x hx => H.rng x (List.mem_of_mem_take hx)))
 generalize at_ h (h.length - 1) = x at *
 have e1 : IntKind.i64.wrap ((h.length : Int) - 1) = ((h.length - 1 : Nat) : Int) := by rw [IntWalk.i64_in _ (by omega)]; omega
 obtain ⟨n, hn⟩ : ∃ n, n = h.length - 1 := ⟨_, rfl⟩
 rw [← hn] at x0 HR e1 ⊢
 have n0 : (0 : Int) ≤ (n : Int) := by omega
 have n1 : (n : Int) < (h.length : Int) := by omega
 have n2 : (n : Int) ≤ (cap : Int) := by omega
 clear H hx hn hl hp hcap
 go_enter Tryd.func98, Tryd.ntmps98
 go_wp2_with fail
 go_ret
 exact ⟨rfl, ⟨_, HR.out.1⟩, HR.out.2⟩
theorem HS.pushed {w0 w w7 : World} {hb : Nat} {ok ok' : Nat → Prop} {A : Option Addr} {c : Nat} {l : List S33} {v v' : Value} {h : List Int} {x : Int} (H : HS w0 w hb ok A c l v h) (hx : 0 ≤ x ∧ x < l.length) (hr : Kd.R (Kd.int .i64) 3 w7 w0.heap.size ok' v' (h ++ [x])) (hb7 : Below w0.heap.size w0 w7) (hg : w.grownBy w7 v.ownBlock) :
  HS w0 (w7.setCell ⟨hb, 0, none⟩ v') hb ok' A c l v' (h ++ [x]) ∧ Chg (fun k => k = hb ∨ ok k) w (w7.setCell ⟨hb, 0, none⟩ v') ∧ w7.cell? ⟨hb, 0, none⟩ = some v ∧ w7.frozen? ⟨hb, 0, none⟩ = false := by
 have hblk : w7.heap[hb]? = some (.cells (nextV v A l.length c) 76 (0, 0)) := (hg.block hb (blk_lt H.blk) H.ne).trans H.blk
 have hc7 : Chg (fun k => k = hb ∨ ok k) w w7 := ⟨hg.os, hg.tape, hg.output, hg.size, fun k hk hs => hg.block k hk (fun e => hs (.inr (H.row.1 k e.symm)))⟩
 refine ⟨⟨blk_set hblk 0 v', Kd.R_set hr hblk (by decide) 0 v', Chg.below hb7 ((Chg.refl (· = hb) w7).setCell (p := ⟨hb, 0, none⟩) rfl v') (fun k e => by have := H.hb; omega) hb7.size, H.hb, H.parts, fun y hy => ?_⟩, hc7.setCell (p := ⟨hb, 0, none⟩) (.inl rfl) v', (blk_cell hblk 0).trans rfl, blk_frozen hblk 0⟩
 rcases List.mem_append.1 hy with k | k
 ·exact H.rng y k
 ·rw [List.mem_singleton.1 k]; exact hx
set_option maxHeartbeats 4000000 in
theorem pushm_is (w0 w : World) (hb : Nat) (ok : Nat → Prop) (A : Option Addr) (c : Nat) (l : List S33) (v : Value) (h : List Int) (x : Int) (H : HS w0 w hb ok A c l v h) (hx : 0 ≤ x ∧ x < l.length) (hl : h.length < 1000000) :
  Calls Tryd.prog 99 #[.pointer (some ⟨hb, 0, none⟩), .iface 3 (.int .i64 x)] w fun e w' => e = .returned (.tuple #[]) ∧ (∃ v', HS w0 w' hb (fun k => ok k ∨ w.heap.size ≤ k) A c l v' (h ++ [x])) ∧ Chg (fun k => k = hb ∨ ok k) w w' := by
 obtain ⟨q0, q1, q2⟩ := H.cells
 have HH := Lib.hid H
 have HX := Lib.hid hx
 have HL := Lib.hid hl
 have HRD := Lib.hid (Kd.R_mono (H.below (Below.refl w.heap.size w).drew).row (ok' := fun k => ok k ∨ w.heap.size ≤ k) (fun k hk => .inl hk))
 have HD := Lib.hid (H.below (Below.refl w.heap.size w).drew)
 have qa := ((H.below ((Below.refl w.heap.size w).alloc (Nat.le_refl _) (.cells #[.int .i64 x] 3))).cells).1
 clear H hx hl
 have hta : ∀ w : World, (Instr.typeAssert (.iface 3 (.int .i64 x)) 20 3 false).run Tryd.prog w = .ok (.int .i64 x) w := fun _ => by kernel_rfl
 go_enter Tryd.func99, Tryd.ntmps99
 go_wp2_with fail
 trace_state
 go_region_law (refine Kd.R_append_step (Kd.int .i64) (w0 := w0) (W := w.drew) w0.heap.size (by rfl) (.tmp 8) (.tmp 11) 22 3 (.int .i64 0) 8 rfl Tryd.underlying22 info3 rfl (by decide) (by decide) v h x [.int .i64 x] (fun k => ok k ∨ w.heap.size ≤ k) (fun _ => False) rfl rfl rfl (fun _ h => h.elim) (fun k hk => .inr hk) HRD.out HD.out.bel HD.out.bel.size (by have := HL.out; omega) ?_; intro v' w7 ho hb hg hat; obtain ⟨B7, m7, d7, rfl⟩ : ∃ B m d, v' = .slice B m d := (Kd.R_slice ho).elim fun B hB => hB.elim fun d hd => ⟨B, _, d, hd⟩; have HY := Lib.hid (HD.out.pushed HX.out ho hb hg); have k5 := HY.out.2.2.1; have k6 := HY.out.2.2.2; clear ho hb hg hat)
 all_goals
  trace_state
  go_end0
  exact ⟨rfl, ⟨_, HY.out.1⟩, (Chg.refl _ w).drew.trans HY.out.2.1⟩
end Go.Proofs.YtccjclmjoegibaaDoor.Ce
namespace Go.Proofs.YtccjclmjoegibaaDoor.Ce
open Go.RowKit Go.Maps Go.Proofs.YtccjclmjoegibaaDoor Go.Proofs.YtccjclmjoegibaaDoorW.PrintWords Go.Proofs.YtccjclmjoegibaaDoorW.PrintLast Go.Proofs.YtccjclmjoegibaaDoorW.PrintMore PCloserOrders Hp
attribute [local go_sem] max2_int min2_int max_two min_two max_three min_three max_four min_four
set_option linter.unusedVariables false
set_option linter.unusedSimpArgs false

theorem m_less (p : Value) (w : World) : (method 219 73 p "Less").run Tryd.prog w = .ok (97, p) w := by kernel_rfl
theorem m_swap (p : Value) (w : World) : (method 219 73 p "Swap").run Tryd.prog w = .ok (100, p) w := by kernel_rfl
theorem m_push (p : Value) (w : World) : (method 219 73 p "Push").run Tryd.prog w = .ok (99, p) w := by kernel_rfl
theorem m_pop (p : Value) (w : World) : (method 219 73 p "Pop").run Tryd.prog w = .ok (98, p) w := by kernel_rfl
theorem m_len (p : Value) (w : World) : (method 219 73 p "Len").run Tryd.prog w = .ok (53, p) w := by kernel_rfl
set_option maxHeartbeats 4000000 in
set_option maxRecDepth 100000 in
theorem up_is (w0 w : World) (hb : Nat) (ok : Nat → Prop) (A : Option Addr) (c : Nat) (l : List S33) (v : Value) (h : List Int) (j : Nat) (H : HS w0 w hb ok A c l v h) (hj : j < h.length) (hl : h.length < 1000000) :
  Calls Tryd.prog 70 #[.iface 73 (.pointer (some ⟨hb, 0, none⟩)), .int .i64 j] w fun e w' => e = .returned (.tuple #[]) ∧ HS w0 w' hb ok A c l v (upL (aheadB l) h j) ∧ Chg ok w w' := by
 have HH := Lib.hid H
 have HL := Lib.hid hl
 have HJ := Lib.hid hj
 obtain ⟨r, hr⟩ : ∃ r, r = upL (aheadB l) h j := ⟨_, rfl⟩
 rw [← hr]
 have HRR := Lib.hid hr
 clear H hj hl hr
 go_enter Tryd.func70, Tryd.ntmps70
 go_wp2_with fail
 go_loopg [1] j (fun gk v1 wr => ∃ (h' : List Int), v1 = .int .i64 gk ∧ Hid (gk < h'.length ∧ h'.length = h.length ∧ r = upL (aheadB l) h' gk) ∧ Hid (HS w0 wr hb ok A c l v h') ∧ Hid (Chg ok w wr))
 case atStart => exact ⟨h, rfl, Lib.hid ⟨HJ.out, rfl, HRR.out⟩, HH, Lib.hid (Chg.refl _ _)⟩
 case round =>
  obtain ⟨h', rfl, HJ', HI, HC⟩ := hrel
  clear HRR HJ HH
  by_cases h0 : gk = 0
  ·subst h0
   go_wp2_with fail
   go_end0
   exact ⟨rfl, by rw [HJ'.out.2.2, upL_stop _ _ _ (.inl rfl)]; exact HI.out, HC.out⟩
  ·have hq : wrap64 (Int.tdiv (wrap64 ((gk : Int) - 1)) 2) = ((par gk : Nat) : Int) := by
    rw [← i64_w, ← i64_w]
    have := HJ'.out
    have := HL.out
    rw [IntWalk.i64_in ((gk : Int) - 1) (by omega)]
    rw [Int.tdiv_eq_ediv_of_nonneg (by omega), IntWalk.i64_in _ (by omega)]
    unfold par; omega
   have hp := par_lt (k := gk) (by omega)
   have hne : (((par gk : Nat) : Int) == (gk : Int)) = false := by simp; omega
   have HLE := Lib.hid (less_is w0 wr hb ok A c l v h' gk (par gk) HI.out HJ'.out.1 (by have := HJ'.out.1; omega))
   have hm1 := m_less
   have hm2 := m_swap
   cases hlt : aheadB l (at_ h' gk) (at_ h' (par gk)) with
   | false =>
    have HS1 := Lib.hid (show r = h' from HJ'.out.2.2.trans (upL_stop _ _ _ (.inr hlt)))
    rw [hlt] at HLE
    clear hlt
    go_wp2_with (go_at_call 97; refine HLE.out.mono ?_; rintro _ w3 ⟨rfl, ⟨m3, rfl⟩⟩)
    go_end0
    exact ⟨rfl, by rw [HS1.out]; exact HI.out.below (pw_below_drewN (Below.refl _ _) m3), HC.out.drewN m3⟩
   | true =>
    have HS1 := Lib.hid (show r = upL (aheadB l) (swap h' (par gk) gk) (par gk) from HJ'.out.2.2.trans (upL_go _ _ _ h0 hlt))
    rw [hlt] at HLE
    clear hlt
    have HSW := Lib.hid (fun m => swap_is w0 (wr.drewN m) hb ok A c l v h' (par gk) gk (HI.out.below (pw_below_drewN (Below.refl _ _) m)) (by have := HJ'.out.1; omega) HJ'.out.1)
    go_wp2_with (first | (go_at_call 97; refine HLE.out.mono ?_; rintro _ w3 ⟨rfl, ⟨m3, rfl⟩⟩) | (go_at_call 100; refine (HSW.out m3).mono ?_; rintro _ w4 ⟨rfl, h4, c4⟩; have H4 := Lib.hid h4; have C4 := Lib.hid c4; clear h4 c4))
    go_roundg (par gk)
    case measure => omega
    case rel => exact ⟨_, rfl, Lib.hid ⟨by rw [swap_len]; have := HJ'.out.1; omega, by rw [swap_len]; exact HJ'.out.2.1, HS1.out⟩, H4, Lib.hid ((HC.out.drewN m3).trans C4.out)⟩
/-- DOWN -/
def AnyB (e : Ending) : Prop := ∃ b, e = .returned (.bool b)
set_option maxHeartbeats 8000000 in
set_option maxRecDepth 100000 in
theorem down_is (w0 w : World) (hb : Nat) (ok : Nat → Prop) (A : Option Addr) (c : Nat) (l : List S33) (v : Value) (h : List Int) (i0 n : Nat) (H : HS w0 w hb ok A c l v h) (hn : n ≤ h.length) (hi : i0 ≤ n) (hl : h.length < 1000000) :
  Calls Tryd.prog 71 #[.iface 73 (.pointer (some ⟨hb, 0, none⟩)), .int .i64 i0, .int .i64 n] w fun e w' => AnyB e ∧ HS w0 w' hb ok A c l v (downL (aheadB l) h i0 n) ∧ Chg ok w w' := by
 have HH := Lib.hid H
 have HL := Lib.hid (And.intro hn hl)
 have HJ := Lib.hid hi
 obtain ⟨r, hr⟩ : ∃ r, r = downL (aheadB l) h i0 n := ⟨_, rfl⟩
 rw [← hr]
 have HRR := Lib.hid hr
 clear H hi hn hl hr
 go_enter Tryd.func71, Tryd.ntmps71
 go_wp2_with fail
 go_loopg [7] (n - i0) (fun gk v7 wr => ∃ (h' : List Int) (i : Nat), v7 = .int .i64 i ∧ gk = n - i ∧ Hid (i ≤ n ∧ h'.length = h.length ∧ r = downL (aheadB l) h' i n) ∧ Hid (HS w0 wr hb ok A c l v h') ∧ Hid (Chg ok w wr))
 case atStart => exact ⟨h, i0, rfl, rfl, Lib.hid ⟨HJ.out, rfl, HRR.out⟩, HH, Lib.hid (Chg.refl _ _)⟩
 case round =>
  obtain ⟨h', i, rfl, rfl, HJ', HI, HC⟩ := hrel
  clear HRR HJ HH
  obtain ⟨k1, hk1⟩ : ∃ k, k = 2 * i + 1 := ⟨_, rfl⟩
  obtain ⟨k2, hk2⟩ : ∃ k, k = 2 * i + 2 := ⟨_, rfl⟩
  have HK1 := Lib.hid (And.intro hk1 hk2)
  clear hk1 hk2
  have ea : wrap64 (wrap64 (2 * (i : Int)) + 1) = (k1 : Int) := by
   have := HL.out; have := HJ'.out; have := HK1.out
   rw [← i64_w, ← i64_w, IntWalk.i64_in (2 * (i : Int)) (by omega), IntWalk.i64_in _ (by omega)]; omega
  have eb : wrap64 ((k1 : Int) + 1) = (k2 : Int) := by
   have := HL.out; have := HJ'.out; have := HK1.out
   rw [← i64_w, IntWalk.i64_in _ (by omega)]; omega
  have hm1 := m_less
  have hm2 := m_swap
  have a0 : ¬ ((k1 : Int) < 0) := by omega
  by_cases h1 : k1 < n
  rotate_left
  ·have h1' : (k1 : Int) ≥ (n : Int) := by omega
   have HS1 := Lib.hid (show r = h' from HJ'.out.2.2.trans (downL_stop _ _ _ _ (.inl (by have := HK1.out; omega))))
   go_wp2_with fail
   go_ret
   exact ⟨⟨_, rfl⟩, by rw [HS1.out]; exact HI.out, HC.out⟩
  have h1' : ¬ (k1 : Int) ≥ (n : Int) := by omega
  have HIN := Lib.hid (show i < h'.length ∧ k1 < h'.length ∧ 2 * i + 1 < n from by have := HJ'.out; have := HL.out; have := HK1.out; omega)
  clear h1
  by_cases h2 : k2 < n
  ·have h2' : (k2 : Int) < (n : Int) := by omega
   have HL1 := Lib.hid (less_is w0 wr hb ok A c l v h' k2 k1 HI.out (by have := HIN.out; have := HJ'.out; have := HL.out; omega) HIN.out.2.1)
   have H22 := Lib.hid h2
   clear h2
   cases hk : aheadB l (at_ h' k2) (at_ h' k1) with
   | true =>
    rw [hk] at HL1
    have HK := Lib.hid (show kid (aheadB l) h' i n = k2 from by
     obtain ⟨e1, e2⟩ := HK1.out
     unfold kid; rw [← e2, ← e1, if_pos ⟨H22.out, hk⟩])
    clear hk
    have HLJ := Lib.hid (fun m => less_is w0 (wr.drewN m) hb ok A c l v h' k2 i (HI.out.below (pw_below_drewN (Below.refl _ _) m)) (by have := HIN.out; have := HJ'.out; have := HL.out; have := HK1.out; omega) HIN.out.1)
    cases hlt : aheadB l (at_ h' k2) (at_ h' i) with
    | false =>
     have HS1 := Lib.hid (show r = h' from HJ'.out.2.2.trans (downL_stop _ _ _ _ (.inr (by rw [HK.out]; exact hlt))))
     rw [hlt] at HLJ
     clear hlt
     go_wp2_with fail
     refine HL1.out.mono ?_
     rintro _ w3 ⟨rfl, ⟨m3, rfl⟩⟩
     clear HL1
     go_wp2_with fail
     refine (HLJ.out _).mono ?_
     rintro _ w5 ⟨rfl, ⟨m5, rfl⟩⟩
     go_wp2_with fail
     go_ret
     exact ⟨⟨_, rfl⟩, by rw [HS1.out]; exact HI.out.below (pw_below_drewN (Below.refl _ _) _), HC.out.drewN _⟩
    | true =>
     have HS1 := Lib.hid (show r = downL (aheadB l) (swap h' i k2) k2 n from by
      have e := HJ'.out.2.2.trans (downL_go _ _ _ _ HIN.out.2.2 (by rw [HK.out]; exact hlt))
      rw [HK.out] at e
      exact e)
     rw [hlt] at HLJ
     clear hlt
     have HSW := Lib.hid (fun m => swap_is w0 (wr.drewN m) hb ok A c l v h' i k2 (HI.out.below (pw_below_drewN (Below.refl _ _) m)) HIN.out.1 (by have := HIN.out; have := HJ'.out; have := HL.out; have := HK1.out; omega))
     go_wp2_with fail
     refine HL1.out.mono ?_
     rintro _ w3 ⟨rfl, ⟨m3, rfl⟩⟩
     clear HL1
     go_wp2_with fail
     refine (HLJ.out _).mono ?_
     rintro _ w5 ⟨rfl, ⟨m5, rfl⟩⟩
     clear HLJ
     go_wp2_with fail
     try rw [World.drewN_drewN]
     refine (HSW.out _).mono ?_
     rintro _ w4 ⟨rfl, h4, c4⟩
     have H4 := Lib.hid h4
     have C4 := Lib.hid c4
     clear h4 c4 HSW
     go_wp2_with fail
     go_roundg (n - k2)
     case measure => have := HIN.out; have := HJ'.out.1; have := HK1.out; omega
     case rel => exact ⟨_, k2, rfl, rfl, Lib.hid ⟨by have := HIN.out; have := HJ'.out; have := HL.out; have := HK1.out; omega, by rw [swap_len]; exact HJ'.out.2.1, HS1.out⟩, H4, Lib.hid ((HC.out.drewN _).trans C4.out)⟩
   | false =>
    rw [hk] at HL1
    have HK := Lib.hid (show kid (aheadB l) h' i n = k1 from by
     obtain ⟨e1, e2⟩ := HK1.out
     unfold kid; rw [← e2, ← e1, if_neg (fun q => by rw [hk] at q; exact absurd q.2 (by decide))])
    clear hk
    have HLJ := Lib.hid (fun m => less_is w0 (wr.drewN m) hb ok A c l v h' k1 i (HI.out.below (pw_below_drewN (Below.refl _ _) m)) (by have := HIN.out; have := HJ'.out; have := HL.out; have := HK1.out; omega) HIN.out.1)
    cases hlt : aheadB l (at_ h' k1) (at_ h' i) with
    | false =>
     have HS1 := Lib.hid (show r = h' from HJ'.out.2.2.trans (downL_stop _ _ _ _ (.inr (by rw [HK.out]; exact hlt))))
     rw [hlt] at HLJ
     clear hlt
     go_wp2_with fail
     refine HL1.out.mono ?_
     rintro _ w3 ⟨rfl, ⟨m3, rfl⟩⟩
     clear HL1
     go_wp2_with fail
     refine (HLJ.out _).mono ?_
     rintro _ w5 ⟨rfl, ⟨m5, rfl⟩⟩
     go_wp2_with fail
     go_ret
     exact ⟨⟨_, rfl⟩, by rw [HS1.out]; exact HI.out.below (pw_below_drewN (Below.refl _ _) _), HC.out.drewN _⟩
    | true =>
     have HS1 := Lib.hid (show r = downL (aheadB l) (swap h' i k1) k1 n from by
      have e := HJ'.out.2.2.trans (downL_go _ _ _ _ HIN.out.2.2 (by rw [HK.out]; exact hlt))
      rw [HK.out] at e
      exact e)
     rw [hlt] at HLJ
     clear hlt
     have HSW := Lib.hid (fun m => swap_is w0 (wr.drewN m) hb ok A c l v h' i k1 (HI.out.below (pw_below_drewN (Below.refl _ _) m)) HIN.out.1 (by have := HIN.out; have := HJ'.out; have := HL.out; have := HK1.out; omega))
     go_wp2_with fail
     refine HL1.out.mono ?_
     rintro _ w3 ⟨rfl, ⟨m3, rfl⟩⟩
     clear HL1
     go_wp2_with fail
     refine (HLJ.out _).mono ?_
     rintro _ w5 ⟨rfl, ⟨m5, rfl⟩⟩
     clear HLJ
     go_wp2_with fail
     try rw [World.drewN_drewN]
     refine (HSW.out _).mono ?_
     rintro _ w4 ⟨rfl, h4, c4⟩
     have H4 := Lib.hid h4
     have C4 := Lib.hid c4
     clear h4 c4 HSW
     go_wp2_with fail
     go_roundg (n - k1)
     case measure => have := HIN.out; have := HJ'.out.1; have := HK1.out; omega
     case rel => exact ⟨_, k1, rfl, rfl, Lib.hid ⟨by have := HIN.out; have := HJ'.out; have := HL.out; have := HK1.out; omega, by rw [swap_len]; exact HJ'.out.2.1, HS1.out⟩, H4, Lib.hid ((HC.out.drewN _).trans C4.out)⟩
  ·have h2' : ¬ (k2 : Int) < (n : Int) := by omega
   have HK := Lib.hid (show kid (aheadB l) h' i n = k1 from by
    obtain ⟨e1, e2⟩ := HK1.out
    unfold kid; rw [← e2, ← e1, if_neg (fun q => h2 q.1)])
   clear h2
   have HLJ := Lib.hid (fun m => less_is w0 (wr.drewN m) hb ok A c l v h' k1 i (HI.out.below (pw_below_drewN (Below.refl _ _) m)) (by have := HIN.out; have := HJ'.out; have := HL.out; have := HK1.out; omega) HIN.out.1)
   cases hlt : aheadB l (at_ h' k1) (at_ h' i) with
   | false =>
    have HS1 := Lib.hid (show r = h' from HJ'.out.2.2.trans (downL_stop _ _ _ _ (.inr (by rw [HK.out]; exact hlt))))
    rw [hlt] at HLJ
    clear hlt
    go_wp2_with fail
    refine (HLJ.out 0).mono ?_
    rintro _ w5 ⟨rfl, ⟨m5, rfl⟩⟩
    go_wp2_with fail
    go_ret
    exact ⟨⟨_, rfl⟩, by rw [HS1.out]; exact HI.out.below (pw_below_drewN (Below.refl _ _) _), HC.out.drewN _⟩
   | true =>
    have HS1 := Lib.hid (show r = downL (aheadB l) (swap h' i k1) k1 n from by
     have e := HJ'.out.2.2.trans (downL_go _ _ _ _ HIN.out.2.2 (by rw [HK.out]; exact hlt))
     rw [HK.out] at e
     exact e)
    rw [hlt] at HLJ
    clear hlt
    have HSW := Lib.hid (fun m => swap_is w0 (wr.drewN m) hb ok A c l v h' i k1 (HI.out.below (pw_below_drewN (Below.refl _ _) m)) HIN.out.1 (by have := HIN.out; have := HJ'.out; have := HL.out; have := HK1.out; omega))
    go_wp2_with fail
    refine (HLJ.out 0).mono ?_
    rintro _ w5 ⟨rfl, ⟨m5, rfl⟩⟩
    clear HLJ
    go_wp2_with fail
    try rw [World.drewN_drewN]
    refine (HSW.out _).mono ?_
    rintro _ w4 ⟨rfl, h4, c4⟩
    have H4 := Lib.hid h4
    have C4 := Lib.hid c4
    clear h4 c4 HSW
    go_wp2_with fail
    go_roundg (n - k1)
    case measure => have := HIN.out; have := HJ'.out.1; have := HK1.out; omega
    case rel => exact ⟨_, k1, rfl, rfl, Lib.hid ⟨by have := HIN.out; have := HJ'.out; have := HL.out; have := HK1.out; omega, by rw [swap_len]; exact HJ'.out.2.1, HS1.out⟩, H4, Lib.hid ((HC.out.drewN _).trans C4.out)⟩
end Go.Proofs.YtccjclmjoegibaaDoor.Ce
namespace Go.Proofs.YtccjclmjoegibaaDoor.Ce
open Go.RowKit Go.Maps Go.Proofs.YtccjclmjoegibaaDoor Go.Proofs.YtccjclmjoegibaaDoorW.PrintWords Go.Proofs.YtccjclmjoegibaaDoorW.PrintLast Go.Proofs.YtccjclmjoegibaaDoorW.PrintMore PCloserOrders Hp
attribute [local go_sem] max2_int min2_int max_two min_two max_three min_three max_four min_four
set_option linter.unusedVariables false
set_option linter.unusedSimpArgs false
set_option maxHeartbeats 4000000 in
theorem hpush_is (w0 w : World) (hb : Nat) (ok : Nat → Prop) (A : Option Addr) (c : Nat) (l : List S33) (v : Value) (h : List Int) (x : Int) (H : HS w0 w hb ok A c l v h) (hx : 0 ≤ x ∧ x < l.length) (hl : h.length < 900000) :
  Calls Tryd.prog 52 #[.iface 73 (.pointer (some ⟨hb, 0, none⟩)), .iface 3 (.int .i64 x)] w fun e w' => e = .returned (.tuple #[]) ∧ (∃ v', HS w0 w' hb (fun k => ok k ∨ w.heap.size ≤ k) A c l v' (pushL (aheadB l) h x)) ∧ Chg (fun k => k = hb ∨ ok k) w w' := by
 have HP := Lib.hid (pushm_is w0 w hb ok A c l v h x H hx (by omega))
 have HL := Lib.hid hl
 clear H hx hl
 have hm1 := m_push
 have hm2 := m_len
 go_enter Tryd.func52, Tryd.ntmps52
 go_wp2_with fail
 refine HP.out.mono ?_
 rintro _ w3 ⟨rfl, ⟨v3, h3⟩, c3⟩
 have H3 := Lib.hid h3
 have C3 := Lib.hid c3
 have HN := Lib.hid (len_is w0 w3 hb _ A c l v3 _ h3)
 have HU := Lib.hid (up_is w0 w3 hb _ A c l v3 _ h.length h3 (by simp) (by simp; have := HL.out; omega))
 have hw : wrap64 (((h ++ [x]).length : Int) - 1) = (h.length : Int) := by
  have := HL.out
  rw [← i64_w, IntWalk.i64_in _ (by simp; omega)]; simp
 clear h3 c3 HP
 generalize (h ++ [x]).length = n at *
 go_wp2_with fail
 refine HN.out.mono ?_
 rintro _ w4 ⟨rfl, rfl⟩
 go_wp2_with fail
 refine HU.out.mono ?_
 rintro _ w5 ⟨rfl, h5, c5⟩
 go_wp2_with fail
 go_end0
 exact ⟨rfl, ⟨_, h5⟩, ⟨c5.os.trans C3.out.os, c5.tape.trans C3.out.tape, c5.output.trans C3.out.output, Nat.le_trans C3.out.size c5.size, fun k hk hs => (c5.block k (Nat.lt_of_lt_of_le hk C3.out.size) (fun q => hs (q.elim .inr (fun q => absurd hk (by omega))))).trans (C3.out.block k hk hs)⟩⟩
set_option maxHeartbeats 4000000 in
theorem hpop_is (w0 w : World) (hb : Nat) (ok : Nat → Prop) (A : Option Addr) (c : Nat) (l : List S33) (v : Value) (h : List Int) (H : HS w0 w hb ok A c l v h) (hp : 0 < h.length) (hl : h.length < 900000) (hh : Heap (aheadB l) h h.length) :
  Calls Tryd.prog 54 #[.iface 73 (.pointer (some ⟨hb, 0, none⟩))] w fun e w' => e = .returned (.iface 3 (.int .i64 (at_ h 0))) ∧ (∃ v', HS w0 w' hb ok A c l v' (popL (aheadB l) h)) ∧ Chg (fun k => k = hb ∨ ok k) w w' := by
 have HG := Lib.hid (pop_heap (ahead_ord l) h hp hh)
 have HN := Lib.hid (len_is w0 w hb ok A c l v h H)
 have HS1 := Lib.hid (swap_is w0 w hb ok A c l v h 0 (h.length - 1) H hp (by omega))
 have HL := Lib.hid (And.intro hp hl)
 have hw : wrap64 ((h.length : Int) - 1) = ((h.length - 1 : Nat) : Int) := by rw [← i64_w, IntWalk.i64_in _ (by omega)]; omega
 obtain ⟨n, hn⟩ : ∃ n, n = h.length - 1 := ⟨_, rfl⟩
 have HNN := Lib.hid hn
 rw [← hn] at hw HS1 HG
 have hpop : popL (aheadB l) h = (downL (aheadB l) (swap h 0 n) 0 n).take n := by unfold popL; rw [hn]
 rw [hpop] at HG ⊢
 clear H hp hl hh hn hpop
 have hm1 := m_len
 have hm2 := m_swap
 have hm3 := m_pop
 go_enter Tryd.func54, Tryd.ntmps54
 go_wp2_with fail
 refine HN.out.mono ?_
 rintro _ w2 ⟨rfl, rfl⟩
 go_wp2_with fail
 refine HS1.out.mono ?_
 rintro _ w3 ⟨rfl, h3, c3⟩
 have C3 := Lib.hid c3
 have HD := Lib.hid (down_is w0 w3 hb ok A c l v _ 0 n h3 (by rw [swap_len]; have := HNN.out; omega) (by omega) (by rw [swap_len]; have := HL.out; omega))
 clear h3 c3 HS1
 go_wp2_with fail
 refine HD.out.mono ?_
 rintro _ w4 ⟨⟨b, rfl⟩, h4, c4⟩
 have C4 := Lib.hid c4
 have HP := Lib.hid (popm_is w0 w4 hb ok A c l v _ h4 (by rw [HG.out.2.2.2.2.1]; exact HL.out.1) (by rw [HG.out.2.2.2.2.1]; have := HL.out.2; omega))
 rw [HG.out.2.2.2.2.1, ← HNN.out, HG.out.2.2.2.1] at HP
 clear h4 c4 HD
 go_wp2_with fail
 refine HP.out.mono ?_
 rintro _ w5 ⟨rfl, h5, c5⟩
 go_wp2_with fail
 go_ret
 exact ⟨rfl, h5, ((C3.out.mono (fun _ q => .inr q)).trans (C4.out.mono (fun _ q => .inr q))).trans (c5.mono (fun _ q => .inl q))⟩
end Go.Proofs.YtccjclmjoegibaaDoor.Ce
namespace Go.Proofs.YtccjclmjoegibaaDoor.Hp
open Go Go.RowKit Go.Proofs.YtccjclmjoegibaaDoorW.PrintWords Go.Proofs.YtccjclmjoegibaaDoorW.PrintLast Go.Proofs.YtccjclmjoegibaaDoorW.PrintMore

/-- Count up at b for each one of a list that must be ahead of b. -/
def inc (P : Int → Int → Bool) (b : Int) : List Int → List Int → List Int
 | [], L => L
 | a :: r, L => inc P b r (if P a b = true then L.set b.toNat (wrap64 (rd L b + 1)) else L)
def seed (lt P : Int → Int → Bool) (all : List Int) : List Int → List Int → List Int → List Int × List Int
 | [], L, h => (L, h)
 | b :: r, L, h => seed lt P all r (inc P b all L) (if rd (inc P b all L) b = 0 then pushL lt h b else h)
/-- a has been taken: count down at each one that it must be ahead of. -/
def sweep (lt P : Int → Int → Bool) (a : Int) : List Int → List Int → List Int → List Int × List Int
 | [], L, h => (L, h)
 | b :: r, L, h => if P a b = true then sweep lt P a r (L.set b.toNat (wrap64 (rd L b - 1))) (if rd (L.set b.toNat (wrap64 (rd L b - 1))) b = 0 then pushL lt h b else h) else sweep lt P a r L h

theorem rd_set (L : List Int) (b x c : Int) (hb : b.toNat < L.length) (h0 : 0 ≤ b) (hc : 0 ≤ c) : rd (L.set b.toNat x) c = if c = b then x else rd L c := by
 unfold rd
 by_cases e : c = b
 ·subst e; simp [hb]
 ·rw [if_neg e]
  have : b.toNat ≠ c.toNat := by omega
  simp [List.getD, List.getElem?_set_ne this]
theorem rd_nat (L : List Int) (b : Int) : rd L b = at_ L b.toNat := rfl
theorem w64s {x : Int} (h0 : -4611686018427387904 ≤ x) (h1 : x ≤ 4611686018427387904) : wrap64 x = x := by rw [← i64_w, IntWalk.i64_in _ (by omega)]

theorem inc_len (P : Int → Int → Bool) (b : Int) : ∀ (us L : List Int), (inc P b us L).length = L.length
 | [], L => rfl
 | a :: r, L => by
  rw [inc, inc_len P b r]
  split
  ·simp
  ·rfl
theorem inc_other (P : Int → Int → Bool) (b c : Int) (hb : 0 ≤ b) (hc : 0 ≤ c) (hne : c ≠ b) : ∀ (us L : List Int), b.toNat < L.length → rd (inc P b us L) c = rd L c
 | [], L, _ => rfl
 | a :: r, L, hL => by
  rw [inc, inc_other P b c hb hc hne r _ (by split <;> simpa using hL)]
  split
  ·rw [rd_set _ _ _ _ hL hb hc, if_neg hne]
  ·rfl
theorem inc_self (P : Int → Int → Bool) (b : Int) (hb : 0 ≤ b) : ∀ (us L : List Int), b.toNat < L.length → 0 ≤ rd L b → rd L b + us.length ≤ 1000000 → rd (inc P b us L) b = rd L b + (us.countP (fun a => P a b) : Nat)
 | [], L, _, _, _ => by simp [inc]
 | a :: r, L, hL, h0, hl => by
  have hlen : ((a :: r).length : Int) = (r.length : Int) + 1 := by simp
  rw [inc]
  by_cases hp : P a b = true
  ·have hw : wrap64 (rd L b + 1) = rd L b + 1 := w64s (by omega) (by omega)
   have hs : rd (L.set b.toNat (rd L b + 1)) b = rd L b + 1 := by rw [rd_set _ _ _ _ hL hb hb, if_pos rfl]
   rw [if_pos hp, hw, inc_self P b hb r _ (by simpa using hL) (by rw [hs]; omega) (by rw [hs]; omega), hs, List.countP_cons, if_pos hp]
   omega
  ·rw [if_neg hp, inc_self P b hb r _ hL h0 (by omega), List.countP_cons, if_neg hp]
   omega

/-- How many of all must be ahead of b and are not out yet. -/
def left_ (P : Int → Int → Bool) (all out : List Int) (b : Int) : Nat := all.countP (fun a => P a b && !out.contains a)
theorem countP_but {f g : Int → Bool} (a : Int) : ∀ (l : List Int), l.Nodup → a ∈ l → (∀ x ∈ l, x ≠ a → g x = f x) → g a = false → l.countP g + (if f a = true then 1 else 0) = l.countP f
 | [], _, h, _, _ => absurd h (by simp)
 | x :: r, hn, hm, he, hg => by
  rw [List.nodup_cons] at hn
  by_cases hx : x = a
  ·subst hx
   have hr : r.countP g = r.countP f := List.countP_congr (fun y hy => by rw [he y (List.mem_cons_of_mem _ hy) (fun q => hn.1 (q ▸ hy))])
   rw [List.countP_cons, List.countP_cons, hr, hg]
   simp
  ·have hm' : a ∈ r := by
    rcases List.mem_cons.1 hm with q | q
    ·exact absurd q.symm hx
    ·exact q
   have ih := countP_but a r hn.2 hm' (fun y hy => he y (List.mem_cons_of_mem _ hy)) hg
   rw [List.countP_cons, List.countP_cons, he x List.mem_cons_self hx]
   omega
theorem left_app (P : Int → Int → Bool) (all out : List Int) (a b : Int) (hn : all.Nodup) (ha : a ∈ all) (ho : a ∉ out) : left_ P all (out ++ [a]) b + (if P a b = true then 1 else 0) = left_ P all out b := by
 unfold left_
 have h1 := countP_but (f := fun x => P x b && !out.contains x) (g := fun x => P x b && !(out ++ [a]).contains x) a all hn ha (fun x _ hx => by simp [hx]) (by simp)
 have h2 : ((fun x => P x b && !out.contains x) a = true) ↔ P a b = true := by simp [ho]
 rw [← h1]
 by_cases hp : P a b = true
 ·rw [if_pos hp, if_pos (h2.2 hp)]
 ·rw [if_neg hp, if_neg (fun q => hp (h2.1 q))]
theorem left_nil (P : Int → Int → Bool) (all : List Int) (b : Int) : left_ P all [] b = all.countP (fun a => P a b) := by
 unfold left_
 exact List.countP_congr (fun x _ => by simp)
theorem left_zero (P : Int → Int → Bool) (all out : List Int) (b : Int) : left_ P all out b = 0 ↔ ∀ a ∈ all, P a b = true → a ∈ out := by
 unfold left_
 rw [List.countP_eq_zero]
 constructor
 ·intro h a ha hp
  have := h a ha
  simp [hp] at this
  exact this
 ·intro h a ha q
  simp at q
  exact q.2 (h a ha q.1)
theorem left_le (P : Int → Int → Bool) (all out : List Int) (b : Int) : left_ P all out b ≤ all.length := List.countP_le_length

/-- Each one of out stands behind all that must be ahead of it, and was the first of those that might be next. -/
def Picked (lt P : Int → Int → Bool) (all out : List Int) : Prop :=
 ∀ p x, out[p]? = some x → (∀ a ∈ all, P a x = true → a ∈ out.take p) ∧ ∀ y ∈ all, y ∉ out.take p → (∀ a ∈ all, P a y = true → a ∈ out.take p) → lt y x = false
structure KI (lt P : Int → Int → Bool) (n : Nat) (all L h out : List Int) : Prop where
 heap : Heap lt h h.length
 nodup : (out ++ h).Nodup
 sub : ∀ x ∈ out ++ h, x ∈ all
 cnt : ∀ b ∈ all, rd L b = (left_ P all out b : Nat)
 free : ∀ b ∈ all, (b ∈ out ++ h ↔ rd L b = 0)
 len : L.length = n
 pick : Picked lt P all out

/-- While out has come to hold one more. -/
structure SI (lt P : Int → Int → Bool) (n : Nat) (all : List Int) (a : Int) (out done rest L h : List Int) : Prop where
 heap : Heap lt h h.length
 nodup : ((out ++ [a]) ++ h).Nodup
 sub : ∀ x ∈ (out ++ [a]) ++ h, x ∈ all
 cd : ∀ b ∈ done, rd L b = (left_ P all (out ++ [a]) b : Nat)
 cr : ∀ b ∈ rest, rd L b = (left_ P all out b : Nat)
 free : ∀ b ∈ all, (b ∈ (out ++ [a]) ++ h ↔ rd L b = 0)
 len : L.length = n

structure Alls (n : Nat) (all : List Int) : Prop where
 nodup : all.Nodup
 rng : ∀ x ∈ all, 0 ≤ x ∧ x < n
 small : all.length ≤ 1000

theorem push_mem {lt : Int → Int → Bool} (O : Ord lt) (h : List Int) (x y : Int) (H : Heap lt h h.length) : y ∈ pushL lt h x ↔ y = x ∨ y ∈ h := by
 rw [(push_heap O h x H).2.mem_iff, List.mem_cons]
theorem push_heap' {lt : Int → Int → Bool} (O : Ord lt) (h : List Int) (x : Int) (H : Heap lt h h.length) : Heap lt (pushL lt h x) (pushL lt h x).length := by
 have := push_heap O h x H
 rw [this.2.length_eq]
 exact this.1
theorem push_nodup {lt : Int → Int → Bool} (O : Ord lt) (o h : List Int) (x : Int) (H : Heap lt h h.length) (hn : (o ++ h).Nodup) (hx : x ∉ o ++ h) : (o ++ pushL lt h x).Nodup := by
 have hp : (o ++ pushL lt h x).Perm (x :: (o ++ h)) := ((push_heap O h x H).2.append_left o).trans List.perm_middle
 exact hp.nodup_iff.2 (List.nodup_cons.2 ⟨hx, hn⟩)

theorem sweep_ok {lt P : Int → Int → Bool} (O : Ord lt) {n : Nat} {all : List Int} (A : Alls n all) {a : Int} {out : List Int} (ha : a ∈ all) (ho : a ∉ out) :
  ∀ (rest done L h : List Int), all = done ++ rest → SI lt P n all a out done rest L h → SI lt P n all a out all [] (sweep lt P a rest L h).1 (sweep lt P a rest L h).2
 | [], done, L, h, he, S => by
  have : all = done := by simpa using he
  subst this
  exact S
 | b :: r, done, L, h, he, S => by
  have hb : b ∈ all := by rw [he]; simp
  have hbr := A.rng b hb
  have hbL : b.toNat < L.length := by rw [S.len]; omega
  have he' : all = (done ++ [b]) ++ r := by rw [he]; simp
  have hnd := A.nodup
  rw [he] at hnd
  have hbd : b ∉ done := fun q => by
   have := (List.nodup_append.1 hnd).2.2 b q b (by simp)
   exact this rfl
  have hbr' : b ∉ r := by
   have := (List.nodup_append.1 hnd).2.1
   exact (List.nodup_cons.1 this).1
  have hc := S.cr b (by simp)
  have hl := left_app P all out a b A.nodup ha ho
  have hle := left_le P all out b
  have hsm := A.small
  have hdr : ∀ c ∈ done, 0 ≤ c := fun c hc => (A.rng c (by rw [he]; simp [hc])).1
  have hrr : ∀ c ∈ r, 0 ≤ c := fun c hc => (A.rng c (by rw [he]; simp [hc])).1
  rw [sweep]
  by_cases hp : P a b = true
  ·rw [if_pos hp] at hl ⊢
   have hw : wrap64 (rd L b - 1) = rd L b - 1 := w64s (by omega) (by omega)
   rw [hw]
   have hs : ∀ c, 0 ≤ c → rd (L.set b.toNat (rd L b - 1)) c = if c = b then rd L b - 1 else rd L c := fun c h0 => rd_set _ _ _ _ hbL hbr.1 h0
   have hsb : rd (L.set b.toNat (rd L b - 1)) b = (left_ P all (out ++ [a]) b : Nat) := by rw [hs b hbr.1, if_pos rfl]; omega
   have hnot : b ∉ (out ++ [a]) ++ h := fun q => by have := (S.free b hb).1 q; omega
   have cd' : ∀ c ∈ done ++ [b], rd (L.set b.toNat (rd L b - 1)) c = (left_ P all (out ++ [a]) c : Nat) := fun c hcm => by
    rcases List.mem_append.1 hcm with q | q
    ·rw [hs c (hdr c q), if_neg (fun (e : c = b) => hbd (e ▸ q))]; exact S.cd c q
    ·rw [List.mem_singleton.1 q]; exact hsb
   have cr' : ∀ c ∈ r, rd (L.set b.toNat (rd L b - 1)) c = (left_ P all out c : Nat) := fun c hcm => by
    rw [hs c (hrr c hcm), if_neg (fun (e : c = b) => hbr' (e ▸ hcm))]; exact S.cr c (by simp [hcm])
   have hbase : ∀ c ∈ all, c ≠ b → (c ∈ (out ++ [a]) ++ h ↔ rd (L.set b.toNat (rd L b - 1)) c = 0) := fun c hcm hne => by
    rw [hs c (A.rng c hcm).1, if_neg hne]; exact S.free c hcm
   by_cases hz : rd (L.set b.toNat (rd L b - 1)) b = 0
   ·rw [if_pos hz]
    refine sweep_ok O A ha ho r (done ++ [b]) _ _ he' ⟨push_heap' O h b S.heap, push_nodup O _ h b S.heap S.nodup hnot, fun x hx => ?_, cd', cr', fun c hcm => ?_, by simpa using S.len⟩
    ·rcases List.mem_append.1 hx with q | q
     ·exact S.sub x (List.mem_append_left _ q)
     ·rcases (push_mem O h b x S.heap).1 q with q | q
      ·rw [q]; exact hb
      ·exact S.sub x (List.mem_append_right _ q)
    ·by_cases e : c = b
     ·subst e
      exact ⟨fun _ => hz, fun _ => List.mem_append_right _ ((push_mem O h c c S.heap).2 (.inl rfl))⟩
     ·rw [← hbase c hcm e]
      constructor
      ·intro q
       rcases List.mem_append.1 q with q | q
       ·exact List.mem_append_left _ q
       ·rcases (push_mem O h b c S.heap).1 q with q | q
        ·exact absurd q e
        ·exact List.mem_append_right _ q
      ·intro q
       rcases List.mem_append.1 q with q | q
       ·exact List.mem_append_left _ q
       ·exact List.mem_append_right _ ((push_mem O h b c S.heap).2 (.inr q))
   ·rw [if_neg hz]
    refine sweep_ok O A ha ho r (done ++ [b]) _ _ he' ⟨S.heap, S.nodup, S.sub, cd', cr', fun c hcm => ?_, by simpa using S.len⟩
    by_cases e : c = b
    ·subst e
     exact ⟨fun q => absurd q hnot, fun q => absurd q hz⟩
    ·exact hbase c hcm e
  ·rw [if_neg hp] at hl ⊢
   refine sweep_ok O A ha ho r (done ++ [b]) _ _ he' ⟨S.heap, S.nodup, S.sub, fun c hcm => ?_, fun c hcm => S.cr c (by simp [hcm]), S.free, S.len⟩
   rcases List.mem_append.1 hcm with q | q
   ·exact S.cd c q
   ·rw [List.mem_singleton.1 q, hc]; omega

theorem nodup_len : ∀ (a b : List Int), a.Nodup → (∀ x ∈ a, x ∈ b) → a.length ≤ b.length
 | [], b, _, _ => Nat.zero_le _
 | x :: r, b, hn, hs => by
  rw [List.nodup_cons] at hn
  have hx : x ∈ b := hs x List.mem_cons_self
  have ih := nodup_len r (b.erase x) hn.2 (fun y hy => (List.mem_erase_of_ne (fun (e : y = x) => hn.1 (e ▸ hy))).2 (hs y (List.mem_cons_of_mem _ hy)))
  rw [List.length_erase_of_mem hx] at ih
  have := List.length_pos_of_mem hx
  simp
  omega
theorem KI.len_le {lt P : Int → Int → Bool} {n : Nat} {all L h out : List Int} (K : KI lt P n all L h out) : out.length + h.length ≤ all.length := by
 have h2 := nodup_len _ _ K.nodup K.sub
 simpa using h2
theorem KI.next {lt P : Int → Int → Bool} (O : Ord lt) {n : Nat} {all L h out : List Int} (A : Alls n all) (K : KI lt P n all L h out) (hp : 0 < h.length) :
  KI lt P n all (sweep lt P (at_ h 0) all L (popL lt h)).1 (sweep lt P (at_ h 0) all L (popL lt h)).2 (out ++ [at_ h 0]) := by
 obtain ⟨g1, g2, g3, _, _, g6⟩ := pop_heap O h hp K.heap
 have hm : at_ h 0 ∈ h := by rw [at_get h 0 hp]; exact List.getElem_mem hp
 have ha : at_ h 0 ∈ all := K.sub _ (List.mem_append_right _ hm)
 have ho : at_ h 0 ∉ out := fun q => (List.nodup_append.1 K.nodup).2.2 _ q _ hm rfl
 have hperm : ((out ++ [at_ h 0]) ++ popL lt h).Perm (out ++ h) := by rw [List.append_assoc]; exact List.Perm.append_left out g3
 have S0 : SI lt P n all (at_ h 0) out [] all L (popL lt h) := ⟨g1, hperm.nodup_iff.2 K.nodup, fun x hx => K.sub x (hperm.mem_iff.1 hx), fun b hb => absurd hb (by simp), K.cnt, fun b hb => by rw [hperm.mem_iff]; exact K.free b hb, K.len⟩
 have S := sweep_ok O A ha ho all [] L (popL lt h) rfl S0
 have hz : left_ P all out (at_ h 0) = 0 := by have h1 := K.cnt _ ha; have h2 := (K.free _ ha).1 (List.mem_append_right _ hm); omega
 refine ⟨S.heap, S.nodup, S.sub, S.cd, S.free, S.len, fun p x hx => ?_⟩
 by_cases hpl : p < out.length
 ·rw [List.getElem?_append_left hpl] at hx
  have ht : (out ++ [at_ h 0]).take p = out.take p := by rw [List.take_append_of_le_length (by omega)]
  rw [ht]
  exact K.pick p x hx
 ·have hpe : p = out.length := by
   have hlt : p < (out ++ [at_ h 0]).length := by
    rcases Nat.lt_or_ge p (out ++ [at_ h 0]).length with q | q
    ·exact q
    ·rw [List.getElem?_eq_none q] at hx; exact absurd hx (by simp)
   simp at hlt
   omega
  subst hpe
  simp at hx
  subst hx
  have ht : (out ++ [at_ h 0]).take out.length = out := by simp
  rw [ht]
  refine ⟨(left_zero P all out _).1 hz, fun y hy hyo hyp => ?_⟩
  have h1 := K.cnt y hy
  rw [(left_zero P all out y).2 hyp] at h1
  have h2 := (K.free y hy).2 (by omega)
  rcases List.mem_append.1 h2 with q | q
  ·exact absurd q hyo
  ·exact g6 y q

theorem seed_go {lt P : Int → Int → Bool} (O : Ord lt) {n : Nat} {all : List Int} (A : Alls n all) :
  ∀ (rest done L h : List Int), all = done ++ rest → L.length = n → Heap lt h h.length → h.Nodup → (∀ x ∈ h, x ∈ done) → (∀ b ∈ done, rd L b = (left_ P all [] b : Nat)) → (∀ b ∈ rest, rd L b = 0) → (∀ b ∈ done, (b ∈ h ↔ rd L b = 0)) →
   KI lt P n all (seed lt P all rest L h).1 (seed lt P all rest L h).2 []
 | [], done, L, h, he, hl, hh, hn, hs, hd, hr, hf => by
  have : all = done := by simpa using he
  subst this
  exact ⟨hh, by simpa [seed] using hn, by simpa [seed] using hs, hd, by simpa [seed] using hf, hl, fun p x hx => absurd hx (by simp)⟩
 | b :: r, done, L, h, he, hl, hh, hn, hs, hd, hr, hf => by
  have hb : b ∈ all := by rw [he]; simp
  have hbr := A.rng b hb
  have hbL : b.toNat < L.length := by rw [hl]; omega
  have he' : all = (done ++ [b]) ++ r := by rw [he]; simp
  have hnd := A.nodup
  rw [he] at hnd
  have hbd : b ∉ done := fun q => by
   have := (List.nodup_append.1 hnd).2.2 b q b (by simp)
   exact this rfl
  have hbr' : b ∉ r := by
   have := (List.nodup_append.1 hnd).2.1
   exact (List.nodup_cons.1 this).1
  have hsm := A.small
  have hdr : ∀ c ∈ done, 0 ≤ c := fun c hc => (A.rng c (by rw [he]; simp [hc])).1
  have hrr : ∀ c ∈ r, 0 ≤ c := fun c hc => (A.rng c (by rw [he]; simp [hc])).1
  have hz := hr b (by simp)
  have hself : rd (inc P b all L) b = (left_ P all [] b : Nat) := by rw [inc_self P b hbr.1 all L hbL (by omega) (by omega), hz, left_nil]; omega
  have hoth : ∀ c, 0 ≤ c → c ≠ b → rd (inc P b all L) c = rd L c := fun c h0 hne => inc_other P b c hbr.1 h0 hne all L hbL
  rw [seed]
  have hd' : ∀ c ∈ done ++ [b], rd (inc P b all L) c = (left_ P all [] c : Nat) := fun c hc => by
   rcases List.mem_append.1 hc with q | q
   ·rw [hoth c (hdr c q) (fun (e : c = b) => hbd (e ▸ q))]; exact hd c q
   ·rw [List.mem_singleton.1 q]; exact hself
  have hr' : ∀ c ∈ r, rd (inc P b all L) c = 0 := fun c hc => by
   rw [hoth c (hrr c hc) (fun (e : c = b) => hbr' (e ▸ hc))]; exact hr c (by simp [hc])
  have hnh : b ∉ h := fun q => hbd (hs b q)
  by_cases h0 : rd (inc P b all L) b = 0
  ·rw [if_pos h0]
   refine seed_go O A r (done ++ [b]) _ _ he' (by rw [inc_len, hl]) (push_heap' O h b hh) ?_ (fun x hx => ?_) hd' hr' (fun c hc => ?_)
   ·have := push_nodup O [] h b hh (by simpa using hn) (by simpa using hnh)
    simpa using this
   ·rcases (push_mem O h b x hh).1 hx with q | q
    ·rw [q]; simp
    ·exact List.mem_append_left _ (hs x q)
   ·rw [push_mem O h b c hh]
    by_cases e : c = b
    ·subst e; exact ⟨fun _ => h0, fun _ => .inl rfl⟩
    ·have hcd : c ∈ done := by
      rcases List.mem_append.1 hc with q | q
      ·exact q
      ·exact absurd (List.mem_singleton.1 q) e
     rw [hoth c (hdr c hcd) e, ← hf c hcd]
     exact ⟨fun q => q.elim (fun q => absurd q e) id, .inr⟩
  ·rw [if_neg h0]
   refine seed_go O A r (done ++ [b]) _ _ he' (by rw [inc_len, hl]) hh hn (fun x hx => List.mem_append_left _ (hs x hx)) hd' hr' (fun c hc => ?_)
   by_cases e : c = b
   ·subst e; exact ⟨fun q => absurd q hnh, fun q => absurd q h0⟩
   ·have hcd : c ∈ done := by
     rcases List.mem_append.1 hc with q | q
     ·exact q
     ·exact absurd (List.mem_singleton.1 q) e
    rw [hoth c (hdr c hcd) e]
    exact hf c hcd
theorem seed_ok {lt P : Int → Int → Bool} (O : Ord lt) {n : Nat} {all : List Int} (A : Alls n all) : KI lt P n all (seed lt P all all (List.replicate n 0) []).1 (seed lt P all all (List.replicate n 0) []).2 [] := by
 refine seed_go O A all [] _ _ rfl (by simp) (fun k _ hk => absurd hk (by simp)) (by simp) (by simp) (by simp) (fun b hb => ?_) (by simp)
 have := A.rng b hb
 unfold rd
 simp [List.getD, List.getElem?_replicate]
 split <;> rfl

/-- What one comes to: all of them, once. -/
structure Good (lt P : Int → Int → Bool) (all out : List Int) : Prop where
 nodup : out.Nodup
 mem : ∀ x, x ∈ out ↔ x ∈ all
 pick : Picked lt P all out
/-- Nothing must be ahead of itself, at once or by way of others. -/
structure Acyc (P : Int → Int → Bool) : Prop where
 irr : ∀ a, P a a = false
 trans : ∀ a b c, P a b = true → P b c = true → P a c = true
theorem countP_lt {f g : Int → Bool} : ∀ (l : List Int), (∀ x ∈ l, f x = true → g x = true) → (∃ x ∈ l, f x = false ∧ g x = true) → l.countP f < l.countP g
 | [], _, h => by obtain ⟨x, hx, _⟩ := h; exact absurd hx (by simp)
 | y :: r, hs, h => by
  have hle : r.countP f ≤ r.countP g := List.countP_mono_left (fun x hx hf => hs x (List.mem_cons_of_mem _ hx) hf)
  obtain ⟨x, hx, h1, h2⟩ := h
  rw [List.countP_cons, List.countP_cons]
  rcases List.mem_cons.1 hx with rfl | q
  ·rw [h1, h2]; simp; omega
  ·have ih := countP_lt r (fun x hx => hs x (List.mem_cons_of_mem _ hx)) ⟨x, q, h1, h2⟩
   have hy := hs y List.mem_cons_self
   cases hf : f y <;> cases hg : g y <;> simp [hf, hg] at hy ⊢ <;> omega
theorem KI.done {lt P : Int → Int → Bool} {n : Nat} {all L out : List Int} (C : Acyc P) (K : KI lt P n all L [] out) : Good lt P all out := by
 have hno : ∀ (m : Nat) (b : Int), b ∈ all → b ∉ out → left_ P all out b = m → False := by
  intro m
  induction m using Nat.strongRecOn with
  | _ m ih =>
   intro b hb hbo hm
   have hfree := K.free b hb
   rw [K.cnt b hb] at hfree
   have hpos : left_ P all out b ≠ 0 := fun q => by
    have := hfree.2 (by omega)
    simp at this
    exact hbo this
   have hex : ∃ a ∈ all, P a b = true ∧ a ∉ out := by
    refine Classical.byContradiction fun hc => hpos ((left_zero P all out b).2 (fun a ha hp => ?_))
    exact Classical.byContradiction fun hn => hc ⟨a, ha, hp, hn⟩
   obtain ⟨a, ha, hp, hao⟩ := hex
   have hlt : left_ P all out a < left_ P all out b := by
    unfold left_
    refine countP_lt all (fun x _ hx => ?_) ⟨a, ha, ?_, ?_⟩
    ·simp at hx ⊢
     exact ⟨C.trans _ _ _ hx.1 hp, hx.2⟩
    ·simp [C.irr a]
    ·simp [hp, hao]
   exact ih _ (by omega) a ha hao rfl
 refine ⟨by simpa using K.nodup, fun x => ⟨fun hx => K.sub x (by simpa using hx), fun hx => ?_⟩, K.pick⟩
 exact Classical.byContradiction fun hn => hno _ x hx hn rfl
end Go.Proofs.YtccjclmjoegibaaDoor.Hp
