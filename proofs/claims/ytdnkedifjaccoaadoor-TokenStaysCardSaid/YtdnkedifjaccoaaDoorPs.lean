/- A stable sort in place, in plain Lean: rotating, merging, blocks. No program in sight. The stable sort's exchanges, in memory: swapRange, rotate. The stable sort's exchanges, in memory: rotate. The stable sort's merge, in memory. The stable sort's merge, in memory: one element on the right. -/
import Derived.Test.YtdnkedifjaccoaaDoorPa
import Derived.Sort.LotA
import Derived.Test.YtdnkedifjaccoaaDoorK
import Derived.Shelf.SlSortCmp.Insertion
namespace Go.Proofs.YtdnkedifjaccoaaDoor.Ce
open Go.Sort
set_option linter.unusedVariables false
set_option linter.unusedSimpArgs false
section
variable {α : Type} (f : α → Int)
def ltF (x y : α) : Bool := decide (f x - f y < 0)
variable {f}
theorem ltF_true {x y : α} : ltF f x y = true ↔ f x < f y := by unfold ltF; rw [decide_eq_true_iff]; omega
theorem ltF_false {x y : α} : ltF f x y = false ↔ f y ≤ f x := by unfold ltF; rw [decide_eq_false_iff_not]; omega
theorem swoF : SWO (ltF f) where
  irrefl := fun x => ltF_false.2 (Int.le_refl _)
  trans := fun x y z h1 h2 => by rw [ltF_true] at *; omega
  ntrans := fun x y z h1 h2 => by rw [ltF_false] at *; omega
variable [Inhabited α]
/-- Two neighbouring parts have changed places. -/
structure Rot (a m b : Nat) (d d' : Array α) : Prop where
  size : d'.size = d.size
  out : ∀ k, k < a ∨ b ≤ k → d'[k]! = d[k]!
  lo : ∀ k, a ≤ k → k < a + (b - m) → d'[k]! = d[k + (m - a)]!
  hi : ∀ k, a + (b - m) ≤ k → k < b → d'[k]! = d[k - (b - m)]!
theorem Rot.left (a m : Nat) (d : Array α) (h : a ≤ m) : Rot a m m d d :=
  ⟨rfl, fun _ _ => rfl, fun k h1 h2 => by omega, fun k h1 h2 => by rw [Nat.sub_self, Nat.sub_zero]⟩
theorem Rot.right (m b : Nat) (d : Array α) (h : m ≤ b) : Rot m m b d d :=
  ⟨rfl, fun _ _ => rfl, fun k h1 h2 => by rw [Nat.sub_self, Nat.add_zero], fun k h1 h2 => by omega⟩
/-- n places from a on have changed with as many from b on. -/
structure Swr (a b n : Nat) (d d' : Array α) : Prop where
  size : d'.size = d.size
  lo : ∀ k, a ≤ k → k < a + n → d'[k]! = d[k + (b - a)]!
  hi : ∀ k, b ≤ k → k < b + n → d'[k]! = d[k - (b - a)]!
  out : ∀ k, (k < a ∨ a + n ≤ k) → (k < b ∨ b + n ≤ k) → d'[k]! = d[k]!
theorem Swr.zero (a b : Nat) (d : Array α) : Swr a b 0 d d := ⟨rfl, fun k h1 h2 => by omega, fun k h1 h2 => by omega, fun _ _ _ => rfl⟩
theorem Swr.step {a b n : Nat} {d d' : Array α} (h : Swr a b n d d') (h1 : a + n < b) (h2 : b + n < d.size) : Swr a b (n + 1) d (swp d' (a + n) (b + n)) := by
  have hs := h.size
  have g := fun k => swp_get d' (i := a + n) (j := b + n) (by omega) (by omega) k
  refine ⟨by rw [size_swp]; exact hs, fun k k1 k2 => ?_, fun k k1 k2 => ?_, fun k k1 k2 => ?_⟩
  · rw [g, if_neg (by omega)]
    by_cases e : k = a + n
    · rw [if_pos e, h.out _ (by omega) (by omega)]
      congr 1; omega
    · rw [if_neg e, h.lo k k1 (by omega)]
  · rw [g]
    by_cases e : k = b + n
    · rw [if_pos e, h.out _ (by omega) (by omega)]
      congr 1; omega
    · rw [if_neg e, if_neg (by omega), h.hi k k1 (by omega)]
  · rw [g, if_neg (by omega), if_neg (by omega), h.out k (by omega) (by omega)]
theorem Swr.last {i m : Nat} {d d' : Array α} (h : Swr (m - i) m i d d') (hi : i ≤ m) : Rot (m - i) m (m + i) d d' := by
  refine ⟨h.size, fun k hk => h.out k (by omega) (by omega), fun k k1 k2 => ?_, fun k k1 k2 => ?_⟩
  · rw [h.lo k k1 (by omega)]
  · rw [h.hi k (by omega) (by omega)]
    congr 1; omega
theorem Swr.more {i j m : Nat} {d d2 d' : Array α} (h : Swr (m - i) m j d d2) (hi : i ≤ m) (hj : j < i) (r : Rot (m - (i - j)) m (m + j) d2 d') : Rot (m - i) m (m + j) d d' := by
  refine ⟨r.size.trans h.size, fun k hk => ?_, fun k k1 k2 => ?_, fun k k1 k2 => ?_⟩
  · rw [r.out k (by omega), h.out k (by omega) (by omega)]
  · by_cases e : k < m - (i - j)
    · rw [r.out k (Or.inl e), h.lo k k1 (by omega)]
    · rw [r.lo k (by omega) (by omega), h.hi _ (by omega) (by omega)]
      congr 1; omega
  · by_cases e : k < m - (i - j) + j
    · rw [r.lo k (by omega) (by omega), h.hi _ (by omega) (by omega)]
      congr 1; omega
    · rw [r.hi k (by omega) (by omega), h.out _ (by omega) (by omega)]
theorem Swr.less {i j m : Nat} {d d2 d' : Array α} (h : Swr (m - i) (m + j - i) i d d2) (hi : i ≤ m) (hj : i < j) (r : Rot (m - i) m (m + (j - i)) d2 d') : Rot (m - i) m (m + j) d d' := by
  refine ⟨r.size.trans h.size, fun k hk => ?_, fun k k1 k2 => ?_, fun k k1 k2 => ?_⟩
  · rw [r.out k (by omega), h.out k (by omega) (by omega)]
  · by_cases e : k < m - i + (j - i)
    · rw [r.lo k (by omega) (by omega), h.out _ (by omega) (by omega)]
    · by_cases e2 : k < m + (j - i)
      · rw [r.hi k (by omega) (by omega), h.lo _ (by omega) (by omega)]
        congr 1; omega
      · omega
  · rw [r.out k (by omega), h.hi _ (by omega) (by omega)]
    congr 1; omega
/-- One place goes up by one. -/
theorem Rot.up {a k : Nat} {d d' : Array α} (h : Rot a (a + 1) (k + 1) d d') (hk : a ≤ k) (hs : k + 1 < d.size) : Rot a (a + 1) (k + 1 + 1) d (swp d' k (k + 1)) := by
  have hz := h.size
  have g := fun q => swp_get d' (i := k) (j := k + 1) (by omega) (by omega) q
  refine ⟨by rw [size_swp]; exact hz, fun q hq => ?_, fun q q1 q2 => ?_, fun q q1 q2 => ?_⟩
  · rw [g, if_neg (by omega), if_neg (by omega), h.out q (by omega)]
  · rw [g, if_neg (by omega)]
    by_cases e : q = k
    · rw [if_pos e, h.out _ (by omega)]
      congr 1; omega
    · rw [if_neg e, h.lo q q1 (by omega)]
  · obtain rfl : q = k + 1 := by omega
    rw [g, if_pos rfl, h.hi k (by omega) (by omega)]
    congr 1; omega
/-- One place goes down by one. -/
theorem Rot.down {k m : Nat} {d d' : Array α} (h : Rot (k + 1) m (m + 1) d d') (hk : k + 1 ≤ m) (hs : m < d.size) : Rot k m (m + 1) d (swp d' (k + 1) k) := by
  have hz := h.size
  have g := fun q => swp_get d' (i := k + 1) (j := k) (by omega) (by omega) q
  refine ⟨by rw [size_swp]; exact hz, fun q hq => ?_, fun q q1 q2 => ?_, fun q q1 q2 => ?_⟩
  · rw [g, if_neg (by omega), if_neg (by omega), h.out q (by omega)]
  · obtain rfl : q = k := by omega
    rw [g, if_pos rfl, h.lo _ (by omega) (by omega)]
    congr 1; omega
  · rw [g, if_neg (by omega)]
    by_cases e : q = k + 1
    · rw [if_pos e, h.out _ (by omega)]
      congr 1; omega
    · rw [if_neg e, h.hi q (by omega) (by omega)]
theorem toList_range (d : Array α) : d.toList = (List.range' 0 d.size).map (fun i => d[i]!) := by
  have := extract_toList d 0 d.size (Nat.le_refl _)
  simpa using this
theorem range_parts (a m b n : Nat) (h1 : a ≤ m) (h2 : m ≤ b) (h3 : b ≤ n) : List.range' 0 n = List.range' 0 a ++ (List.range' a (m - a) ++ (List.range' m (b - m) ++ List.range' b (n - b))) := by
  rw [show b = m + (b - m) from by omega, show m + (b - m) - m = b - m from by omega]
  rw [List.range'_append_1, show b - m + (n - (m + (b - m))) = n - m from by omega]
  rw [show List.range' m (n - m) = List.range' (a + (m - a)) (n - m) from by congr 1; omega, List.range'_append_1, show m - a + (n - m) = n - a from by omega]
  rw [show List.range' a (n - a) = List.range' (0 + a) (n - a) from by rw [Nat.zero_add], List.range'_append_1]
  congr 1; omega
theorem map_shift (d d' : Array α) (a b n : Nat) (h : ∀ k, k < n → d'[a + k]! = d[b + k]!) : (List.range' a n).map (fun i => d'[i]!) = (List.range' b n).map (fun i => d[i]!) := by
  apply List.ext_getElem
  · simp
  · intro k k1 k2
    simp only [List.length_map, List.length_range'] at k1
    simp [h k k1]
/-- What a rotation leaves, as a list. -/
theorem Rot.toList {a m b : Nat} {d d' : Array α} (r : Rot a m b d d') (h1 : a ≤ m) (h2 : m ≤ b) (h3 : b ≤ d.size) :
    d.toList = (List.range' 0 a).map (fun i => d[i]!) ++ ((List.range' a (m - a)).map (fun i => d[i]!) ++ ((List.range' m (b - m)).map (fun i => d[i]!) ++ (List.range' b (d.size - b)).map (fun i => d[i]!))) ∧
    d'.toList = (List.range' 0 a).map (fun i => d[i]!) ++ ((List.range' m (b - m)).map (fun i => d[i]!) ++ ((List.range' a (m - a)).map (fun i => d[i]!) ++ (List.range' b (d.size - b)).map (fun i => d[i]!))) := by
  refine ⟨?_, ?_⟩
  · rw [toList_range, range_parts a m b d.size h1 h2 h3]
    simp only [List.map_append]
  · rw [toList_range, r.size, range_parts a (a + (b - m)) b d.size (by omega) (by omega) h3]
    simp only [List.map_append]
    congr 1
    · exact map_shift _ _ _ _ _ (fun k hk => r.out _ (by omega))
    congr 1
    · rw [show a + (b - m) - a = b - m from by omega]
      exact map_shift _ _ _ _ _ (fun k hk => by rw [r.lo _ (by omega) (by omega)]; congr 1; omega)
    congr 1
    · rw [show b - (a + (b - m)) = m - a from by omega]
      exact map_shift _ _ _ _ _ (fun k hk => by rw [r.hi _ (by omega) (by omega)]; congr 1; omega)
    · exact map_shift _ _ _ _ _ (fun k hk => r.out _ (by omega))
theorem same_swap {α : Type} {f : α → Int} {A B X Y : List α} (h : ∀ x ∈ A, ∀ y ∈ B, f y < f x) : SameKeys f (X ++ (B ++ (A ++ Y))) (X ++ (A ++ (B ++ Y))) := by
  intro e
  simp only [List.filter_append]
  congr 1
  rw [← List.append_assoc, ← List.append_assoc]
  congr 1
  cases hA : A.filter (fun x => f x == e) with
  | nil => simp
  | cons x r =>
    have hx : x ∈ A ∧ (f x == e) = true := List.mem_filter.1 (hA ▸ List.mem_cons_self)
    have hB : B.filter (fun x => f x == e) = [] := List.filter_eq_nil_iff.2 (fun y hy => by
      have := h x hx.1 y hy
      have h2 := hx.2
      simp at h2 ⊢
      omega)
    rw [hB]; simp
theorem Rot.same {a m b : Nat} {d d' : Array α} (r : Rot a m b d d') (h1 : a ≤ m) (h2 : m ≤ b) (h3 : b ≤ d.size)
    (h : ∀ p q, a ≤ p → p < m → m ≤ q → q < b → f d[q]! < f d[p]!) : SameKeys f d'.toList d.toList := by
  obtain ⟨e1, e2⟩ := r.toList h1 h2 h3
  rw [e1, e2]
  refine same_swap (fun x hx y hy => ?_)
  obtain ⟨p, hp, rfl⟩ := List.mem_map.1 hx
  obtain ⟨q, hq, rfl⟩ := List.mem_map.1 hy
  rw [List.mem_range'_1] at hp hq
  exact h p q hp.1 (by omega) hq.1 (by omega)
theorem Rot.perm {a m b : Nat} {d d' : Array α} (r : Rot a m b d d') (h1 : a ≤ m) (h2 : m ≤ b) (h3 : b ≤ d.size) : PermIn a b d d' := by
  refine ⟨r.size, r.out, ?_⟩
  rw [extract_toList _ _ _ (by rw [r.size]; exact h3), extract_toList _ _ _ h3]
  have e1 : List.range' a (b - a) = List.range' a (m - a) ++ List.range' m (b - m) := by
    rw [show List.range' m (b - m) = List.range' (a + (m - a)) (b - m) from by congr 1; omega, List.range'_append_1]; congr 1; omega
  have e2 : List.range' a (b - a) = List.range' a (b - m) ++ List.range' (a + (b - m)) (m - a) := by
    rw [List.range'_append_1]; congr 1; omega
  rw [show (List.range' a (b - a)).map (fun i => d'[i]!) = (List.range' m (b - m)).map (fun i => d[i]!) ++ (List.range' a (m - a)).map (fun i => d[i]!) from by
    rw [e2, List.map_append]
    congr 1
    · exact map_shift _ _ _ _ _ (fun k hk => by rw [r.lo _ (by omega) (by omega)]; congr 1; omega)
    · exact map_shift _ _ _ _ _ (fun k hk => by rw [r.hi _ (by omega) (by omega)]; congr 1; omega), e1, List.map_append]
  exact List.perm_append_comm
theorem SameKeys.refl {α : Type} {f : α → Int} (l : List α) : SameKeys f l l := fun _ => rfl
theorem SameKeys.trans {α : Type} {f : α → Int} {l m n : List α} (h : SameKeys f l m) (k : SameKeys f m n) : SameKeys f l n := fun d => (h d).trans (k d)
/-- A merge's outcome. -/
structure Mgd (f : α → Int) (a b : Nat) (d d' : Array α) : Prop where
  perm : PermIn a b d d'
  sorted : SortedIn (ltF f) a b d'
  same : SameKeys f d'.toList d.toList
theorem srt_le {a b : Nat} {d : Array α} (h : SortedIn (ltF f) a b d) {i j : Nat} (h1 : a ≤ i) (h2 : i ≤ j) (h3 : j < b) : f d[i]! ≤ f d[j]! := by
  by_cases e : i = j
  · subst e; exact Int.le_refl _
  · exact ltF_false.1 (h i j h1 (by omega) h3)
theorem srt_of {a b : Nat} {d : Array α} (h : ∀ i j, a ≤ i → i < j → j < b → f d[i]! ≤ f d[j]!) : SortedIn (ltF f) a b d := fun i j h1 h2 h3 => ltF_false.2 (h i j h1 h2 h3)
theorem srt_glue {a m b : Nat} {d : Array α} (h1 : SortedIn (ltF f) a m d) (h2 : SortedIn (ltF f) m b d) (h : ∀ p q, a ≤ p → p < m → m ≤ q → q < b → f d[p]! ≤ f d[q]!) : SortedIn (ltF f) a b d := by
  refine srt_of (fun i j k1 k2 k3 => ?_)
  by_cases e1 : j < m
  · exact srt_le h1 k1 (by omega) e1
  · by_cases e2 : i < m
    · exact h i j k1 e2 (by omega) k3
    · exact srt_le h2 (by omega) (by omega) k3
/-- What a rotation of a part that ends a sorted part and one that begins the next leaves: two pairs of sorted parts, the one pair not above the other. -/
structure Parts (f : α → Int) (a s m e b : Nat) (d : Array α) : Prop where
  le : a ≤ s ∧ s ≤ m ∧ m ≤ e ∧ e ≤ b ∧ b ≤ d.size
  one : SortedIn (ltF f) a m d
  two : SortedIn (ltF f) m b d
  lo : a < s → e < b → f d[s - 1]! ≤ f d[e]!
  hi : s < m → m < e → f d[e - 1]! < f d[s]!
theorem Parts.strict {a s m e b : Nat} {d : Array α} (P : Parts f a s m e b d) (p q : Nat) (h1 : s ≤ p) (h2 : p < m) (h3 : m ≤ q) (h4 : q < e) : f d[q]! < f d[p]! := by
  have h := P.hi (by omega) (by omega)
  have k1 := srt_le P.one (i := s) (j := p) P.le.1 h1 h2
  have k2 := srt_le P.two (i := q) (j := e - 1) h3 (by omega) (by have := P.le; omega)
  omega
theorem Parts.cross {a s m e b : Nat} {d d2 : Array α} (P : Parts f a s m e b d) (r : Rot s m e d d2) (p q : Nat) (h1 : a ≤ p) (h2 : p < s + (e - m)) (h3 : s + (e - m) ≤ q) (h4 : q < b) : f d2[p]! ≤ f d2[q]! := by
  have hle := P.le
  -- where both come from
  have hp : (p < s ∧ d2[p]! = d[p]!) ∨ (s ≤ p ∧ d2[p]! = d[p + (m - s)]!) := by
    by_cases e1 : p < s
    · exact Or.inl ⟨e1, r.out p (Or.inl e1)⟩
    · exact Or.inr ⟨by omega, r.lo p (by omega) h2⟩
  have hq : (e ≤ q ∧ d2[q]! = d[q]!) ∨ (q < e ∧ d2[q]! = d[q - (e - m)]!) := by
    by_cases e1 : q < e
    · exact Or.inr ⟨e1, r.hi q h3 e1⟩
    · exact Or.inl ⟨by omega, r.out q (Or.inr (by omega))⟩
  rcases hp with ⟨p1, ep⟩ | ⟨p1, ep⟩ <;> rcases hq with ⟨q1, eq⟩ | ⟨q1, eq⟩ <;> rw [ep, eq]
  · have h := P.lo (by omega) (by omega)
    have k1 := srt_le P.one (i := p) (j := s - 1) h1 (by omega) (by omega)
    have k2 := srt_le P.two (i := e) (j := q) (by omega) q1 h4
    omega
  · exact srt_le P.one h1 (by omega) (by omega)
  · exact srt_le P.two (by omega) (by omega) h4
  · exact Int.le_of_lt (P.strict _ _ (by omega) (by omega) (by omega) (by omega))
theorem Parts.ones {a s m e b : Nat} {d d2 : Array α} (P : Parts f a s m e b d) (r : Rot s m e d d2) :
    SortedIn (ltF f) a s d2 ∧ SortedIn (ltF f) s (s + (e - m)) d2 ∧ SortedIn (ltF f) (s + (e - m)) e d2 ∧ SortedIn (ltF f) e b d2 := by
  have hle := P.le
  refine ⟨srt_of (fun i j h1 h2 h3 => ?_), srt_of (fun i j h1 h2 h3 => ?_), srt_of (fun i j h1 h2 h3 => ?_), srt_of (fun i j h1 h2 h3 => ?_)⟩
  · rw [r.out i (by omega), r.out j (by omega)]; exact srt_le P.one h1 (by omega) (by omega)
  · rw [r.lo i (by omega) (by omega), r.lo j (by omega) (by omega)]; exact srt_le P.two (by omega) (by omega) (by omega)
  · rw [r.hi i (by omega) (by omega), r.hi j (by omega) (by omega)]; exact srt_le P.one (by omega) (by omega) (by omega)
  · rw [r.out i (by omega), r.out j (by omega)]; exact srt_le P.two (by omega) (by omega) h3
/-- A rotation, and both pairs merged: the whole is. -/
theorem Parts.merged {a s m e b c : Nat} {d d2 d3 d4 : Array α} (P : Parts f a s m e b d) (r : Rot s m e d d2) (hc : c = s + (e - m)) (h3 : Mgd f a c d2 d3) (h4 : Mgd f c b d3 d4) : Mgd f a b d d4 := by
  subst hc
  have hle := P.le
  have hz2 := r.size
  have hz3 := h3.perm.1
  have p2 : PermIn a b d d2 := permIn_mono d d2 s e a b (by omega) (by omega) (by omega) (r.perm (by omega) (by omega) (by omega))
  have p3 : PermIn a b d2 d3 := permIn_mono d2 d3 a _ a b (by omega) (by omega) (by omega) h3.perm
  have p4 : PermIn a b d3 d4 := permIn_mono d3 d4 _ b a b (by omega) (by omega) (by omega) h4.perm
  refine ⟨permIn_trans _ _ _ a b (permIn_trans _ _ _ a b p2 p3) p4, ?_, h4.same.trans (h3.same.trans (r.same (by omega) (by omega) (by omega) (fun p q a1 a2 a3 a4 => P.strict p q a1 a2 a3 a4)))⟩
  refine srt_glue (m := s + (e - m)) (srt_of (fun i j k1 k2 k3 => ?_)) h4.sorted (fun p q k1 k2 k3 k4 => ?_)
  · rw [h4.perm.2.1 i (Or.inl (by omega)), h4.perm.2.1 j (Or.inl k3)]
    exact srt_le h3.sorted k1 (by omega) k3
  · rw [h4.perm.2.1 p (Or.inl k2)]
    have step1 : ∀ q, s + (e - m) ≤ q → q < b → ∀ p, a ≤ p → p < s + (e - m) → f d3[p]! ≤ f d2[q]! := fun q q1 q2 => permIn_all d2 d3 a (s + (e - m)) (fun x => f x ≤ f d2[q]!) (by omega) h3.perm (fun p p1 p2 => P.cross r p q p1 p2 q1 q2)
    have step2 : ∀ q, s + (e - m) ≤ q → q < b → f d3[p]! ≤ f d3[q]! := fun q q1 q2 => by rw [h3.perm.2.1 q (Or.inr q1)]; exact step1 q q1 q2 p k1 k2
    exact permIn_all d3 d4 (s + (e - m)) b (fun x => f d3[p]! ≤ f x) (by omega) h4.perm (fun q q1 q2 => step2 q q1 q2) q k3 k4
theorem Mgd.of_sorted {a b : Nat} {d : Array α} (h : SortedIn (ltF f) a b d) : Mgd f a b d d := ⟨permIn_refl d a b, h, SameKeys.refl _⟩
theorem srt_empty {a b : Nat} {d : Array α} (h : b ≤ a) : SortedIn (ltF f) a b d := fun i j h1 h2 h3 => by omega
theorem Parts.done_lo {a s m e b : Nat} {d d2 : Array α} (P : Parts f a s m e b d) (r : Rot s m e d d2) (h : s = a ∨ e = m) : Mgd f a (s + (e - m)) d2 d2 := by
  refine .of_sorted ?_
  obtain ⟨k1, k2, k3, k4⟩ := P.ones r
  rcases h with rfl | rfl
  · exact k2
  · rw [Nat.sub_self, Nat.add_zero]; exact k1
theorem Parts.done_hi {a s m e b : Nat} {d d2 : Array α} (P : Parts f a s m e b d) (r : Rot s m e d d2) (h : s = m ∨ e = b) : SortedIn (ltF f) (s + (e - m)) b d2 := by
  obtain ⟨k1, k2, k3, k4⟩ := P.ones r
  rcases h with rfl | rfl
  · rw [show s + (e - s) = e from by have := P.le; omega]; exact k4
  · exact k3
/-- Two neighbours out of order change places. -/
theorem swp_same {d : Array α} {j : Nat} (hj : j + 1 < d.size) (h : f d[j + 1]! < f d[j]!) : SameKeys f (swp d (j + 1) j).toList d.toList := by
  have r : Rot j (j + 1) (j + 2) d (swp d (j + 1) j) := Rot.down (m := j + 1) (Rot.right (j + 1) (j + 1 + 1) d (by omega)) (Nat.le_refl _) hj
  exact r.same (by omega) (by omega) (by omega) (fun p q h1 h2 h3 h4 => by
    obtain rfl : p = j := by omega
    obtain rfl : q = p + 1 := by omega
    exact h)
theorem inner_same (a : Nat) : ∀ (j : Nat) (d : Array α), j < d.size → SameKeys f (insInner (ltF f) a j d).toList d.toList
  | 0, d, _ => by unfold insInner; exact SameKeys.refl _
  | j + 1, d, hj => by
    unfold insInner
    split
    · rename_i hc
      simp only [Bool.and_eq_true, decide_eq_true_eq] at hc
      exact (inner_same a j _ (by rw [size_swp]; omega)).trans (swp_same hj (ltF_true.1 hc.2))
    · exact SameKeys.refl _
theorem inner_size (lt : α → α → Bool) (a : Nat) : ∀ (j : Nat) (d : Array α), (insInner lt a j d).size = d.size
  | 0, d => by unfold insInner; rfl
  | j + 1, d => by
    unfold insInner
    split
    · rw [inner_size lt a j, size_swp]
    · rfl
theorem outer_same (a b : Nat) : ∀ (n i : Nat) (d : Array α), n = b - i → b ≤ d.size → SameKeys f (insOuter (ltF f) a b i d).toList d.toList
  | 0, i, d, hn, hb => by rw [insOuter, if_neg (by omega)]; exact SameKeys.refl _
  | n + 1, i, d, hn, hb => by
    rw [insOuter, if_pos (by omega)]
    exact (outer_same a b n (i + 1) _ (by omega) (by rw [inner_size]; exact hb)).trans (inner_same a i d (by omega))
theorem ins_mgd (d : Array α) (a b : Nat) (hab : a ≤ b) (hb : b ≤ d.size) : Mgd f a b d (insertionSort (ltF f) d a b) := by
  have h := insertionSort_holds (lt := ltF f) swoF d a b hab hb
  exact ⟨h.1, h.2, by unfold insertionSort; exact outer_same a b _ (a + 1) d rfl hb⟩
/-- Blocks of s places each, each sorted, up to n. -/
def Bk (f : α → Int) (s n : Nat) (d : Array α) : Prop := ∀ k, SortedIn (ltF f) (k * s) (min (k * s + s) n) d
/-- Of blocks of s places some, those ahead of a, have become such of 2 s. -/
structure Half (f : α → Int) (s n q : Nat) (d0 d : Array α) : Prop where
  size : d.size = d0.size
  same : SameKeys f d.toList d0.toList
  two : ∀ k, k < q → SortedIn (ltF f) (k * (2 * s)) (min (k * (2 * s) + 2 * s) n) d
  one : ∀ k, 2 * q ≤ k → SortedIn (ltF f) (k * s) (min (k * s + s) n) d
theorem Half.start {s n : Nat} {d0 d : Array α} (h : Bk f s n d) (hz : d.size = d0.size) (hs : SameKeys f d.toList d0.toList) : Half f s n 0 d0 d :=
  ⟨hz, hs, fun k hk => by omega, fun k _ => h k⟩
theorem srt_congr {a b : Nat} {d d' : Array α} (h : SortedIn (ltF f) a b d) (he : ∀ i, a ≤ i → i < b → d'[i]! = d[i]!) : SortedIn (ltF f) a b d' := srt_of (fun i j h1 h2 h3 => by
  rw [he i h1 (by omega), he j (by omega) h3]; exact srt_le h h1 (by omega) h3)
theorem mul_le_q {k q s : Nat} (h : k < q) : k * s + s ≤ q * s := by
  have := Nat.mul_le_mul_right s (Nat.succ_le_of_lt h)
  rwa [Nat.succ_mul] at this
theorem Half.step {s n q b : Nat} {d0 d d' : Array α} (h : Half f s n q d0 d) (hb : b = min (q * (2 * s) + 2 * s) n) (hm : Mgd f (q * (2 * s)) b d d') : Half f s n (q + 1) d0 d' := by
  refine ⟨hm.perm.1.trans h.size, hm.same.trans h.same, fun k hk => ?_, fun k hk => ?_⟩
  · by_cases e : k = q
    · subst e; rw [← hb]; exact hm.sorted
    · have := mul_le_q (s := 2 * s) (show k < q by omega)
      exact srt_congr (h.two k (by omega)) (fun i h1 h2 => hm.perm.2.1 i (Or.inl (by omega)))
  · have h1 := Nat.mul_le_mul_right s (show 2 * (q + 1) ≤ k from hk)
    have h2 : 2 * (q + 1) * s = q * (2 * s) + 2 * s := by rw [Nat.mul_comm 2 (q + 1), Nat.mul_assoc, Nat.succ_mul]
    rw [h2] at h1
    exact srt_congr (h.one k (by omega)) (fun i i1 i2 => hm.perm.2.1 i (Or.inr (by omega)))
theorem Half.firstPart {s n q : Nat} {d0 d : Array α} (h : Half f s n q d0 d) (hn : q * (2 * s) + s ≤ n) : SortedIn (ltF f) (q * (2 * s)) (q * (2 * s) + s) d := by
  have := h.one (2 * q) (Nat.le_refl _)
  rw [show 2 * q * s = q * (2 * s) from by rw [Nat.mul_comm 2 q, Nat.mul_assoc], Nat.min_eq_left hn] at this
  exact this
theorem Half.secondPart {s n q : Nat} {d0 d : Array α} (h : Half f s n q d0 d) : SortedIn (ltF f) (q * (2 * s) + s) (min (q * (2 * s) + 2 * s) n) d := by
  have := h.one (2 * q + 1) (by omega)
  rw [show (2 * q + 1) * s = q * (2 * s) + s from by rw [Nat.succ_mul, Nat.mul_comm 2 q, Nat.mul_assoc], show q * (2 * s) + s + s = q * (2 * s) + 2 * s from by omega] at this
  exact this
/-- No whole pair of blocks is left, nor a block and a part of one. -/
theorem Half.last {s n q : Nat} {d0 d : Array α} (h : Half f s n q d0 d) (hn : n ≤ q * (2 * s) + s) : Bk f (2 * s) n d := fun k => by
  by_cases e : k < q
  · exact h.two k e
  · by_cases e2 : k = q
    · subst e2
      have := h.one (2 * k) (Nat.le_refl _)
      rw [show 2 * k * s = k * (2 * s) from by rw [Nat.mul_comm 2 k, Nat.mul_assoc]] at this
      refine srt_of (fun i j h1 h2 h3 => srt_le this h1 (by omega) (by omega))
    · have := Nat.mul_le_mul_right (2 * s) (show q + 1 ≤ k by omega)
      rw [Nat.succ_mul] at this
      exact srt_empty (by omega)
theorem Half.done {s n q : Nat} {d0 d : Array α} (h : Half f s n q d0 d) (hn : n ≤ q * (2 * s)) : Bk f (2 * s) n d := h.last (by omega)
/-- The first blocks, sorted each for itself. -/
structure Ins20 (f : α → Int) (n q : Nat) (d0 d : Array α) : Prop where
  size : d.size = d0.size
  same : SameKeys f d.toList d0.toList
  one : ∀ k, k < q → SortedIn (ltF f) (k * 20) (k * 20 + 20) d
theorem Ins20.start (n : Nat) (d : Array α) : Ins20 f n 0 d d := ⟨rfl, SameKeys.refl _, fun k hk => by omega⟩
theorem Ins20.step {n q : Nat} {d0 d d' : Array α} (h : Ins20 f n q d0 d) (hm : Mgd f (q * 20) (q * 20 + 20) d d') : Ins20 f n (q + 1) d0 d' := by
  refine ⟨hm.perm.1.trans h.size, hm.same.trans h.same, fun k hk => ?_⟩
  by_cases e : k = q
  · subst e; exact hm.sorted
  · exact srt_congr (h.one k (by omega)) (fun i i1 i2 => hm.perm.2.1 i (Or.inl (by omega)))
theorem Ins20.last {n q : Nat} {d0 d d' : Array α} (h : Ins20 f n q d0 d) (h1 : q * 20 ≤ n) (h2 : n < q * 20 + 20) (hm : Mgd f (q * 20) n d d') : d'.size = d0.size ∧ SameKeys f d'.toList d0.toList ∧ Bk f 20 n d' := by
  refine ⟨hm.perm.1.trans h.size, hm.same.trans h.same, fun k => ?_⟩
  by_cases e : k < q
  · exact srt_congr (srt_of (fun i j i1 i2 i3 => srt_le (h.one k e) i1 (by omega) (by omega))) (fun i i1 i2 => hm.perm.2.1 i (Or.inl (by omega)))
  · by_cases e2 : k = q
    · subst e2
      rw [Nat.min_eq_right (by omega)]; exact hm.sorted
    · exact srt_empty (by omega)
theorem Bk.all {s n : Nat} {d : Array α} (h : Bk f s n d) (hs : n ≤ s) : SortedIn (ltF f) 0 n d := by
  have := h 0
  rwa [Nat.zero_mul, Nat.zero_add, Nat.min_eq_right hs] at this
theorem rise_of_sorted {d : Array α} (h : SortedIn (ltF f) 0 d.size d) : Rise f d.toList := by
  unfold Rise
  rw [List.pairwise_iff_getElem]
  intro i j hi hj hij
  have := srt_le h (i := i) (j := j) (Nat.zero_le _) (by omega) (by simpa using hj)
  rw [getElem!_pos d i (by simpa using hi), getElem!_pos d j (by simpa using hj)] at this
  simpa using this
end
end Go.Proofs.YtdnkedifjaccoaaDoor.Ce
namespace Go.Proofs.YtdnkedifjaccoaaDoor.Ce
open Go.Shelf Go.RowKit Go.Lib Go.Sort Go.Proofs Go.Proofs.YtdnkedifjaccoaaDoorW.PrintWords
set_option linter.unusedVariables false
set_option linter.unusedSimpArgs false
theorem w64 {x : Int} {n : Nat} (h : x = n) (hn : n < 4611686018427387904) : wrap64 x = (n : Int) := by subst h; unfold wrap64; omega
section
variable {α : Type} [Inhabited α]
set_option maxHeartbeats 4000000 in
set_option maxRecDepth 1000000 in
theorem swr_is (enc : α → Value) (hO : OneCell enc) (blk off cap a b n : Nat) (d0 d : Array α) (w : World) (q : Nat) (cv : Value) (hH : Holds enc w blk off d0) (hz : d.size = d0.size) (hab : a + n ≤ b) (hb : b + n ≤ d.size) (hsz : d.size < 4611686018427387904) :
    Calls Tryd.prog 67 #[.slice (some ⟨blk, off, none⟩) d.size cap, .int .i64 a, .int .i64 b, .int .i64 n, cv] ((putRow enc w blk off d).drewN q) fun e w' => e = .returned (.tuple #[]) ∧ ∃ d', Swr a b n d d' ∧ ∃ m, w' = (putRow enc w blk off d').drewN m := by
  have hcl0 := hO.cells
  simp only [Value.cells] at hcl0
  have hst := hO.store Tryd.prog
  have mixed : Tryd.prog.follows .mixedOrders = true := by kernel_rfl
  have HH := Lib.hid hH
  clear hH
  go_enter Tryd.func67, Tryd.ntmps67
  go_wp2
  go_loopg [10] n (fun gk vi wr => ∃ (i m : Nat) (dk : Array α), vi = .int .i64 i ∧ i ≤ n ∧ n ≤ i + gk ∧ wr = (putRow enc w blk off dk).drewN m ∧ Hid (Swr a b i d dk))
  case atStart => exact ⟨0, q, d, rfl, Nat.zero_le _, by omega, rfl, Swr.zero a b d⟩
  case round =>
    obtain ⟨i, m, dk, rfl, hin, hg, rfl, HS⟩ := hrel
    by_cases hlt : i < n
    · have hltz : (i : Int) < (n : Int) := by omega
      have HWI := Lib.hid (show wrap64 ((i : Int) + 1) = ((i + 1 : Nat) : Int) from w64 (by omega) (by omega))
      have hsk := HS.out.size
      have hHk := holds_putRow enc w blk off d0 dk HH.out (hsk.trans hz)
      obtain ⟨x, hx⟩ : ∃ x, dk[a + i]! = x := ⟨_, rfl⟩
      obtain ⟨y, hy⟩ : ∃ y, dk[b + i]! = y := ⟨_, rfl⟩
      obtain ⟨cx, fx⟩ := hHk (a + i) (by omega)
      obtain ⟨cy, fy⟩ := hHk (b + i) (by omega)
      rw [hx] at cx
      rw [hy] at cy
      have hwa : wrap64 ((a : Int) + (i : Int)) = ((a + i : Nat) : Int) := w64 (by omega) (by omega)
      have hwb : wrap64 ((b : Int) + (i : Int)) = ((b + i : Nat) : Int) := w64 (by omega) (by omega)
      obtain ⟨p, hp⟩ : ∃ p, p = a + i := ⟨_, rfl⟩
      obtain ⟨r, hr⟩ : ∃ r, r = b + i := ⟨_, rfl⟩
      rw [← hp] at hwa hx cx fx
      rw [← hr] at hwb hy cy fy
      have hp1 : (p : Int) < (d.size : Int) := by omega
      have hr1 : (r : Int) < (d.size : Int) := by omega
      have hp0 : (0 : Int) ≤ (p : Int) := Int.natCast_nonneg p
      have hr0 : (0 : Int) ≤ (r : Int) := Int.natCast_nonneg r
      have hne : ¬ p = r := by omega
      have hne2 : ¬ r = p := by omega
      have HP := Lib.hid hp
      have HR := Lib.hid hr
      have HX := Lib.hid hx
      have HY := Lib.hid hy
      have HZ := Lib.hid (And.intro hab (And.intro hb (And.intro hsz (And.intro hsk hz))))
      clear hHk hp hr hx hy hab hb hsz hsk hz
      have cx' : ((putRow enc w blk off dk).drewN m).cell? ⟨blk, off + p, none⟩ = some (enc x) := cx
      have cy' : ((putRow enc w blk off dk).drewN m).cell? ⟨blk, off + r, none⟩ = some (enc y) := cy
      have fx' : ((putRow enc w blk off dk).drewN m).frozen? ⟨blk, off + p, none⟩ = false := fx
      have fy' : ((putRow enc w blk off dk).drewN m).frozen? ⟨blk, off + r, none⟩ = false := fy
      clear cx cy fx fy
      generalize hwq : (putRow enc w blk off dk).drewN m = wq at cx' cy' fx' fy' ⊢
      have HQ := Lib.hid hwq
      clear hwq
      go_wp2_with fail
      go_big_region_o
      all_goals go_wp2
      go_roundg (n - (i + 1))
      case measure => omega
      case rel =>
        obtain ⟨z1, z2, z3, z4, z5⟩ := HZ.out
        refine ⟨i + 1, m + 1, swp dk (a + i) (b + i), congrArg _ HWI.out, by omega, by omega, ?_, HS.out.step (by omega) (by omega)⟩
        rw [← HQ.out, ← HX.out, ← HY.out, HP.out, HR.out]
        exact swap_worldC enc w blk off dk m (a + i) (b + i) (by omega) (by omega)
    · have hltz : ¬ (i : Int) < (n : Int) := by omega
      go_wp2
      go_end0
      obtain rfl : i = n := by omega
      exact ⟨rfl, dk, HS.out, m, rfl⟩

end
end Go.Proofs.YtdnkedifjaccoaaDoor.Ce
namespace Go.Proofs.YtdnkedifjaccoaaDoor.Ce
open Go.Shelf Go.RowKit Go.Lib Go.Sort Go.Proofs Go.Proofs.YtdnkedifjaccoaaDoorW.PrintWords
set_option linter.unusedVariables false
set_option linter.unusedSimpArgs false
theorem w64_sub {m i : Nat} (h : i ≤ m) (hm : m < 4611686018427387904) : wrap64 ((m : Int) - (i : Int)) = ((m - i : Nat) : Int) := w64 (by omega) (by omega)
theorem w64_add {m i : Nat} (hm : m + i < 4611686018427387904) : wrap64 ((m : Int) + (i : Int)) = ((m + i : Nat) : Int) := w64 (by omega) hm
structure RotGt (a m b i j gk : Nat) : Prop where
  w : wrap64 ((i : Int) - (j : Int)) = ((i - j : Nat) : Int)
  me : i - j + j < gk
  pos : 0 < i - j
  le : a + (i - j) ≤ m
  im : i ≤ m
  jpos : 0 < j
  jb : m + j ≤ b
theorem RotGt.mk' {a m b i j gk : Nat} (hi : 0 < i) (hj : 0 < j) (him : a + i ≤ m) (hjb : m + j ≤ b) (hg : i + j ≤ gk) (hgt : j < i) (hz : b < 4611686018427387904) : RotGt a m b i j gk :=
  ⟨w64_sub (by omega) (by omega), by omega, by omega, by omega, by omega, hj, hjb⟩
structure RotLt (a m b i j gk : Nat) : Prop where
  w : wrap64 ((j : Int) - (i : Int)) = ((j - i : Nat) : Int)
  w2 : wrap64 (wrap64 ((m : Int) + (j : Int)) - (i : Int)) = ((m + j - i : Nat) : Int)
  me : i + (j - i) < gk
  pos : 0 < j - i
  le : m + (j - i) ≤ b
  im : i ≤ m
  ipos : 0 < i
  ai : a + i ≤ m
  lt : i < j
  s1 : m - i + i ≤ m + j - i
  s2 : m + j - i + i ≤ b
theorem RotLt.mk' {a m b i j gk : Nat} (hi : 0 < i) (hj : 0 < j) (him : a + i ≤ m) (hjb : m + j ≤ b) (hg : i + j ≤ gk) (hgt : ¬ j < i) (hne : ¬ i = j) (hz : b < 4611686018427387904) : RotLt a m b i j gk :=
  ⟨w64_sub (by omega) (by omega), by rw [w64_add (by omega)]; exact w64_sub (by omega) (by omega), by omega, by omega, by omega, by omega, hi, him, by omega, by omega, by omega⟩
section
variable {α : Type} [Inhabited α]
set_option maxHeartbeats 400000 in
set_option maxRecDepth 1000000 in
theorem rot_is (enc : α → Value) (hO : OneCell enc) (blk off cap a m b : Nat) (d0 d : Array α) (w : World) (q : Nat) (cv : Value) (hH : Holds enc w blk off d0) (hz : d.size = d0.size) (ham : a < m) (hmb : m < b) (hb : b ≤ d.size) (hsz : d.size < 4611686018427387904) :
    Calls Tryd.prog 63 #[.slice (some ⟨blk, off, none⟩) d.size cap, .int .i64 a, .int .i64 m, .int .i64 b, cv] ((putRow enc w blk off d).drewN q) fun e w' => e = .returned (.tuple #[]) ∧ ∃ d', Rot a m b d d' ∧ ∃ m, w' = (putRow enc w blk off d').drewN m := by
  have HH := Lib.hid hH
  have HO := Lib.hid hO
  clear hH hO
  have HW1 := Lib.hid (w64_sub (m := m) (i := a) (Nat.le_of_lt ham) (by omega))
  have HW2 := Lib.hid (w64_sub (m := b) (i := m) (Nat.le_of_lt hmb) (by omega))
  have HZ := Lib.hid (And.intro ham (And.intro hmb (And.intro hb (And.intro (Nat.lt_of_le_of_lt hb hsz) (And.intro hz hsz)))))
  clear ham hmb hb hsz hz
  go_enter Tryd.func63, Tryd.ntmps63
  go_wp2
  go_loopg [10, 11] (b - a) (fun gk vi vj wr => ∃ (i j q2 : Nat) (dk : Array α), vi = .int .i64 i ∧ vj = .int .i64 j ∧ 0 < i ∧ 0 < j ∧ a + i ≤ m ∧ m + j ≤ b ∧ i + j ≤ gk ∧ dk.size = d.size ∧ wr = (putRow enc w blk off dk).drewN q2 ∧ Hid (∀ d', Rot (m - i) m (m + j) dk d' → Rot a m b d d'))
  case atStart =>
    have Z := HZ.out
    refine ⟨m - a, b - m, q, d, congrArg _ HW1.out, congrArg _ HW2.out, by omega, by omega, by omega, by omega, by omega, rfl, rfl, (show ∀ d', _ from fun d' r => ?_)⟩
    rw [show m - (m - a) = a from by omega, show m + (b - m) = b from by omega] at r
    exact r
  case round =>
    obtain ⟨i, j, q2, dk, rfl, rfl, hi, hj, him, hjb, hg, hsk, rfl, HR⟩ := hrel
    have Z := HZ.out
    have hsz := Z.2.2.2.2.2
    have hwm : wrap64 ((m : Int) - (i : Int)) = ((m - i : Nat) : Int) := w64_sub (by omega) (by omega)
    by_cases hne : i = j
    · subst hne
      have hc := swr_is enc HO.out blk off cap (m - i) m i d0 dk w q2 cv HH.out (hsk.trans Z.2.2.2.2.1) (by omega) (by omega) (by omega)
      rw [hsk] at hc
      have HC := Lib.hid hc
      have HIM := Lib.hid (show i ≤ m by omega)
      clear hc Z hsz hi hj him hjb hg
      go_wp2_with (first | (go_at_call 67; refine HC.out.mono ?_; rintro _ w2 ⟨rfl, d2, hs2, q3, rfl⟩; have HS := Lib.hid hs2; clear hs2))
      go_end0
      exact ⟨rfl, d2, HR.out d2 (HS.out.last HIM.out), q3, rfl⟩
    · have hnez : ¬ (i : Int) = (j : Int) := by omega
      by_cases hgt : j < i
      · have hgtz : (j : Int) < (i : Int) := by omega
        have HF := Lib.hid (RotGt.mk' hi hj him hjb hg hgt Z.2.2.2.1)
        have hc := swr_is enc HO.out blk off cap (m - i) m j d0 dk w q2 cv HH.out (hsk.trans Z.2.2.2.2.1) (by omega) (by omega) (by omega)
        rw [hsk] at hc
        have HC := Lib.hid hc
        have HM := Lib.hid (fun (d2 d' : Array α) (s2 : Swr (m - i) m j dk d2) (r : Rot (m - (i - j)) m (m + j) d2 d') => HR.out d' (s2.more HF.out.im hgt r))
        have HSK := Lib.hid hsk
        clear hc Z hsz HR hg hi hj him hjb hsk hgt hne
        go_wp2_with (first | (go_at_call 67; refine HC.out.mono ?_; rintro _ w2 ⟨rfl, d2, hs2, q3, rfl⟩; have HS := Lib.hid hs2; clear hs2))
        go_roundg (i - j + j)
        case measure => exact HF.out.me
        case rel => exact ⟨i - j, j, q3, d2, congrArg _ HF.out.w, rfl, HF.out.pos, HF.out.jpos, HF.out.le, HF.out.jb, Nat.le_refl _, HS.out.size.trans HSK.out, rfl, Lib.hid (fun d' r => HM.out d2 d' HS.out r)⟩
      · have hgtz : ¬ (j : Int) < (i : Int) := by omega
        have HF := Lib.hid (RotLt.mk' hi hj him hjb hg hgt hne Z.2.2.2.1)
        have hwn := HF.out.w2
        have hc := swr_is enc HO.out blk off cap (m - i) (m + j - i) i d0 dk w q2 cv HH.out (hsk.trans Z.2.2.2.2.1) HF.out.s1 (Nat.le_trans HF.out.s2 (hsk ▸ Z.2.2.1)) (by omega)
        rw [hsk] at hc
        obtain ⟨r0, hr0⟩ : ∃ r0, r0 = m + j - i := ⟨_, rfl⟩
        rw [← hr0] at hwn hc
        have HR0 := Lib.hid hr0
        have HC := Lib.hid hc
        have HM := Lib.hid (fun (d2 d' : Array α) (s2 : Swr (m - i) r0 i dk d2) (r : Rot (m - i) m (m + (j - i)) d2 d') => HR.out d' (Swr.less (hr0 ▸ s2) HF.out.im HF.out.lt r))
        have HSK := Lib.hid hsk
        clear hc Z hsz HR hg hi hj him hjb hsk hgt hne hr0
        go_wp2_with (first | (go_at_call 67; refine HC.out.mono ?_; rintro _ w2 ⟨rfl, d2, hs2, q3, rfl⟩; have HS := Lib.hid hs2; clear hs2))
        go_roundg (i + (j - i))
        case measure => exact HF.out.me
        case rel => exact ⟨i, j - i, q3, d2, rfl, congrArg _ HF.out.w, HF.out.ipos, HF.out.pos, HF.out.ai, HF.out.le, Nat.le_refl _, HS.out.size.trans HSK.out, rfl, Lib.hid (fun d' r => HM.out d2 d' HS.out r)⟩
end
end Go.Proofs.YtdnkedifjaccoaaDoor.Ce
namespace Go.Proofs.YtdnkedifjaccoaaDoor.Ce
open Go.Shelf Go.RowKit Go.Lib Go.Sort Go.Proofs Go.Proofs.YtdnkedifjaccoaaDoorW.PrintWords
set_option linter.unusedVariables false
set_option linter.unusedSimpArgs false
theorem half_is {i j : Nat} (h : i + j < 4611686018427387904) : wrap64 (IntKind.u64.wrap (wrap64 ((i : Int) + (j : Int))) / 2) = (((i + j) / 2 : Nat) : Int) := by
  rw [w64_add h]
  have : IntKind.u64.wrap ((i + j : Nat) : Int) = ((i + j : Nat) : Int) := by
    show ((i + j : Nat) : Int) % 18446744073709551616 = _
    omega
  rw [this]
  exact w64 (by omega) (by omega)
structure HalfOk (i j h gk b : Nat) : Prop where
  ih : i ≤ h
  hj : h < j
  up : j ≤ h + 1 + (j - (h + 1))
  m1 : j - (h + 1) < gk
  lo : h ≤ i + (h - i)
  m2 : h - i < gk
  w : wrap64 (IntKind.u64.wrap (wrap64 ((i : Int) + (j : Int))) / 2) = (h : Int)
  w1 : wrap64 ((h : Int) + 1) = ((h + 1 : Nat) : Int)
theorem HalfOk.of {i j h gk b : Nat} (hh : h = (i + j) / 2) (hlt : i < j) (hg : j ≤ i + gk) (hj : j ≤ b) (hb : b < 2305843009213693952) : HalfOk i j h gk b :=
  ⟨by omega, by omega, by omega, by omega, by omega, by omega, by rw [half_is (by omega), hh], w64_add (m := h) (i := 1) (by omega)⟩
/-- What a round of the going up knows. -/
structure UpOk (k i1 gk b : Nat) : Prop where
  w : wrap64 ((k : Int) + 1) = ((k + 1 : Nat) : Int)
  m : i1 - (k + 1) < gk
  up : i1 ≤ k + 1 + (i1 - (k + 1))
theorem UpOk.of {k i1 gk b : Nat} (hlt : k < i1) (hg : i1 ≤ k + gk) (hb : i1 < b) (hz : b < 2305843009213693952) : UpOk k i1 gk b := ⟨w64_add (m := k) (i := 1) (by omega), by omega, by omega⟩
theorem rot_merged {α : Type} [Inhabited α] {f : α → Int} {a m s e b : Nat} {d d2 : Array α} (P : Parts f a s m e b d) (r : Rot s m e d d2) (hL : a < s → m < e → f d[s - 1]! ≤ f d[m]!) (hH : s < m → e < b → f d[m - 1]! ≤ f d[e]!) : Mgd f a b d d2 := by
  have hle := P.le
  obtain ⟨o1, o2, o3, o4⟩ := P.ones r
  refine P.merged r rfl (.of_sorted (srt_glue o1 o2 (fun p q h1 h2 h3 h4 => ?_))) (.of_sorted (srt_glue o3 o4 (fun p q h1 h2 h3 h4 => ?_)))
  · rw [r.out p (Or.inl h2), r.lo q h3 h4]
    have k1 := srt_le P.one (i := p) (j := s - 1) h1 (by omega) (by omega)
    have k2 := srt_le P.two (i := m) (j := q + (m - s)) (by omega) (by omega) (by omega)
    have := hL (by omega) (by omega)
    omega
  · rw [r.hi p h1 h2, r.out q (Or.inr h3)]
    have k1 := srt_le P.one (i := p - (e - m)) (j := m - 1) (by omega) (by omega) (by omega)
    have k2 := srt_le P.two (i := e) (j := q) (by omega) h3 h4
    have := hH (by omega) (by omega)
    omega
section
variable {α : Type} [Inhabited α]
/-- What is asked of the comparing, at any row and any number of draws. -/
theorem cmp_at {enc : α → Value} {cf : α → α → Int} {g blk off n : Nat} {cb : Array Value} {w : World} (h : CmpReads Tryd.prog g cb enc cf blk off n w) (X : Array α) (x y : α) (hX : X.size = n) (m k : Nat) :
    Calls Tryd.prog g (#[enc x, enc y] ++ cb) (((putRow enc w blk off X).drewN m).drewN k) fun e w' => e = .returned (.int .i64 (cf x y)) ∧ ∃ q, w' = (((putRow enc w blk off X).drewN m).drewN k).drewN q := by
  have := h (m + k) #[] X hX x y
  rw [sortWorld_none, ← World.drewN_drewN] at this
  exact this
set_option maxHeartbeats 1000000 in
set_option maxRecDepth 1000000 in
theorem sym_a (f : α → Int) (enc : α → Value) (hO : OneCell enc) (g : Nat) (cb : Array Value) (blk off cap a m b : Nat) (d0 d : Array α) (w : World) (q : Nat)
    (eg : ∀ args w, (callFunc g args).run Tryd.prog w = .ok (.enter g args) w) (hcmp : CmpReads Tryd.prog g cb enc (fun x y => f x - f y) blk off d0.size w) (hH : Holds enc w blk off d0) (hz : d.size = d0.size) (ham : a + 1 = m) (hmb : m < b) (hb : b ≤ d.size) (hsz : d.size < 2305843009213693952)
    (h1 : SortedIn (ltF f) a m d) (h2 : SortedIn (ltF f) m b d) :
    Calls Tryd.prog 56 #[.slice (some ⟨blk, off, none⟩) d.size cap, .int .i64 a, .int .i64 m, .int .i64 b, .func (.func g) #[] cb] ((putRow enc w blk off d).drewN q) fun e w' => e = .returned (.tuple #[]) ∧ ∃ d', Mgd f a b d d' ∧ ∃ q, w' = (putRow enc w blk off d').drewN q := by
  have hcl0 := hO.cells
  simp only [Value.cells] at hcl0
  have hst := hO.store Tryd.prog
  have mixed : Tryd.prog.follows .mixedOrders = true := by kernel_rfl
  have HH := Lib.hid hH
  have HC := Lib.hid (fun X x y hX m k => cmp_at hcmp X x y hX m k)
  have hm1 : wrap64 ((m : Int) - (a : Int)) = 1 := w64 (n := 1) (by omega) (by omega)
  have HZ := Lib.hid (And.intro ham (And.intro hmb (And.intro hb (And.intro hsz hz))))
  have HS := Lib.hid (And.intro h1 h2)
  clear hH hcmp h1 h2 ham hmb hb hsz hz
  go_enter Tryd.func56, Tryd.ntmps56
  go_wp2
  clear hm1
  go_loopg [10, 11] (b - m) (fun gk vi vj wr => ∃ (i j q2 : Nat), vi = .int .i64 i ∧ vj = .int .i64 j ∧ m ≤ i ∧ i ≤ j ∧ j ≤ b ∧ j ≤ i + gk ∧ wr = (putRow enc w blk off d).drewN q2 ∧ Hid ((i = m ∨ f d[i - 1]! < f d[a]!) ∧ (j = b ∨ f d[a]! ≤ f d[j]!)))
  case atStart =>
    have Z := HZ.out
    exact ⟨m, b, q, rfl, rfl, Nat.le_refl _, by omega, Nat.le_refl _, by omega, rfl, ⟨Or.inl rfl, Or.inl rfl⟩⟩
  case round =>
    obtain ⟨i, j, q2, rfl, rfl, hi, hij, hj, hg, rfl, HI⟩ := hrel
    by_cases hlt : i < j
    · have hltz : (i : Int) < (j : Int) := by omega
      obtain ⟨z1, z2, z3, z4, z5⟩ := HZ.out
      obtain ⟨h, hh⟩ : ∃ h, h = (i + j) / 2 := ⟨_, rfl⟩
      have HO := Lib.hid (HalfOk.of (b := b) hh hlt hg hj (Nat.lt_of_le_of_lt z3 z4))
      have hw := HO.out.w
      have HN := Lib.hid (And.intro hi (And.intro hj (Nat.lt_of_lt_of_le HO.out.hj (Nat.le_trans hj z3))))
      have hHd := holds_putRow enc w blk off d0 d HH.out z5
      obtain ⟨x, hx⟩ : ∃ x, d[h]! = x := ⟨_, rfl⟩
      obtain ⟨y, hy⟩ : ∃ y, d[a]! = y := ⟨_, rfl⟩
      obtain ⟨cx, fx⟩ := hHd h HN.out.2.2
      obtain ⟨cy, fy⟩ := hHd a (by omega)
      rw [hx] at cx
      rw [hy] at cy
      have hh1 : (h : Int) < (d.size : Int) := Int.ofNat_lt.2 HN.out.2.2
      have ha1 : (a : Int) < (d.size : Int) := by omega
      have hh0 : (0 : Int) ≤ (h : Int) := Int.natCast_nonneg h
      have ha0 : (0 : Int) ≤ (a : Int) := Int.natCast_nonneg a
      have hc := HC.out d x y z5 q2
      have cx' : ((putRow enc w blk off d).drewN q2).cell? ⟨blk, off + h, none⟩ = some (enc x) := cx
      have cy' : ((putRow enc w blk off d).drewN q2).cell? ⟨blk, off + a, none⟩ = some (enc y) := cy
      have HX := Lib.hid hx
      have HY := Lib.hid hy
      clear cx cy fx fy hHd hx hy z1 z2 z3 z4 z5 hh hi hj hij hg hlt
      generalize hwq : (putRow enc w blk off d).drewN q2 = wq at cx' cy' hc ⊢
      have HQ := Lib.hid hwq
      clear hwq
      by_cases hlv : f x - f y < 0
      · go_wp2_with fail
        go_quiet_o (first | (go_at_fn g; refine Calls.quiet_of (hc _)))
        go_wp2_with fail
        go_roundg (j - (h + 1))
        case measure => exact HO.out.m1
        case rel => exact ⟨h + 1, j, _, congrArg _ HO.out.w1, rfl, Nat.le_succ_of_le (Nat.le_trans HN.out.1 HO.out.ih), HO.out.hj, HN.out.2.1, HO.out.up, by rw [← HQ.out, World.drewN_drewN], Lib.hid ⟨Or.inr (by rw [Nat.add_sub_cancel, HX.out, HY.out]; exact Int.lt_of_sub_neg hlv), HI.out.2⟩⟩
      · go_wp2_with fail
        go_quiet_o (first | (go_at_fn g; refine Calls.quiet_of (hc _)))
        go_wp2_with fail
        go_roundg (h - i)
        case measure => exact HO.out.m2
        case rel => exact ⟨i, h, _, rfl, rfl, HN.out.1, HO.out.ih, Nat.le_trans (Nat.le_of_lt HO.out.hj) HN.out.2.1, HO.out.lo, by rw [← HQ.out, World.drewN_drewN], Lib.hid ⟨HI.out.1, Or.inr (by rw [HX.out, HY.out]; exact Int.le_of_sub_nonneg hlv)⟩⟩
    · have hltz : ¬ (i : Int) < (j : Int) := by omega
      obtain rfl : i = j := by omega
      obtain ⟨i1, hi1⟩ : ∃ i1, i1 = i - 1 := ⟨_, rfl⟩
      have hwi : wrap64 ((i : Int) - 1) = (i1 : Int) := by have Z := HZ.out; exact w64 (by omega) (by omega)
      have HN := Lib.hid (And.intro (show i = i1 + 1 by have Z := HZ.out; omega) (And.intro (show a ≤ i1 by have Z := HZ.out; omega) (And.intro hi hj)))
      clear hi hj hij hg hlt hi1
      go_wp2_with fail
      go_loopg [13] (i1 - a) (fun gk vk wr => ∃ (k q3 : Nat) (dk : Array α), vk = .int .i64 k ∧ a ≤ k ∧ k ≤ i1 ∧ i1 ≤ k + gk ∧ wr = (putRow enc w blk off dk).drewN q3 ∧ Hid (Rot a (a + 1) (k + 1) d dk))
      case atStart => exact ⟨a, q2, d, rfl, Nat.le_refl _, HN.out.2.1, by have := HN.out; omega, rfl, Lib.hid (Rot.left a (a + 1) d (Nat.le_succ _))⟩
      case round =>
        obtain ⟨k, q3, dk, rfl, hk1, hk2, hk3, rfl, HR⟩ := hrel
        by_cases hkt : k < i1
        · have hktz : (k : Int) < (i1 : Int) := by omega
          have hZ := HZ.out
          have hNN := HN.out
          have hU : UpOk k i1 gk b := UpOk.of hkt hk3 (by omega) (by omega)
          have HU := Lib.hid hU
          have hwk := hU.w
          obtain ⟨k1, hk1e⟩ : ∃ k1, k1 = k + 1 := ⟨_, rfl⟩
          rw [← hk1e] at hwk
          have hsk := HR.out.size
          have hHk := holds_putRow enc w blk off d0 dk HH.out (hsk.trans hZ.2.2.2.2)
          obtain ⟨x, hx⟩ : ∃ x, dk[k]! = x := ⟨_, rfl⟩
          obtain ⟨y, hy⟩ : ∃ y, dk[k1]! = y := ⟨_, rfl⟩
          obtain ⟨cx, fx⟩ := hHk k (by omega)
          obtain ⟨cy, fy⟩ := hHk k1 (by omega)
          rw [hx] at cx
          rw [hy] at cy
          have hp1 : (k : Int) < (d.size : Int) := by omega
          have hr1 : (k1 : Int) < (d.size : Int) := by omega
          have hp0 : (0 : Int) ≤ (k : Int) := Int.natCast_nonneg k
          have hr0 : (0 : Int) ≤ (k1 : Int) := Int.natCast_nonneg k1
          have hne : ¬ k = k1 := by omega
          have hne2 : ¬ k1 = k := by omega
          have HSW := Lib.hid (swap_worldC enc w blk off dk q3 k k1 (by omega) (by omega))
          have HST := Lib.hid (show Rot a (a + 1) (k + 1 + 1) d (swp dk k (k + 1)) from HR.out.up hk1 (by omega))
          have HK := Lib.hid (And.intro (Nat.le_succ_of_le hk1) (Nat.succ_le_of_lt hkt))
          have HE := Lib.hid hk1e
          have HX := Lib.hid hx
          have HY := Lib.hid hy
          clear hHk hx hy hsk hZ hNN hk1 hk2 hk3 hkt hU hk1e
          have cx' : ((putRow enc w blk off dk).drewN q3).cell? ⟨blk, off + k, none⟩ = some (enc x) := cx
          have cy' : ((putRow enc w blk off dk).drewN q3).cell? ⟨blk, off + k1, none⟩ = some (enc y) := cy
          have fx' : ((putRow enc w blk off dk).drewN q3).frozen? ⟨blk, off + k, none⟩ = false := fx
          have fy' : ((putRow enc w blk off dk).drewN q3).frozen? ⟨blk, off + k1, none⟩ = false := fy
          clear cx cy fx fy
          generalize hwq : (putRow enc w blk off dk).drewN q3 = wq at cx' cy' fx' fy' ⊢
          have HQ := Lib.hid hwq
          clear hwq
          go_wp2_with fail
          go_big_region_o
          all_goals go_wp2
          go_roundg (i1 - (k + 1))
          case measure => exact HU.out.m
          case rel => exact ⟨k + 1, q3 + 1, swp dk k (k + 1), congrArg _ HU.out.w, HK.out.1, HK.out.2, HU.out.up, by rw [← HQ.out, ← HX.out, ← HY.out, HSW.out, HE.out], HST⟩
        · have hktz : ¬ (k : Int) < (i1 : Int) := by omega
          obtain rfl : k = i1 := by omega
          clear hk1 hk2 hk3 hkt
          go_wp2
          (try simp only [Exit.inBlock, Exit.then])
          refine bodyPost_ret (results_none rfl _ _ _) rfl ?_
          refine ⟨rfl, dk, ?_, q3, rfl⟩
          obtain ⟨e1, e2, e3, e4⟩ := HN.out
          obtain ⟨z1, z2, z3, z4, z5⟩ := HZ.out
          subst z1
          have hr := HR.out
          rw [← e1] at hr
          refine rot_merged (s := a) (e := i) ⟨⟨Nat.le_refl _, by omega, e3, e4, z3⟩, HS.out.1, HS.out.2, fun h => by omega, fun h h2 => ?_⟩ hr (fun h => by omega) (fun h1 h2 => ?_)
          · rcases HI.out.1 with h3 | h3
            · omega
            · exact h3
          · rcases HI.out.2 with h3 | h3
            · omega
            · exact h3
end
end Go.Proofs.YtdnkedifjaccoaaDoor.Ce
namespace Go.Proofs.YtdnkedifjaccoaaDoor.Ce
open Go.Shelf Go.RowKit Go.Lib Go.Sort Go.Proofs Go.Proofs.YtdnkedifjaccoaaDoorW.PrintWords
set_option linter.unusedVariables false
set_option linter.unusedSimpArgs false
section
variable {α : Type} [Inhabited α]
/-- What a round of the going down knows. -/
structure DnOk (k i k1 gk m : Nat) : Prop where
  w : wrap64 ((k : Int) - 1) = (k1 : Int)
  e : k = k1 + 1
  me : k1 - i < gk
  up : k1 ≤ i + (k1 - i)
  le : i ≤ k1
  km : k1 + 1 ≤ m
theorem DnOk.of {k i gk m : Nat} (hlt : i < k) (hg : k ≤ i + gk) (hk : k ≤ m) (hz : m < 2305843009213693952) : DnOk k i (k - 1) gk m :=
  ⟨w64_sub (m := k) (i := 1) (by omega) (by omega), by omega, by omega, by omega, by omega, by omega⟩
set_option maxHeartbeats 1000000 in
set_option maxRecDepth 1000000 in
theorem sym_b (f : α → Int) (enc : α → Value) (hO : OneCell enc) (g : Nat) (cb : Array Value) (blk off cap a m b : Nat) (d0 d : Array α) (w : World) (q : Nat)
    (eg : ∀ args w, (callFunc g args).run Tryd.prog w = .ok (.enter g args) w) (hcmp : CmpReads Tryd.prog g cb enc (fun x y => f x - f y) blk off d0.size w) (hH : Holds enc w blk off d0) (hz : d.size = d0.size) (ham : a + 1 < m) (hmb : m + 1 = b) (hb : b ≤ d.size) (hsz : d.size < 2305843009213693952)
    (h1 : SortedIn (ltF f) a m d) (h2 : SortedIn (ltF f) m b d) :
    Calls Tryd.prog 56 #[.slice (some ⟨blk, off, none⟩) d.size cap, .int .i64 a, .int .i64 m, .int .i64 b, .func (.func g) #[] cb] ((putRow enc w blk off d).drewN q) fun e w' => e = .returned (.tuple #[]) ∧ ∃ d', Mgd f a b d d' ∧ ∃ q, w' = (putRow enc w blk off d').drewN q := by
  have hcl0 := hO.cells
  simp only [Value.cells] at hcl0
  have hst := hO.store Tryd.prog
  have mixed : Tryd.prog.follows .mixedOrders = true := by kernel_rfl
  have HH := Lib.hid hH
  have HC := Lib.hid (fun X x y hX m k => cmp_at hcmp X x y hX m k)
  obtain ⟨e1, he1⟩ : ∃ e1, e1 = m - a := ⟨_, rfl⟩
  have hm1 : wrap64 ((m : Int) - (a : Int)) = (e1 : Int) := w64 (by omega) (by omega)
  have he2 : ((e1 : Int) == 1) = false := by rw [beq_eq_false_iff_ne]; omega
  clear he1
  have hm2 : wrap64 ((b : Int) - (m : Int)) = 1 := w64 (n := 1) (by omega) (by omega)
  have HZ := Lib.hid (And.intro ham (And.intro hmb (And.intro hb (And.intro hsz hz))))
  have HS := Lib.hid (And.intro h1 h2)
  clear hH hcmp h1 h2 ham hmb hb hsz hz
  go_enter Tryd.func56, Tryd.ntmps56
  go_wp2
  clear hm1 hm2 he2
  go_loopg [14, 15] (m - a) (fun gk vi vj wr => ∃ (i j q2 : Nat), vi = .int .i64 i ∧ vj = .int .i64 j ∧ a ≤ i ∧ i ≤ j ∧ j ≤ m ∧ j ≤ i + gk ∧ wr = (putRow enc w blk off d).drewN q2 ∧ Hid ((i = a ∨ f d[i - 1]! ≤ f d[m]!) ∧ (j = m ∨ f d[m]! < f d[j]!)))
  case atStart =>
    have Z := HZ.out
    exact ⟨a, m, q, rfl, rfl, Nat.le_refl _, by omega, Nat.le_refl _, by omega, rfl, ⟨Or.inl rfl, Or.inl rfl⟩⟩
  case round =>
    obtain ⟨i, j, q2, rfl, rfl, hi, hij, hj, hg, rfl, HI⟩ := hrel
    by_cases hlt : i < j
    · have hltz : (i : Int) < (j : Int) := by omega
      obtain ⟨z1, z2, z3, z4, z5⟩ := HZ.out
      obtain ⟨h, hh⟩ : ∃ h, h = (i + j) / 2 := ⟨_, rfl⟩
      have HO := Lib.hid (HalfOk.of (b := m) hh hlt hg hj (by omega))
      have hw := HO.out.w
      have HN := Lib.hid (And.intro hi (And.intro hj (show h < d.size by have := HO.out.hj; clear hw; omega)))
      have hHd := holds_putRow enc w blk off d0 d HH.out z5
      obtain ⟨x, hx⟩ : ∃ x, d[h]! = x := ⟨_, rfl⟩
      obtain ⟨y, hy⟩ : ∃ y, d[m]! = y := ⟨_, rfl⟩
      obtain ⟨cx, fx⟩ := hHd h HN.out.2.2
      obtain ⟨cy, fy⟩ := hHd m (by clear hw; omega)
      rw [hx] at cx
      rw [hy] at cy
      have hh1 : (h : Int) < (d.size : Int) := Int.ofNat_lt.2 HN.out.2.2
      have ha1 : (m : Int) < (d.size : Int) := by clear hw; omega
      have hh0 : (0 : Int) ≤ (h : Int) := Int.natCast_nonneg h
      have ha0 : (0 : Int) ≤ (m : Int) := Int.natCast_nonneg m
      have hc := HC.out d y x z5 q2
      have cx' : ((putRow enc w blk off d).drewN q2).cell? ⟨blk, off + h, none⟩ = some (enc x) := cx
      have cy' : ((putRow enc w blk off d).drewN q2).cell? ⟨blk, off + m, none⟩ = some (enc y) := cy
      have HX := Lib.hid hx
      have HY := Lib.hid hy
      clear cx cy fx fy hHd hx hy z1 z2 z3 z4 z5 hh hi hj hij hg hlt
      generalize hwq : (putRow enc w blk off d).drewN q2 = wq at cx' cy' hc ⊢
      have HQ := Lib.hid hwq
      clear hwq
      by_cases hlv : f y - f x < 0
      · go_wp2_with fail
        go_quiet_o (first | (go_at_fn g; refine Calls.quiet_of (hc _)))
        go_wp2_with fail
        go_roundg (h - i)
        case measure => exact HO.out.m2
        case rel => exact ⟨i, h, _, rfl, rfl, HN.out.1, HO.out.ih, Nat.le_trans (Nat.le_of_lt HO.out.hj) HN.out.2.1, HO.out.lo, by rw [← HQ.out, World.drewN_drewN], Lib.hid ⟨HI.out.1, Or.inr (by rw [HX.out, HY.out]; exact Int.lt_of_sub_neg hlv)⟩⟩
      · go_wp2_with fail
        go_quiet_o (first | (go_at_fn g; refine Calls.quiet_of (hc _)))
        go_wp2_with fail
        rotate_left
        · rename_i hno
          exact absurd hno (by rw [decide_eq_false (Int.not_lt.2 hlv)]; decide)
        go_roundg (j - (h + 1))
        case measure => exact HO.out.m1
        case rel => exact ⟨h + 1, j, _, congrArg _ HO.out.w1, rfl, Nat.le_succ_of_le (Nat.le_trans HN.out.1 HO.out.ih), HO.out.hj, HN.out.2.1, HO.out.up, by rw [← HQ.out, World.drewN_drewN], Lib.hid ⟨Or.inr (by rw [Nat.add_sub_cancel, HX.out, HY.out]; exact Int.le_of_sub_nonneg hlv), HI.out.2⟩⟩
    · have hltz : ¬ (i : Int) < (j : Int) := by omega
      obtain rfl : i = j := by omega
      have HN := Lib.hid (And.intro hi hj)
      clear hi hj hij hg hlt
      go_wp2_with fail
      go_loopg [17] (m - i) (fun gk vk wr => ∃ (k q3 : Nat) (dk : Array α), vk = .int .i64 k ∧ i ≤ k ∧ k ≤ m ∧ k ≤ i + gk ∧ wr = (putRow enc w blk off dk).drewN q3 ∧ Hid (Rot k m (m + 1) d dk))
      case atStart => exact ⟨m, q2, d, rfl, HN.out.2, Nat.le_refl _, by have := HN.out; omega, rfl, Lib.hid (Rot.right m (m + 1) d (Nat.le_succ _))⟩
      case round =>
        obtain ⟨k, q3, dk, rfl, hk1, hk2, hk3, rfl, HR⟩ := hrel
        by_cases hkt : i < k
        · have hktz : (i : Int) < (k : Int) := by omega
          have hZ := HZ.out
          have hU : DnOk k i (k - 1) gk m := DnOk.of hkt hk3 hk2 (by omega)
          obtain ⟨k1, hk1e⟩ : ∃ k1, k1 = k - 1 := ⟨_, rfl⟩
          rw [← hk1e] at hU
          have HU := Lib.hid hU
          have hwk := hU.w
          have hke := hU.e
          have hsk := HR.out.size
          have hHk := holds_putRow enc w blk off d0 dk HH.out (hsk.trans hZ.2.2.2.2)
          obtain ⟨x, hx⟩ : ∃ x, dk[k]! = x := ⟨_, rfl⟩
          obtain ⟨y, hy⟩ : ∃ y, dk[k1]! = y := ⟨_, rfl⟩
          obtain ⟨cx, fx⟩ := hHk k (by clear hwk; omega)
          obtain ⟨cy, fy⟩ := hHk k1 (by clear hwk; omega)
          rw [hx] at cx
          rw [hy] at cy
          have hp1 : (k : Int) < (d.size : Int) := by clear hwk; omega
          have hr1 : (k1 : Int) < (d.size : Int) := by clear hwk; omega
          have hp0 : (0 : Int) ≤ (k : Int) := Int.natCast_nonneg k
          have hr0 : (0 : Int) ≤ (k1 : Int) := Int.natCast_nonneg k1
          have hne : ¬ k = k1 := by clear hwk; omega
          have hne2 : ¬ k1 = k := by clear hwk; omega
          have HSW := Lib.hid (swap_worldC enc w blk off dk q3 k k1 (by clear hwk; omega) (by clear hwk; omega))
          have HST := Lib.hid (show Rot k1 m (m + 1) d (swp dk k k1) from by
            have h3 : k1 + 1 ≤ m := hU.km
            have h4 : m < d.size := by clear hwk; omega
            have h := HR.out
            rw [hke] at h ⊢
            exact h.down h3 h4)
          have HX := Lib.hid hx
          have HY := Lib.hid hy
          clear hHk hx hy hsk hZ hk1 hk2 hk3 hkt hU hk1e hke
          have cx' : ((putRow enc w blk off dk).drewN q3).cell? ⟨blk, off + k, none⟩ = some (enc x) := cx
          have cy' : ((putRow enc w blk off dk).drewN q3).cell? ⟨blk, off + k1, none⟩ = some (enc y) := cy
          have fx' : ((putRow enc w blk off dk).drewN q3).frozen? ⟨blk, off + k, none⟩ = false := fx
          have fy' : ((putRow enc w blk off dk).drewN q3).frozen? ⟨blk, off + k1, none⟩ = false := fy
          clear cx cy fx fy
          generalize hwq : (putRow enc w blk off dk).drewN q3 = wq at cx' cy' fx' fy' ⊢
          have HQ := Lib.hid hwq
          clear hwq
          go_wp2_with fail
          go_big_region_o
          all_goals go_wp2
          go_roundg (k1 - i)
          case measure => exact HU.out.me
          case rel => exact ⟨k1, q3 + 1, swp dk k k1, congrArg _ HU.out.w, HU.out.le, Nat.le_of_succ_le HU.out.km, HU.out.up, by rw [← HQ.out, ← HX.out, ← HY.out, HSW.out], HST⟩
        · have hktz : ¬ (i : Int) < (k : Int) := by omega
          obtain rfl : k = i := by omega
          clear hk1 hk2 hk3 hkt
          go_wp2
          (try simp only [Exit.inBlock, Exit.then])
          refine bodyPost_ret (results_none rfl _ _ _) rfl ?_
          refine ⟨rfl, dk, ?_, q3, rfl⟩
          obtain ⟨e3, e4⟩ := HN.out
          obtain ⟨z1, z2, z3, z4, z5⟩ := HZ.out
          subst z2
          have hr := HR.out
          refine rot_merged (s := k) (e := m + 1) ⟨⟨e3, e4, by omega, Nat.le_refl _, z3⟩, HS.out.1, HS.out.2, fun h h2 => by omega, fun h h2 => ?_⟩ hr (fun h1 h2 => ?_) (fun h1 h2 => by omega)
          · rcases HI.out.2 with h3 | h3
            · omega
            · exact h3
          · rcases HI.out.1 with h3 | h3
            · omega
            · exact h3
end
end Go.Proofs.YtdnkedifjaccoaaDoor.Ce
