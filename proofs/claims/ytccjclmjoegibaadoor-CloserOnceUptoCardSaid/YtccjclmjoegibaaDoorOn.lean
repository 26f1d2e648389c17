/- Each ready part beneath is closed once; and the list turned about: in plain Lean. -/
import Derived.Test.YtccjclmjoegibaaDoorWr
import Derived.Test.YtccjclmjoegibaaDoorOc
namespace Go.Proofs.YtccjclmjoegibaaDoor.Ce
open Go.RowKit Go.Maps Go.Proofs.YtccjclmjoegibaaDoor Go.Proofs.YtccjclmjoegibaaDoorW.PrintWords Go.Proofs.YtccjclmjoegibaaDoorW.PrintLast Go.Proofs.YtccjclmjoegibaaDoorW.PrintMore PCloserOrders Hp
set_option linter.unusedVariables false
set_option linter.unusedSimpArgs false
theorem parts_all (sc pa : Int) (l : List S33) : ∀ n i : Nat, partsB sc pa l n i = true ↔ ∀ j : Nat, i ≤ j → j < i + n → rightB sc pa (rd_T33 l (j : Int)) = true
  | 0, i => by simp [partsB]; omega
  | n + 1, i => by
    rw [partsB, Bool.and_eq_true, parts_all sc pa l n (i + 1)]
    constructor
    · rintro ⟨h1, h2⟩ j hj1 hj2
      by_cases e : j = i
      · subst e; exact h1
      · exact h2 j (by omega) (by omega)
    · intro h
      exact ⟨h i (Nat.le_refl _) (by omega), fun j h1 h2 => h j (by omega) (by omega)⟩
theorem check_parts (up : List Int) (l : List S33) : checkE up l = 0 ↔ scopesE up = 0 ∧ l.length ≤ 256 ∧ ∀ j : Nat, j < l.length → rightB up.length l.length (rd_T33 l (j : Int)) = true := by
  have hp := parts_all up.length l.length l l.length 0
  unfold checkE
  by_cases h1 : scopesE up ≠ 0
  · rw [if_pos h1]
    exact ⟨fun h => absurd h h1, fun h => absurd h.1 h1⟩
  · rw [if_neg h1]
    have h0 := Classical.not_not.1 h1
    by_cases h2 : l.length > 256
    · rw [if_pos h2]
      exact ⟨fun h => absurd h (by decide), fun h => by omega⟩
    · rw [if_neg h2]
      by_cases h3 : partsB up.length l.length l l.length 0 = true
      · rw [if_pos h3]
        exact ⟨fun _ => ⟨h0, by omega, fun j hj => hp.1 h3 j (Nat.zero_le _) (by omega)⟩, fun _ => rfl⟩
      · rw [if_neg h3]
        exact ⟨fun h => absurd h (by decide), fun h => absurd (hp.2 (fun j _ hj => h.2.2 j (by omega))) h3⟩
theorem order_zero {up : List Int} {l : List S33} {top : Int} (h : orderE up l top = 0) : checkE up l = 0 ∧ 0 ≤ top ∧ top < up.length := by
  unfold orderE at h
  by_cases h1 : checkE up l ≠ 0
  · rw [if_pos h1] at h; exact absurd h h1
  · rw [if_neg h1] at h
    by_cases h2 : top < 0 ∨ top ≥ up.length
    · rw [if_pos h2] at h; exact absurd h (by decide)
    · exact ⟨Classical.not_not.1 h1, by omega, by omega⟩
theorem right_facts {sc pa : Int} {x : S33} (h : rightB sc pa x = true) : 0 ≤ x.f0 ∧ x.f0 < sc ∧ ∀ u ∈ x.f4, 0 ≤ u ∧ u < pa := by
  unfold rightB at h
  simp only [Bool.and_eq_true, decide_eq_true_eq, Bool.not_eq_true'] at h
  refine ⟨h.1, h.2.1, fun u hu => ?_⟩
  have h4 := h.2.2.2.2.2
  rw [List.any_eq_false] at h4
  have := h4 u hu
  unfold outB at this
  simp at this
  omega
theorem ClosedAs.mem {up : List Int} {l : List S33} {top : Int} {o : List Int} (C : ClosedAs up l top o) (x : Int) : x ∈ o ↔ 0 ≤ x ∧ x < l.length ∧ (rd_T33 l x).f2 = true ∧ 0 ≤ (rd_T33 l x).f0 ∧ (rd_T33 l x).f0 < up.length ∧ Up up top (rd_T33 l x).f0 := by
  obtain ⟨bs, outs, M, B, F, hl, ho, hg⟩ := C.ex
  rw [ho, List.mem_flatten]
  constructor
  · rintro ⟨q, hq, hx⟩
    obtain ⟨j, hj, rfl⟩ := List.mem_iff_getElem.1 hq
    have hG := hg j (bs[j]'(by omega)) _ (List.getElem?_eq_getElem (by omega)) (List.getElem?_eq_getElem hj)
    obtain ⟨h1, h2, h3, h4⟩ := (allF_mem l _ x l.length).1 ((hG.mem x).1 hx)
    obtain ⟨b0, b1, b2⟩ := (B.mem (bs[j]'(by omega))).1 (List.getElem_mem _)
    rw [h4]
    exact ⟨h1, h2, h3, b0, b1, b2⟩
  · rintro ⟨h1, h2, h3, h4, h5, h6⟩
    have hb := (B.mem _).2 ⟨h4, h5, h6⟩
    obtain ⟨j, hj, e⟩ := List.mem_iff_getElem.1 hb
    have hG := hg j bs[j] (outs[j]'(by omega)) (List.getElem?_eq_getElem hj) (List.getElem?_eq_getElem (by omega))
    exact ⟨outs[j]'(by omega), List.getElem_mem _, (hG.mem x).2 ((allF_mem l _ x l.length).2 ⟨h1, h2, h3, e.symm⟩)⟩
theorem ClosedAs.nodup {up : List Int} {l : List S33} {top : Int} {o : List Int} (C : ClosedAs up l top o) : o.Nodup := by
  obtain ⟨bs, outs, M, B, F, hl, ho, hg⟩ := C.ex
  rw [ho]
  show List.Pairwise (· ≠ ·) outs.flatten
  rw [List.pairwise_flatten]
  have hidx : ∀ (j : Nat) (h : j < outs.length), Hp.Good (aheadB l) (relP M) (allF l (bs[j]'(by omega)) l.length) outs[j] := fun j h => hg j _ _ (List.getElem?_eq_getElem (by omega)) (List.getElem?_eq_getElem h)
  refine ⟨fun q hq => ?_, ?_⟩
  · obtain ⟨j, hj, rfl⟩ := List.mem_iff_getElem.1 hq
    exact (hidx j hj).nodup
  · rw [List.pairwise_iff_getElem]
    intro p k hp hk hpk x hx y hy e
    subst e
    have h1 := ((allF_mem l _ x l.length).1 (((hidx p hp).mem x).1 hx)).2.2.2
    have h2 := ((allF_mem l _ x l.length).1 (((hidx k hk).mem x).1 hy)).2.2.2
    have hf := List.pairwise_iff_getElem.1 B.fall p k (by omega) (by omega) hpk
    omega
theorem count_one (x : Int) : ∀ {o : List Int}, o.Nodup → o.countP (fun y => y == x) = if x ∈ o then 1 else 0
  | [], _ => by simp
  | a :: r, h => by
    rw [List.nodup_cons] at h
    have ih := count_one x h.2
    rw [List.countP_cons, ih]
    by_cases e : a = x
    · subst e
      rw [if_neg h.1, if_pos (by simp), if_pos (by simp)]
    · have h1 : ¬ ((a == x) = true) := by simpa using e
      rw [if_neg h1]
      by_cases hx : x ∈ r
      · rw [if_pos hx, if_pos (List.mem_cons_of_mem _ hx)]
      · rw [if_neg hx, if_neg (fun q => by rcases List.mem_cons.1 q with z | z; exact e z.symm; exact hx z)]

/-! ### The list turned about -/
def turnP (n : Int) (x : S33) : S33 := { x with f4 := x.f4.map fun u => n - 1 - u }
def turnL (l : List S33) : List S33 := l.reverse.map (turnP l.length)
theorem turn_len (l : List S33) : (turnL l).length = l.length := by simp [turnL]
theorem turn_rd (l : List S33) (a : Int) (a0 : 0 ≤ a) (a1 : a < l.length) : rd_T33 (turnL l) a = turnP l.length (rd_T33 l ((l.length : Int) - 1 - a)) := by
  have h2 : ((l.length : Int) - 1 - a).toNat < l.length := by omega
  have hg : (turnL l)[a.toNat]? = some (turnP l.length (l[((l.length : Int) - 1 - a).toNat])) := by
    unfold turnL
    rw [List.getElem?_map, List.getElem?_reverse (by omega)]
    have e : l.length - 1 - a.toNat = ((l.length : Int) - 1 - a).toNat := by omega
    rw [e, List.getElem?_eq_getElem h2]
    rfl
  unfold rd_T33
  rw [List.getD_eq_getElem?_getD, List.getD_eq_getElem?_getD, hg, List.getElem?_eq_getElem h2]
  rfl
theorem turn_uses (l : List S33) (a : Int) (a0 : 0 ≤ a) (a1 : a < l.length) : usesOf (turnL l) a = (usesOf l ((l.length : Int) - 1 - a)).map fun u => (l.length : Int) - 1 - u := by
  unfold usesOf
  rw [turn_rd l a a0 a1]
  rfl
theorem turn_check {up : List Int} {l : List S33} (h : checkE up l = 0) : checkE up (turnL l) = 0 := by
  rw [check_parts] at h ⊢
  refine ⟨h.1, by rw [turn_len]; exact h.2.1, fun j hj => ?_⟩
  rw [turn_len] at hj ⊢
  have h1 := h.2.2 (l.length - 1 - j) (by omega)
  have e : (l.length : Int) - 1 - (j : Int) = ((l.length - 1 - j : Nat) : Int) := by omega
  rw [turn_rd l j (by omega) (by omega), e]
  have hf := right_facts h1
  unfold rightB at h1 ⊢
  simp only [Bool.and_eq_true, Bool.not_eq_true'] at h1 ⊢
  refine ⟨h1.1, h1.2.1, h1.2.2.1, h1.2.2.2.1, h1.2.2.2.2.1, ?_⟩
  rw [List.any_eq_false]
  intro u hu
  obtain ⟨v, hv, rfl⟩ := List.mem_map.1 hu
  have := hf.2.2 v hv
  unfold outB
  simp
  omega
theorem turn_valid {l : List S33} (V : Valid l) : Valid (turnL l) := by
  intro a a0 a1 x hx
  rw [turn_len] at a1 ⊢
  rw [turn_uses l a a0 a1] at hx
  obtain ⟨u, hu, rfl⟩ := List.mem_map.1 hx
  have := V _ (by omega) (by omega) u hu
  omega
theorem turn_rch1 {l : List S33} (V : Valid l) {a b : Int} (h : Rch (turnL l) a b) (a0 : 0 ≤ a) (a1 : a < l.length) : Rch l ((l.length : Int) - 1 - a) ((l.length : Int) - 1 - b) := by
  have VT := turn_valid V
  induction h with
  | one q =>
    rw [turn_uses l _ a0 a1] at q
    obtain ⟨u, hu, rfl⟩ := List.mem_map.1 q
    have : (l.length : Int) - 1 - ((l.length : Int) - 1 - u) = u := by omega
    rw [this]
    exact .one hu
  | more h q ih =>
    have hr := h.rng VT a0 (by rw [turn_len]; exact a1)
    rw [turn_len] at hr
    rw [turn_uses l _ hr.1 hr.2] at q
    obtain ⟨u, hu, rfl⟩ := List.mem_map.1 q
    have : (l.length : Int) - 1 - ((l.length : Int) - 1 - u) = u := by omega
    rw [this]
    exact .more ih hu
theorem turn_rch2 {l : List S33} (V : Valid l) {a b : Int} (h : Rch l a b) (a0 : 0 ≤ a) (a1 : a < l.length) : Rch (turnL l) ((l.length : Int) - 1 - a) ((l.length : Int) - 1 - b) := by
  induction h with
  | one q =>
    refine .one ?_
    rw [turn_uses l _ (by omega) (by omega)]
    rw [show (l.length : Int) - 1 - ((l.length : Int) - 1 - a) = a by omega]
    exact List.mem_map.2 ⟨_, q, rfl⟩
  | more h q ih =>
    have hr := h.rng V a0 a1
    refine .more ih ?_
    rw [turn_uses l _ (by omega) (by omega)]
    rename_i b c
    rw [show (l.length : Int) - 1 - ((l.length : Int) - 1 - b) = b by omega]
    exact List.mem_map.2 ⟨_, q, rfl⟩
theorem turn_rel {l : List S33} (V : Valid l) {M T : List (List Bool)} (F : Found l M) (G : Found (turnL l) T) (a b : Int) (a0 : 0 ≤ a) (a1 : a < l.length) (b0 : 0 ≤ b) (b1 : b < l.length) : relP T ((l.length : Int) - 1 - a) ((l.length : Int) - 1 - b) = relP M a b := by
  have key : ∀ a b : Int, 0 ≤ a → a < l.length → 0 ≤ b → b < l.length → rdOf false (rd_L6 T ((l.length : Int) - 1 - a)) ((l.length : Int) - 1 - b) = rdOf false (rd_L6 M a) b := fun a b a0 a1 b0 b1 => by
    have h1 := F.is a b a0 a1 b0 b1
    have h2 := G.is ((l.length : Int) - 1 - a) ((l.length : Int) - 1 - b) (by omega) (by rw [turn_len]; omega) (by omega) (by rw [turn_len]; omega)
    refine Bool.eq_iff_iff.2 (h2.trans (Iff.trans ⟨fun h => ?_, fun h => ?_⟩ h1.symm))
    · have := turn_rch1 V h (by omega) (by omega)
      rw [show (l.length : Int) - 1 - ((l.length : Int) - 1 - a) = a by omega, show (l.length : Int) - 1 - ((l.length : Int) - 1 - b) = b by omega] at this
      exact this
    · exact turn_rch2 V h a0 a1
  unfold relP
  rw [key a b a0 a1 b0 b1, key b a b0 b1 a0 a1]
theorem sum_rev : ∀ (l : List Nat), l.reverse.sum = l.sum
  | [] => rfl
  | a :: l => by rw [List.reverse_cons, List.sum_append, sum_rev l]; simp; omega
theorem turn_unS (l : List S33) : unS (turnL l) [] (turnL l).length = unS l [] l.length := by
  rw [sum_unS _ _ (Nat.le_refl _), sum_unS _ _ (Nat.le_refl _), List.take_length, List.take_length]
  unfold turnL
  rw [List.map_map, List.map_reverse, sum_rev]
  congr 1
  exact List.map_congr_left (fun x _ => by simp [turnP])
theorem turn_each (l : List S33) (h : ∀ x ∈ l, x.f4.length ≤ 1048576) : ∀ x ∈ turnL l, x.f4.length ≤ 1048576 := by
  intro x hx
  obtain ⟨y, hy, rfl⟩ := List.mem_map.1 hx
  have := h y (List.mem_reverse.1 hy)
  simpa [turnP] using this
/-- All ready parts ended one behind the other. -/
def Apart (l : List S33) : Prop := ∀ a b : Int, 0 ≤ a → a < l.length → 0 ≤ b → b < l.length → (rd_T33 l a).f2 = true → (rd_T33 l b).f2 = true → (rd_T33 l a).f3 = (rd_T33 l b).f3 → a = b
theorem turn_good {l : List S33} (V : Valid l) (D : Apart l) {M T : List (List Bool)} (F : Found l M) (G : Found (turnL l) T) {s : Int} {q : List Int} (H : Hp.Good (aheadB l) (relP M) (allF l s l.length) q) :
    Hp.Good (aheadB (turnL l)) (relP T) (allF (turnL l) s (turnL l).length) (q.map fun x => (l.length : Int) - 1 - x) := by
  have hin : ∀ x, x ∈ allF l s l.length ↔ 0 ≤ x ∧ x < l.length ∧ (rd_T33 l x).f2 = true ∧ (rd_T33 l x).f0 = s := fun x => allF_mem l s x l.length
  have hall : ∀ x, x ∈ allF (turnL l) s (turnL l).length ↔ (l.length : Int) - 1 - x ∈ allF l s l.length := fun x => by
    rw [allF_mem, hin, turn_len]
    constructor
    · rintro ⟨h1, h2, h3, h4⟩
      rw [turn_rd l x h1 h2] at h3 h4
      exact ⟨by omega, by omega, h3, h4⟩
    · rintro ⟨h1, h2, h3, h4⟩
      have h0 : 0 ≤ x := by omega
      have h5 : x < l.length := by omega
      rw [turn_rd l x h0 h5]
      exact ⟨h0, h5, h3, h4⟩
  have hlt : ∀ x ∈ allF l s l.length, ∀ y ∈ allF l s l.length, aheadB (turnL l) ((l.length : Int) - 1 - x) ((l.length : Int) - 1 - y) = aheadB l x y := fun x hx y hy => by
    obtain ⟨x0, x1, x2, _⟩ := (hin x).1 hx
    obtain ⟨y0, y1, y2, _⟩ := (hin y).1 hy
    unfold aheadB
    rw [turn_rd l _ (by omega) (by omega), turn_rd l _ (by omega) (by omega), show (l.length : Int) - 1 - ((l.length : Int) - 1 - x) = x by omega, show (l.length : Int) - 1 - ((l.length : Int) - 1 - y) = y by omega]
    show (if (rd_T33 l x).f3 = (rd_T33 l y).f3 then _ else _) = _
    by_cases e : (rd_T33 l x).f3 = (rd_T33 l y).f3
    · have := D x y x0 x1 y0 y1 x2 y2 e
      subst this
      rw [if_pos e, if_pos e]
      simp
    · rw [if_neg e, if_neg e]
      rfl
  have hmap : ∀ p x, (q.map fun x => (l.length : Int) - 1 - x)[p]? = some x → q[p]? = some ((l.length : Int) - 1 - x) := fun p x hx => by
    rw [List.getElem?_map] at hx
    cases hq : q[p]? with
    | none => rw [hq] at hx; exact absurd hx (by simp)
    | some y =>
      rw [hq] at hx
      simp at hx
      rw [← hx]
      exact congrArg some (by omega)
  have htk : ∀ p z, z ∈ (q.map fun x => (l.length : Int) - 1 - x).take p ↔ (l.length : Int) - 1 - z ∈ q.take p := fun p z => by
    rw [← List.map_take, List.mem_map]
    constructor
    · rintro ⟨y, hy, rfl⟩
      rw [show (l.length : Int) - 1 - ((l.length : Int) - 1 - y) = y by omega]
      exact hy
    · intro h
      exact ⟨_, h, by omega⟩
  refine ⟨?_, fun x => ?_, fun p x hx => ?_⟩
  · have := H.nodup
    unfold List.Nodup at this ⊢
    rw [List.pairwise_map]
    exact this.imp (fun h e => h (by omega))
  · rw [hall, ← H.mem, List.mem_map]
    constructor
    · rintro ⟨y, hy, rfl⟩
      rw [show (l.length : Int) - 1 - ((l.length : Int) - 1 - y) = y by omega]
      exact hy
    · intro h
      exact ⟨_, h, by omega⟩
  · have hq := hmap p x hx
    obtain ⟨h1, h2⟩ := H.pick p _ hq
    have hxa : (l.length : Int) - 1 - x ∈ allF l s l.length := (H.mem _).1 (List.mem_of_getElem? hq)
    have hrel : ∀ a b : Int, (l.length : Int) - 1 - a ∈ allF l s l.length → (l.length : Int) - 1 - b ∈ allF l s l.length → relP T a b = relP M ((l.length : Int) - 1 - a) ((l.length : Int) - 1 - b) := fun a b ha hb => by
      obtain ⟨a0, a1, _⟩ := (hin _).1 ha
      obtain ⟨b0, b1, _⟩ := (hin _).1 hb
      have := turn_rel V F G _ _ a0 a1 b0 b1
      rw [show (l.length : Int) - 1 - ((l.length : Int) - 1 - a) = a by omega, show (l.length : Int) - 1 - ((l.length : Int) - 1 - b) = b by omega] at this
      exact this
    refine ⟨fun a ha hr => ?_, fun y hy hn hr => ?_⟩
    · rw [htk]
      have ha' := (hall a).1 ha
      exact h1 _ ha' (by rw [← hrel a x ha' hxa]; exact hr)
    · have hy' := (hall y).1 hy
      have := h2 _ hy' (fun z => hn ((htk p y).2 z)) (fun z hz hp => by
        have hzt : (l.length : Int) - 1 - z ∈ allF (turnL l) s (turnL l).length := (hall _).2 (by rw [show (l.length : Int) - 1 - ((l.length : Int) - 1 - z) = z by omega]; exact hz)
        have h3 := hr _ hzt (by
          rw [hrel _ y (by rw [show (l.length : Int) - 1 - ((l.length : Int) - 1 - z) = z by omega]; exact hz) hy', show (l.length : Int) - 1 - ((l.length : Int) - 1 - z) = z by omega]
          exact hp)
        rw [htk, show (l.length : Int) - 1 - ((l.length : Int) - 1 - z) = z by omega] at h3
        exact h3)
      have h4 := hlt _ hy' _ hxa
      rw [show (l.length : Int) - 1 - ((l.length : Int) - 1 - y) = y by omega, show (l.length : Int) - 1 - ((l.length : Int) - 1 - x) = x by omega] at h4
      rw [h4]
      exact this
theorem fall_uniq : ∀ (a b : List Int), a.Pairwise (fun x y => x > y) → b.Pairwise (fun x y => x > y) → (∀ x, x ∈ a ↔ x ∈ b) → a = b
  | [], [], _, _, _ => rfl
  | [], y :: b, _, _, h => absurd ((h y).2 (by simp)) (by simp)
  | x :: a, [], _, _, h => absurd ((h x).1 (by simp)) (by simp)
  | x :: a, y :: b, ha, hb, h => by
    rw [List.pairwise_cons] at ha hb
    have hxy : x = y := by
      have h1 := (h x).1 (by simp)
      have h2 := (h y).2 (by simp)
      rcases List.mem_cons.1 h1 with e | e
      · exact e
      · rcases List.mem_cons.1 h2 with e2 | e2
        · exact e2.symm
        · have := ha.1 y e2
          have := hb.1 x e
          omega
    subst hxy
    rw [fall_uniq a b ha.2 hb.2 (fun z => by
      constructor
      · intro hz
        rcases List.mem_cons.1 ((h z).1 (List.mem_cons_of_mem _ hz)) with e | e
        · have := ha.1 z hz; omega
        · exact e
      · intro hz
        rcases List.mem_cons.1 ((h z).2 (List.mem_cons_of_mem _ hz)) with e | e
        · have := hb.1 z hz; omega
        · exact e)]
theorem turn_closed {up : List Int} {l : List S33} {top : Int} {o q : List Int} (V : Valid l) (D : Apart l) (C : ClosedAs up l top o) (K : ClosedAs up (turnL l) top q) : q = o.map fun x => (l.length : Int) - 1 - x := by
  obtain ⟨bs, outs, M, B, F, hl, ho, hg⟩ := C.ex
  obtain ⟨bt, outt, T, Bt, G, hlt, hot, hgt⟩ := K.ex
  obtain rfl : bt = bs := fall_uniq _ _ Bt.fall B.fall (fun x => (Bt.mem x).trans (B.mem x).symm)
  rw [hot, ho, List.map_flatten]
  congr 1
  refine List.ext_getElem (by simp; omega) (fun j h1 h2 => ?_)
  rw [List.getElem_map]
  have hj : j < outs.length := by simpa using h2
  exact Good.uniq (ahead_tot _) (hgt j (bt[j]'(by omega)) _ (List.getElem?_eq_getElem (by omega)) (List.getElem?_eq_getElem h1)) (turn_good V D F G (hg j (bt[j]'(by omega)) _ (List.getElem?_eq_getElem (by omega)) (List.getElem?_eq_getElem hj)))
end Go.Proofs.YtccjclmjoegibaaDoor.Ce
