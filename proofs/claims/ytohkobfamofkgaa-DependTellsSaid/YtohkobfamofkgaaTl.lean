/- A circle that is told leads link by link; its first is the cell, its last the last that the task runs: in plain Lean. -/
import Derived.Test.YtohkobfamofkgaaNv
namespace Go.Proofs.Ytohkobfamofkgaa.Wb
open Go.RowKit Go.Maps Go.Proofs.Ytohkobfamofkgaa Go.Proofs.YtohkobfamofkgaaW.PrintWords Go.Proofs.YtohkobfamofkgaaW.PrintLast Go.Proofs.YtohkobfamofkgaaW.PrintMore

/-- From a cell to the next one: the same task runs it next, or waits for it behind its last. -/
def Lead (m : Web) (a b : Int) : Prop := ∃ a' r p : Nat, a = a' ∧ a' < 256 ∧ r < 128 ∧ m.run a' = (r : Int) + 1 ∧ (m.ls r)[p]? = some a ∧ ((m.ls r)[p + 1]? = some b ∨ (p + 1 = (m.ls r).length ∧ ∃ d : Nat, d < 256 ∧ b = (d : Int) ∧ m.wai r = (d : Int) + 1))
def Lk (m : Web) : List Int → Prop
  | [] => True
  | [_] => True
  | a :: b :: l => Lead m a b ∧ Lk m (b :: l)
section
variable {m : Web}
theorem Lk.app : ∀ (xs ys : List Int), Lk m xs → Lk m ys → (∀ x y, xs.getLast? = some x → ys.head? = some y → Lead m x y) → Lk m (xs ++ ys)
  | [], ys, _, hy, _ => hy
  | [x], [], _, _, _ => trivial
  | [x], y :: ys, _, hy, h => ⟨h x y rfl rfl, hy⟩
  | a :: b :: l, ys, hx, hy, h => ⟨hx.1, Lk.app (b :: l) ys hx.2 hy (fun x y h1 h2 => h x y (by rw [List.getLast?_cons_cons]; exact h1) h2)⟩
theorem Lk.at_ : ∀ {L : List Int}, Lk m L → ∀ (j : Nat) a b, L[j]? = some a → L[j + 1]? = some b → Lead m a b
  | [], _, j, a, b, h1, _ => absurd h1 (by simp)
  | [x], _, j, a, b, _, h2 => absurd h2 (by simp)
  | x :: y :: l, h, 0, a, b, h1, h2 => by
    simp at h1 h2
    subst h1; subst h2
    exact h.1
  | x :: y :: l, h, j + 1, a, b, h1, h2 => Lk.at_ (L := y :: l) h.2 j a b (by simpa using h1) (by simpa using h2)
variable (h : Iw m)
include h
theorem Iw.lk_drop {r : Nat} (hr : r < 128) : ∀ d p, p + d = (m.ls r).length → Lk m ((m.ls r).drop p) := by
  intro d
  induction d with
  | zero => intro p hp; rw [List.drop_eq_nil_of_le (by omega)]; trivial
  | succ d ih =>
    intro p hp
    have ih' := ih (p + 1) (by omega)
    have e : (m.ls r).drop p = (m.ls r)[p]'(by omega) :: (m.ls r).drop (p + 1) := List.drop_eq_getElem_cons (by omega)
    rw [e]
    have hx : (m.ls r)[p]? = some ((m.ls r)[p]'(by omega)) := List.getElem?_eq_getElem (by omega)
    generalize (m.ls r)[p]'(by omega) = x at *
    cases hd : (m.ls r).drop (p + 1) with
    | nil => trivial
    | cons b l =>
      rw [hd] at ih'
      refine ⟨?_, ih'⟩
      obtain ⟨a, h1, h2, h3⟩ := h.stk r hr x (List.mem_of_getElem? hx)
      have hb : (m.ls r)[p + 1]? = some b := by
        have := congrArg List.head? hd
        rw [List.head?_drop] at this
        exact this
      exact ⟨a, r, p, h2, h1, hr, h3, hx, Or.inl hb⟩
/-- What a circle is made of. -/
theorem Iw.circ_says (t : Nat) : ∀ n c L, c < 256 → circ m t n c = some L → Lk m L ∧ L.head? = some (c : Int) ∧ L.getLast? = (m.ls t).getLast? ∧ m.ls t ≠ []
  | 0, c, L, _, e => absurd e (by simp [circ])
  | n + 1, c, L, hc, e => by
    rcases h.wf.run c hc with h0 | ⟨r, hr1, hr2, hm⟩
    · rw [circ_zero h0] at e; exact absurd e (by simp)
    · have hp := pos_lt hm
      have hhd : (after (c : Int) (m.ls r)).head? = some (c : Int) := by unfold after; rw [List.head?_drop]; exact pos_at hm
      have hlast : (after (c : Int) (m.ls r)).getLast? = (m.ls r).getLast? := by unfold after; rw [List.getLast?_drop, if_neg (by omega)]
      have hlk : Lk m (after (c : Int) (m.ls r)) := h.lk_drop hr1 _ (pos (c : Int) (m.ls r)) (by omega : pos (c : Int) (m.ls r) + ((m.ls r).length - pos (c : Int) (m.ls r)) = (m.ls r).length)
      by_cases ht : r = t
      · subst ht
        rw [circ_hit hr2] at e
        obtain rfl := Option.some.inj e
        exact ⟨hlk, hhd, hlast, fun e => by rw [e] at hm; exact absurd hm (by simp)⟩
      · rcases h.wf.wai r hr1 with hw | ⟨d, hd, hw⟩
        · rw [circ_end hr2 ht hw] at e; exact absurd e (by simp)
        · rw [circ_on hr2 ht hw] at e
          cases hcd : circ m t n d with
          | none => rw [hcd] at e; exact absurd e (by simp)
          | some L' =>
            rw [hcd] at e
            obtain rfl := Option.some.inj e
            obtain ⟨k1, k2, k3, k4⟩ := Iw.circ_says t n d L' hd hcd
            have hL' : L' ≠ [] := fun e => by rw [e] at k2; exact absurd k2 (by simp)
            refine ⟨Lk.app _ _ hlk k1 (fun x y hx hy => ?_), ?_, ?_, k4⟩
            · rw [hlast] at hx
              rw [k2] at hy
              obtain rfl := Option.some.inj hy
              rw [List.getLast?_eq_getElem?] at hx
              obtain ⟨a, h1, h2, h3⟩ := h.stk r hr1 x (List.mem_of_getElem? hx)
              exact ⟨a, r, (m.ls r).length - 1, h2, h1, hr1, h3, hx, Or.inr ⟨by omega, d, hd, rfl, hw⟩⟩
            · rw [List.head?_append, hhd]; rfl
            · rw [List.getLast?_append, k3]
              cases hg : (m.ls t).getLast? with
              | none => rw [List.getLast?_eq_none_iff] at hg; exact absurd hg k4
              | some x => rfl
/-- What is told where a circle is told. -/
structure Told (m : Web) (t c : Nat) (L : List Int) : Prop where
  lk : Lk m L
  first : rd L 0 = c
  last : rd L (L.length - 1) = rd (m.ls t) ((m.ls t).length - 1)
  ne : 0 < L.length
  ne2 : 0 < (m.ls t).length
omit h in
theorem rd_some {l : List Int} {j : Nat} {x : Int} (h : l[j]? = some x) : rd l (j : Int) = x := by
  unfold rd; rw [Int.toNat_natCast, List.getD_eq_getElem?_getD, h]; rfl
theorem Iw.told {t n c : Nat} (hc : c < 256) (hl : circle m t n c ≠ []) : Told m t c (circle m t n c) := by
  unfold circle at hl ⊢
  split at hl
  · exact absurd rfl hl
  · rename_i h0
    rw [if_neg h0]
    cases he : circ m t n c with
    | none => rw [he] at hl; exact absurd rfl hl
    | some L =>
      rw [he] at hl
      show Told m t c L
      have hl : L ≠ [] := hl
      obtain ⟨k1, k2, k3, k4⟩ := h.circ_says t n c L hc he
      have p1 : 0 < L.length := List.length_pos_iff.2 hl
      have p2 : 0 < (m.ls t).length := List.length_pos_iff.2 k4
      refine ⟨k1, ?_, ?_, p1, p2⟩
      · rw [List.head?_eq_getElem?] at k2
        exact rd_some (j := 0) k2
      · rw [List.getLast?_eq_getElem?, List.getLast?_eq_getElem?, List.getElem?_eq_getElem (by omega), List.getElem?_eq_getElem (by omega)] at k3
        have a1 := rd_some (l := L) (j := L.length - 1) (List.getElem?_eq_getElem (by omega))
        have a2 := rd_some (l := m.ls t) (j := (m.ls t).length - 1) (List.getElem?_eq_getElem (by omega))
        rw [show ((L.length - 1 : Nat) : Int) = (L.length : Int) - 1 by omega] at a1
        rw [show (((m.ls t).length - 1 : Nat) : Int) = ((m.ls t).length : Int) - 1 by omega] at a2
        rw [a1, a2]
        exact Option.some.inj k3
theorem Iw.circ_few (t : Nat) : ∀ n c L, c < 256 → circ m t n c = some L → L.length ≤ n * 48
  | 0, c, L, _, e => absurd e (by simp [circ])
  | n + 1, c, L, hc, e => by
    rcases h.wf.run c hc with h0 | ⟨r, hr1, hr2, hm⟩
    · rw [circ_zero h0] at e; exact absurd e (by simp)
    · have hl := h.wf.len r hr1
      have ha := after_length (a := (c : Int)) (l := m.ls r)
      by_cases ht : r = t
      · subst ht
        rw [circ_hit hr2] at e
        obtain rfl := Option.some.inj e
        omega
      · rcases h.wf.wai r hr1 with hw | ⟨d, hd, hw⟩
        · rw [circ_end hr2 ht hw] at e; exact absurd e (by simp)
        · rw [circ_on hr2 ht hw] at e
          cases hcd : circ m t n d with
          | none => rw [hcd] at e; exact absurd e (by simp)
          | some L' =>
            rw [hcd] at e
            obtain rfl := Option.some.inj e
            have := Iw.circ_few t n d L' hd hcd
            rw [List.length_append]; omega
theorem Iw.circle_few {t c : Nat} {L : List Int} (hc : c < 256) (e : circle m t 129 c = L) : L.length ≤ 100000 := by
  subst e
  unfold circle
  split
  · simp
  · cases he : circ m t 129 c with
    | none => simp
    | some L => have := h.circ_few t 129 c L hc he; simp; omega
/-- Where none is told, it is not the task that runs the cell. -/
theorem Iw.other {t n c r : Nat} (hc : c < 256) (hr : m.run c = (r : Int) + 1) (hl : circle m t (n + 1) c = []) : r ≠ t := by
  intro e
  subst e
  rcases h.wf.run c hc with h0 | ⟨r', _, h2, hm⟩
  · omega
  · have : r' = r := by omega
    subst this
    have hp := pos_lt hm
    unfold circle at hl
    rw [if_neg (by omega), circ_hit hr] at hl
    exact absurd hl (after_ne hm)
end
end Go.Proofs.Ytohkobfamofkgaa.Wb
