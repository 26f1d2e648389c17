/- The document's web by plain lists, and that it tells the same as the web in memory: in plain Lean. -/
import Derived.Test.YtohkobfamofkgaaQx7
import Derived.Test.YtohkobfamofkgaaIu
namespace Go.Proofs.Ytohkobfamofkgaa.Wb
open Go.RowKit Go.Maps Go.Proofs.Ytohkobfamofkgaa Go.Proofs.YtohkobfamofkgaaW.PrintWords Go.Proofs.YtohkobfamofkgaaW.PrintLast Go.Proofs.YtohkobfamofkgaaW.PrintMore

/-- From a cell to the next one: the same task runs it next, or waits for it behind its last. -/
def Lead (m : Web) (a b : Int) : Prop := ∃ a' r p : Nat, a = a' ∧ a' < 256 ∧ r < 128 ∧ m.run a' = (r : Int) + 1 ∧ (m.ls r)[p]? = some a ∧ ((m.ls r)[p + 1]? = some b ∨ (p + 1 = (m.ls r).length ∧ ∃ d : Nat, d < 256 ∧ b = (d : Int) ∧ m.wai r = (d : Int) + 1))
def Lk (m : Web) : List Int → Prop
  | [] => True
  | [_] => True
  | a :: b :: l => Lead m a b ∧ Lk m (b :: l)
section
variable {m : Web}
theorem Lk.app : ∀ (xs ys : List Int), Lk m xs → Lk m ys → (∀ x y, xs.getLast? = some x → ys.head? = some y → Lead m x y) → Lk m (xs ++ ys)
  | [], ys, _, hy, _ => hy
  | [x], [], _, _, _ => trivial
  | [x], y :: ys, _, hy, h => ⟨h x y rfl rfl, hy⟩
  | a :: b :: l, ys, hx, hy, h => ⟨hx.1, Lk.app (b :: l) ys hx.2 hy (fun x y h1 h2 => h x y (by rw [List.getLast?_cons_cons]; exact h1) h2)⟩
theorem Lk.at_ : ∀ {L : List Int}, Lk m L → ∀ (j : Nat) a b, L[j]? = some a → L[j + 1]? = some b → Lead m a b
  | [], _, j, a, b, h1, _ => absurd h1 (by simp)
  | [x], _, j, a, b, _, h2 => absurd h2 (by simp)
  | x :: y :: l, h, 0, a, b, h1, h2 => by
    simp at h1 h2
    subst h1; subst h2
    exact h.1
  | x :: y :: l, h, j + 1, a, b, h1, h2 => Lk.at_ (L := y :: l) h.2 j a b (by simpa using h1) (by simpa using h2)
variable (h : Iw m)
include h
theorem Iw.lk_drop {r : Nat} (hr : r < 128) : ∀ d p, p + d = (m.ls r).length → Lk m ((m.ls r).drop p) := by
  intro d
  induction d with
  | zero => intro p hp; rw [List.drop_eq_nil_of_le (by omega)]; trivial
  | succ d ih =>
    intro p hp
    have ih' := ih (p + 1) (by omega)
    have e : (m.ls r).drop p = (m.ls r)[p]'(by omega) :: (m.ls r).drop (p + 1) := List.drop_eq_getElem_cons (by omega)
    rw [e]
    have hx : (m.ls r)[p]? = some ((m.ls r)[p]'(by omega)) := List.getElem?_eq_getElem (by omega)
    generalize (m.ls r)[p]'(by omega) = x at *
    cases hd : (m.ls r).drop (p + 1) with
    | nil => trivial
    | cons b l =>
      rw [hd] at ih'
      refine ⟨?_, ih'⟩
      obtain ⟨a, h1, h2, h3⟩ := h.stk r hr x (List.mem_of_getElem? hx)
      have hb : (m.ls r)[p + 1]? = some b := by
        have := congrArg List.head? hd
        rw [List.head?_drop] at this
        exact this
      exact ⟨a, r, p, h2, h1, hr, h3, hx, Or.inl hb⟩
/-- What a circle is made of. -/
theorem Iw.circ_says (t : Nat) : ∀ n c L, c < 256 → circ m t n c = some L → Lk m L ∧ L.head? = some (c : Int) ∧ L.getLast? = (m.ls t).getLast? ∧ m.ls t ≠ []
  | 0, c, L, _, e => absurd e (by simp [circ])
  | n + 1, c, L, hc, e => by
    rcases h.wf.run c hc with h0 | ⟨r, hr1, hr2, hm⟩
    · rw [circ_zero h0] at e; exact absurd e (by simp)
    · have hp := pos_lt hm
      have hhd : (after (c : Int) (m.ls r)).head? = some (c : Int) := by unfold after; rw [List.head?_drop]; exact pos_at hm
      have hlast : (after (c : Int) (m.ls r)).getLast? = (m.ls r).getLast? := by unfold after; rw [List.getLast?_drop, if_neg (by omega)]
      have hlk : Lk m (after (c : Int) (m.ls r)) := h.lk_drop hr1 _ (pos (c : Int) (m.ls r)) (by omega : pos (c : Int) (m.ls r) + ((m.ls r).length - pos (c : Int) (m.ls r)) = (m.ls r).length)
      by_cases ht : r = t
      · subst ht
        rw [circ_hit hr2] at e
        obtain rfl := Option.some.inj e
        exact ⟨hlk, hhd, hlast, fun e => by rw [e] at hm; exact absurd hm (by simp)⟩
      · rcases h.wf.wai r hr1 with hw | ⟨d, hd, hw⟩
        · rw [circ_end hr2 ht hw] at e; exact absurd e (by simp)
        · rw [circ_on hr2 ht hw] at e
          cases hcd : circ m t n d with
          | none => rw [hcd] at e; exact absurd e (by simp)
          | some L' =>
            rw [hcd] at e
            obtain rfl := Option.some.inj e
            obtain ⟨k1, k2, k3, k4⟩ := Iw.circ_says t n d L' hd hcd
            have hL' : L' ≠ [] := fun e => by rw [e] at k2; exact absurd k2 (by simp)
            refine ⟨Lk.app _ _ hlk k1 (fun x y hx hy => ?_), ?_, ?_, k4⟩
            · rw [hlast] at hx
              rw [k2] at hy
              obtain rfl := Option.some.inj hy
              rw [List.getLast?_eq_getElem?] at hx
              obtain ⟨a, h1, h2, h3⟩ := h.stk r hr1 x (List.mem_of_getElem? hx)
              exact ⟨a, r, (m.ls r).length - 1, h2, h1, hr1, h3, hx, Or.inr ⟨by omega, d, hd, rfl, hw⟩⟩
            · rw [List.head?_append, hhd]; rfl
            · rw [List.getLast?_append, k3]
              cases hg : (m.ls t).getLast? with
              | none => rw [List.getLast?_eq_none_iff] at hg; exact absurd hg k4
              | some x => rfl
/-- What is told where a circle is told. -/
structure Told (m : Web) (t c : Nat) (L : List Int) : Prop where
  lk : Lk m L
  first : rd L 0 = c
  last : rd L (L.length - 1) = rd (m.ls t) ((m.ls t).length - 1)
  ne : 0 < L.length
  ne2 : 0 < (m.ls t).length
omit h in
theorem rd_some {l : List Int} {j : Nat} {x : Int} (h : l[j]? = some x) : rd l (j : Int) = x := by
  unfold rd; rw [Int.toNat_natCast, List.getD_eq_getElem?_getD, h]; rfl
theorem Iw.told {t n c : Nat} (hc : c < 256) (hl : circle m t n c ≠ []) : Told m t c (circle m t n c) := by
  unfold circle at hl ⊢
  split at hl
  · exact absurd rfl hl
  · rename_i h0
    rw [if_neg h0]
    cases he : circ m t n c with
    | none => rw [he] at hl; exact absurd rfl hl
    | some L =>
      rw [he] at hl
      show Told m t c L
      have hl : L ≠ [] := hl
      obtain ⟨k1, k2, k3, k4⟩ := h.circ_says t n c L hc he
      have p1 : 0 < L.length := List.length_pos_iff.2 hl
      have p2 : 0 < (m.ls t).length := List.length_pos_iff.2 k4
      refine ⟨k1, ?_, ?_, p1, p2⟩
      · rw [List.head?_eq_getElem?] at k2
        exact rd_some (j := 0) k2
      · rw [List.getLast?_eq_getElem?, List.getLast?_eq_getElem?, List.getElem?_eq_getElem (by omega), List.getElem?_eq_getElem (by omega)] at k3
        have a1 := rd_some (l := L) (j := L.length - 1) (List.getElem?_eq_getElem (by omega))
        have a2 := rd_some (l := m.ls t) (j := (m.ls t).length - 1) (List.getElem?_eq_getElem (by omega))
        rw [show ((L.length - 1 : Nat) : Int) = (L.length : Int) - 1 by omega] at a1
        rw [show (((m.ls t).length - 1 : Nat) : Int) = ((m.ls t).length : Int) - 1 by omega] at a2
        rw [a1, a2]
        exact Option.some.inj k3
theorem Iw.circ_few (t : Nat) : ∀ n c L, c < 256 → circ m t n c = some L → L.length ≤ n * 48
  | 0, c, L, _, e => absurd e (by simp [circ])
  | n + 1, c, L, hc, e => by
    rcases h.wf.run c hc with h0 | ⟨r, hr1, hr2, hm⟩
    · rw [circ_zero h0] at e; exact absurd e (by simp)
    · have hl := h.wf.len r hr1
      have ha := after_length (a := (c : Int)) (l := m.ls r)
      by_cases ht : r = t
      · subst ht
        rw [circ_hit hr2] at e
        obtain rfl := Option.some.inj e
        omega
      · rcases h.wf.wai r hr1 with hw | ⟨d, hd, hw⟩
        · rw [circ_end hr2 ht hw] at e; exact absurd e (by simp)
        · rw [circ_on hr2 ht hw] at e
          cases hcd : circ m t n d with
          | none => rw [hcd] at e; exact absurd e (by simp)
          | some L' =>
            rw [hcd] at e
            obtain rfl := Option.some.inj e
            have := Iw.circ_few t n d L' hd hcd
            rw [List.length_append]; omega
theorem Iw.circle_few {t c : Nat} {L : List Int} (hc : c < 256) (e : circle m t 129 c = L) : L.length ≤ 100000 := by
  subst e
  unfold circle
  split
  · simp
  · cases he : circ m t 129 c with
    | none => simp
    | some L => have := h.circ_few t 129 c L hc he; simp; omega
/-- Where none is told, it is not the task that runs the cell. -/
theorem Iw.other {t n c r : Nat} (hc : c < 256) (hr : m.run c = (r : Int) + 1) (hl : circle m t (n + 1) c = []) : r ≠ t := by
  intro e
  subst e
  rcases h.wf.run c hc with h0 | ⟨r', _, h2, hm⟩
  · omega
  · have : r' = r := by omega
    subst this
    have hp := pos_lt hm
    unfold circle at hl
    rw [if_neg (by omega), circ_hit hr] at hl
    exact absurd hl (after_ne hm)
end
end Go.Proofs.Ytohkobfamofkgaa.Wb
namespace Go.Proofs.Ytohkobfamofkgaa.PDependPlays
open Go.RowKit Go.Proofs.Ytohkobfamofkgaa Go.Proofs.Ytohkobfamofkgaa.Wb Go.Proofs.YtohkobfamofkgaaW.PrintWords Go.Proofs.YtohkobfamofkgaaW.PrintLast Go.Proofs.YtohkobfamofkgaaW.PrintMore

theorem rd55_at (R : List S55) (j : Nat) (hj : j < R.length) : rd_T55 R (j : Int) = R[j] := by
  unfold rd_T55
  rw [Int.toNat_natCast, List.getD_eq_getElem?_getD, List.getElem?_eq_getElem hj]; rfl
theorem rd57_at (R : List S57) (j : Nat) (hj : j < R.length) : rd_T57 R (j : Int) = R[j] := by
  unfold rd_T57
  rw [Int.toNat_natCast, List.getD_eq_getElem?_getD, List.getElem?_eq_getElem hj]; rfl
theorem rdi_at (l : List Int) (j : Nat) (hj : j < l.length) : rd l (j : Int) = l[j] := by
  unfold rd
  rw [Int.toNat_natCast, List.getD_eq_getElem?_getD, List.getElem?_eq_getElem hj]; rfl
theorem w1 (j : Nat) (h : j < 100000) : wrap64 ((j : Int) + 1) = ((j + 1 : Nat) : Int) := by unfold wrap64; omega
theorem Ev.to {α : Type} {g f : Nat → Option α} {r : α} (k : Ev f r) (h : ∀ k, g (k + 1) = f k) : Ev g r := Ev.step h k
section
variable (R : List S55) (Ws : List S57)

def look (t : Int) : List S55 → List Int
  | [] => []
  | x :: l => if x.f0 = t then x.f1 else look t l
theorem stack_from (t : Int) (hR : R.length ≤ 1000) : ∀ d (j : Nat), j + d = R.length → Ev (fun k => oncewebref14_Web_Stack.l0 k t (j : Int) R Ws) (look t (R.drop j)) := by
  intro d
  induction d with
  | zero =>
    intro j hj
    rw [List.drop_eq_nil_of_le (by omega)]
    exact Ev.to (Ev.now _) (fun k => by simp only [oncewebref14_Web_Stack.l0]; rw [if_neg (by omega)]; rfl)
  | succ d ih =>
    intro j hj
    have hlt : j < R.length := by omega
    rw [List.drop_eq_getElem_cons hlt]
    by_cases h : R[j].f0 = t
    · rw [show look t (R[j] :: R.drop (j + 1)) = R[j].f1 by unfold look; rw [if_pos h]]
      exact Ev.to (Ev.now _) (fun k => by simp only [oncewebref14_Web_Stack.l0]; rw [if_pos (by omega), if_pos (by omega), rd55_at R j hlt, if_pos h])
    · rw [show look t (R[j] :: R.drop (j + 1)) = look t (R.drop (j + 1)) by conv => lhs; unfold look; rw [if_neg h]]
      exact Ev.to (ih (j + 1) (by omega)) (fun k => by simp only [oncewebref14_Web_Stack.l0]; rw [if_pos (by omega), if_pos (by omega), rd55_at R j hlt, if_neg h, w1 j (by omega)])
theorem stack_ev (t : Int) (hR : R.length ≤ 1000) : Ev (fun k => oncewebref14_Web_Stack.f k R Ws t) (look t R) := stack_from R Ws t hR R.length 0 (by omega)

def wlook (t : Int) : List S57 → Int × Bool
  | [] => (0, false)
  | x :: l => if x.f0 = t then (x.f1, true) else wlook t l
theorem waiting_from (t : Int) (hR : Ws.length ≤ 1000) : ∀ d (j : Nat), j + d = Ws.length → Ev (fun k => oncewebref14_Web_Waiting.l0 k t (j : Int) R Ws) (wlook t (Ws.drop j)) := by
  intro d
  induction d with
  | zero =>
    intro j hj
    rw [List.drop_eq_nil_of_le (by omega)]
    exact Ev.to (Ev.now _) (fun k => by simp only [oncewebref14_Web_Waiting.l0]; rw [if_neg (by omega)]; rfl)
  | succ d ih =>
    intro j hj
    have hlt : j < Ws.length := by omega
    rw [List.drop_eq_getElem_cons hlt]
    by_cases h : Ws[j].f0 = t
    · rw [show wlook t (Ws[j] :: Ws.drop (j + 1)) = (Ws[j].f1, true) by unfold wlook; rw [if_pos h]]
      exact Ev.to (Ev.now _) (fun k => by simp only [oncewebref14_Web_Waiting.l0]; rw [if_pos (by omega), if_pos (by omega), rd57_at Ws j hlt, if_pos h])
    · rw [show wlook t (Ws[j] :: Ws.drop (j + 1)) = wlook t (Ws.drop (j + 1)) by conv => lhs; unfold wlook; rw [if_neg h]]
      exact Ev.to (ih (j + 1) (by omega)) (fun k => by simp only [oncewebref14_Web_Waiting.l0]; rw [if_pos (by omega), if_pos (by omega), rd57_at Ws j hlt, if_neg h, w1 j (by omega)])
theorem waiting_ev (t : Int) (hR : Ws.length ≤ 1000) : Ev (fun k => oncewebref14_Web_Waiting.f k R Ws t) (wlook t Ws) := waiting_from R Ws t hR Ws.length 0 (by omega)

def qlook (c : Int) (l : List S57) : List Int := (l.filter (fun x => x.f1 == c)).map (·.f0)
theorem qlook_cons (c : Int) (x : S57) (l : List S57) : qlook c (x :: l) = if x.f1 = c then x.f0 :: qlook c l else qlook c l := by
  unfold qlook
  by_cases h : x.f1 = c
  · rw [if_pos h, List.filter_cons_of_pos (by simpa using h), List.map_cons]
  · rw [if_neg h, List.filter_cons_of_neg (by simpa using h)]
theorem waiters_from (c : Int) (hR : Ws.length ≤ 1000) : ∀ d (j : Nat) (o : List Int), o.length ≤ j → j + d = Ws.length → Ev (fun k => oncewebref14_Web_Waiters.l0 k c o (j : Int) R Ws) (o ++ qlook c (Ws.drop j)) := by
  intro d
  induction d with
  | zero =>
    intro j o ho hj
    rw [List.drop_eq_nil_of_le (by omega)]
    exact Ev.to (Ev.now _) (fun k => by simp only [oncewebref14_Web_Waiters.l0]; rw [if_neg (by omega)]; simp [qlook])
  | succ d ih =>
    intro j o ho hj
    have hlt : j < Ws.length := by omega
    rw [List.drop_eq_getElem_cons hlt, qlook_cons]
    by_cases h : Ws[j].f1 = c
    · rw [if_pos h]
      have := ih (j + 1) (o ++ [Ws[j].f0]) (by simp; omega) (by omega)
      rw [List.append_assoc] at this
      exact Ev.to this (fun k => by simp only [oncewebref14_Web_Waiters.l0]; rw [if_pos (by omega), if_pos (by omega), rd57_at Ws j hlt, if_pos h, if_pos (by omega), w1 j (by omega)])
    · rw [if_neg h]
      exact Ev.to (ih (j + 1) o (by omega) (by omega)) (fun k => by simp only [oncewebref14_Web_Waiters.l0]; rw [if_pos (by omega), if_pos (by omega), rd57_at Ws j hlt, if_neg h, w1 j (by omega)])
theorem waiters_ev (c : Int) (hR : Ws.length ≤ 1000) : Ev (fun k => oncewebref14_Web_Waiters.f k R Ws c) (qlook c Ws) := waiters_from R Ws c hR Ws.length 0 [] (by simp) (by omega)

def drop57 (t : Int) (l : List S57) : List S57 := l.filter (fun x => !(x.f0 == t))
theorem drop57_cons (t : Int) (x : S57) (l : List S57) : drop57 t (x :: l) = if x.f0 = t then drop57 t l else x :: drop57 t l := by
  unfold drop57
  by_cases h : x.f0 = t
  · rw [if_pos h, List.filter_cons_of_neg (by simpa using h)]
  · rw [if_neg h, List.filter_cons_of_pos (by simpa using h)]
theorem woken_from (t : Int) (hR : Ws.length ≤ 1000) : ∀ d (j : Nat) (o : List S57), o.length ≤ j → j + d = Ws.length → Ev (fun k => oncewebref14_Web_woken.l0 k t o (j : Int) R Ws) (R, o ++ drop57 t (Ws.drop j)) := by
  intro d
  induction d with
  | zero =>
    intro j o ho hj
    rw [List.drop_eq_nil_of_le (by omega)]
    exact Ev.to (Ev.now _) (fun k => by simp only [oncewebref14_Web_woken.l0]; rw [if_neg (by omega)]; simp [drop57])
  | succ d ih =>
    intro j o ho hj
    have hlt : j < Ws.length := by omega
    rw [List.drop_eq_getElem_cons hlt, drop57_cons]
    by_cases h : Ws[j].f0 = t
    · rw [if_pos h]
      exact Ev.to (ih (j + 1) o (by omega) (by omega)) (fun k => by simp only [oncewebref14_Web_woken.l0]; rw [if_pos (by omega), if_pos (by omega), rd57_at Ws j hlt, if_pos h, w1 j (by omega)])
    · rw [if_neg h]
      have := ih (j + 1) (o ++ [Ws[j]]) (by simp; omega) (by omega)
      rw [List.append_assoc] at this
      exact Ev.to this (fun k => by simp only [oncewebref14_Web_woken.l0]; rw [if_pos (by omega), if_pos (by omega), rd57_at Ws j hlt, if_neg h, if_pos (by omega), w1 j (by omega)])
theorem woken_ev (t : Int) (hR : Ws.length ≤ 1000) : Ev (fun k => oncewebref14_Web_woken.f k R Ws t) (R, drop57 t Ws) := woken_from R Ws t hR Ws.length 0 [] (by simp) (by omega)

def drop55 (t : Int) (l : List S55) : List S55 := l.filter (fun x => !(x.f0 == t))
theorem drop55_cons (t : Int) (x : S55) (l : List S55) : drop55 t (x :: l) = if x.f0 = t then drop55 t l else x :: drop55 t l := by
  unfold drop55
  by_cases h : x.f0 = t
  · rw [if_pos h, List.filter_cons_of_neg (by simpa using h)]
  · rw [if_neg h, List.filter_cons_of_pos (by simpa using h)]
def withs (t : Int) (s : List Int) (l : List S55) : List S55 := drop55 t l ++ if s = [] then [] else [⟨t, s⟩]
theorem with_from (t : Int) (s : List Int) (hR : R.length ≤ 1000) : ∀ d (j : Nat) (o : List S55), o.length ≤ j → j + d = R.length → Ev (fun k => oncewebref14_Web_with.l0 k t s o (j : Int) R Ws) (o ++ withs t s (R.drop j), Ws) := by
  intro d
  induction d with
  | zero =>
    intro j o ho hj
    rw [List.drop_eq_nil_of_le (by omega)]
    by_cases hs : s = []
    · exact Ev.to (Ev.now _) (fun k => by simp only [oncewebref14_Web_with.l0]; rw [if_neg (by omega), if_neg (by rw [hs]; simp)]; simp [withs, drop55, hs])
    · have hp := List.length_pos_iff.2 hs
      exact Ev.to (Ev.now _) (fun k => by simp only [oncewebref14_Web_with.l0]; rw [if_neg (by omega), if_pos (by omega), if_pos (by omega)]; simp [withs, drop55, hs])
  | succ d ih =>
    intro j o ho hj
    have hlt : j < R.length := by omega
    rw [List.drop_eq_getElem_cons hlt]
    by_cases h : R[j].f0 = t
    · rw [show withs t s (R[j] :: R.drop (j + 1)) = withs t s (R.drop (j + 1)) by unfold withs; rw [drop55_cons, if_pos h]]
      exact Ev.to (ih (j + 1) o (by omega) (by omega)) (fun k => by simp only [oncewebref14_Web_with.l0]; rw [if_pos (by omega), if_pos (by omega), rd55_at R j hlt, if_pos h, w1 j (by omega)])
    · rw [show withs t s (R[j] :: R.drop (j + 1)) = R[j] :: withs t s (R.drop (j + 1)) by unfold withs; rw [drop55_cons, if_neg h]; rfl]
      have := ih (j + 1) (o ++ [R[j]]) (by simp; omega) (by omega)
      rw [List.append_assoc] at this
      exact Ev.to this (fun k => by simp only [oncewebref14_Web_with.l0]; rw [if_pos (by omega), if_pos (by omega), rd55_at R j hlt, if_neg h, if_pos (by omega), w1 j (by omega)])
theorem with_ev (t : Int) (s : List Int) (hR : R.length ≤ 1000) : Ev (fun k => oncewebref14_Web_with.f k R Ws t s) (withs t s R, Ws) := with_from R Ws t s hR R.length 0 [] (by simp) (by omega)

def rlook (c : Int) : List S55 → Int × Bool
  | [] => (0, false)
  | x :: l => if c ∈ x.f1 then (x.f0, true) else rlook c l
theorem runner_in (c : Int) (hR : R.length ≤ 1000) (i : Nat) (hi : i < R.length) (hs : R[i].f1.length ≤ 1000) (r : Int × Bool) (hn : c ∉ R[i].f1 → Ev (fun k => oncewebref14_Web_Runner.l0 k c ((i + 1 : Nat) : Int) R Ws) r) (hp : c ∈ R[i].f1 → r = (R[i].f0, true)) :
    ∀ d (j : Nat), j + d = R[i].f1.length → c ∉ R[i].f1.take j → Ev (fun k => oncewebref14_Web_Runner.l1 k c (i : Int) (j : Int) R Ws) r := by
  intro d
  induction d with
  | zero =>
    intro j hj hno
    rw [List.take_of_length_le (by omega)] at hno
    exact Ev.to (hn hno) (fun k => by simp only [oncewebref14_Web_Runner.l1]; rw [if_pos (by omega), if_pos (by omega), rd55_at R i hi, if_neg (by omega), w1 i (by omega)])
  | succ d ih =>
    intro j hj hno
    have hlt : j < R[i].f1.length := by omega
    by_cases h : R[i].f1[j] = c
    · rw [hp (h ▸ List.getElem_mem hlt)]
      exact Ev.to (Ev.now _) (fun k => by simp only [oncewebref14_Web_Runner.l1]; rw [if_pos (by omega), if_pos (by omega), rd55_at R i hi, if_pos (by omega), if_pos (by omega), rdi_at _ j hlt, if_pos h])
    · refine Ev.to (ih (j + 1) (by omega) (fun k => ?_)) (fun k => by simp only [oncewebref14_Web_Runner.l1]; rw [if_pos (by omega), if_pos (by omega), rd55_at R i hi, if_pos (by omega), if_pos (by omega), rdi_at _ j hlt, if_neg h, w1 j (by omega)])
      rw [List.take_add_one, List.getElem?_eq_getElem hlt, List.mem_append] at k
      rcases k with k | k
      · exact hno k
      · simp at k; exact h k.symm
theorem runner_from (c : Int) (hR : R.length ≤ 1000) (hs : ∀ x ∈ R, x.f1.length ≤ 1000) : ∀ d (j : Nat), j + d = R.length → Ev (fun k => oncewebref14_Web_Runner.l0 k c (j : Int) R Ws) (rlook c (R.drop j)) := by
  intro d
  induction d with
  | zero =>
    intro j hj
    rw [List.drop_eq_nil_of_le (by omega)]
    exact Ev.to (Ev.now _) (fun k => by simp only [oncewebref14_Web_Runner.l0]; rw [if_neg (by omega)]; rfl)
  | succ d ih =>
    intro j hj
    have hlt : j < R.length := by omega
    rw [List.drop_eq_getElem_cons hlt]
    refine Ev.to (runner_in R Ws c hR j hlt (hs _ (List.getElem_mem hlt)) (rlook c (R[j] :: R.drop (j + 1))) (fun h => ?_) (fun h => ?_) R[j].f1.length 0 (by omega) (by simp)) (fun k => by simp only [oncewebref14_Web_Runner.l0]; rw [if_pos (by omega)]; rfl)
    · rw [show rlook c (R[j] :: R.drop (j + 1)) = rlook c (R.drop (j + 1)) by conv => lhs; unfold rlook; rw [if_neg h]]
      exact ih (j + 1) (by omega)
    · unfold rlook; rw [if_pos h]
theorem runner_ev (c : Int) (hR : R.length ≤ 1000) (hs : ∀ x ∈ R, x.f1.length ≤ 1000) : Ev (fun k => oncewebref14_Web_Runner.f k R Ws c) (rlook c R) := runner_from R Ws c hR hs R.length 0 (by omega)
end
end Go.Proofs.Ytohkobfamofkgaa.PDependPlays
namespace Go.Proofs.Ytohkobfamofkgaa.PDependPlays
open Go.RowKit Go.Proofs.Ytohkobfamofkgaa Go.Proofs.Ytohkobfamofkgaa.Wb Go.Proofs.YtohkobfamofkgaaW.PrintWords Go.Proofs.YtohkobfamofkgaaW.PrintLast Go.Proofs.YtohkobfamofkgaaW.PrintMore

theorem look_mem (x : S55) : ∀ {R : List S55}, (R.map (·.f0)).Nodup → x ∈ R → look x.f0 R = x.f1
  | [], _, h => absurd h (by simp)
  | y :: l, hn, h => by
    rw [List.map_cons, List.nodup_cons] at hn
    unfold look
    rcases List.mem_cons.1 h with rfl | h
    · rw [if_pos rfl]
    · rw [if_neg (fun e => hn.1 (List.mem_map.2 ⟨x, h, e.symm⟩))]
      exact look_mem x hn.2 h
theorem look_not (t : Int) : ∀ {R : List S55}, (∀ x ∈ R, x.f0 ≠ t) → look t R = []
  | [], _ => rfl
  | y :: l, h => by
    unfold look
    rw [if_neg (h y (by simp))]
    exact look_not t (fun x hx => h x (List.mem_cons_of_mem _ hx))
theorem wlook_mem (x : S57) : ∀ {R : List S57}, (R.map (·.f0)).Nodup → x ∈ R → wlook x.f0 R = (x.f1, true)
  | [], _, h => absurd h (by simp)
  | y :: l, hn, h => by
    rw [List.map_cons, List.nodup_cons] at hn
    unfold wlook
    rcases List.mem_cons.1 h with rfl | h
    · rw [if_pos rfl]
    · rw [if_neg (fun e => hn.1 (List.mem_map.2 ⟨x, h, e.symm⟩))]
      exact wlook_mem x hn.2 h
theorem wlook_not (t : Int) : ∀ {R : List S57}, (∀ x ∈ R, x.f0 ≠ t) → wlook t R = (0, false)
  | [], _ => rfl
  | y :: l, h => by
    unfold wlook
    rw [if_neg (h y (by simp))]
    exact wlook_not t (fun x hx => h x (List.mem_cons_of_mem _ hx))
theorem rlook_mem (c : Int) : ∀ {R : List S55}, (∃ x ∈ R, c ∈ x.f1) → ∃ x ∈ R, c ∈ x.f1 ∧ rlook c R = (x.f0, true)
  | [], ⟨x, h, _⟩ => absurd h (by simp)
  | y :: l, ⟨x, h, hc⟩ => by
    unfold rlook
    by_cases k : c ∈ y.f1
    · rw [if_pos k]; exact ⟨y, by simp, k, rfl⟩
    · rw [if_neg k]
      have hx : x ∈ l := by
        rcases List.mem_cons.1 h with rfl | h
        · exact absurd hc k
        · exact h
      obtain ⟨z, h1, h2, h3⟩ := rlook_mem c ⟨x, hx, hc⟩
      exact ⟨z, List.mem_cons_of_mem _ h1, h2, h3⟩
theorem rlook_not (c : Int) : ∀ {R : List S55}, (∀ x ∈ R, c ∉ x.f1) → rlook c R = (0, false)
  | [], _ => rfl
  | y :: l, h => by
    unfold rlook
    rw [if_neg (h y (by simp))]
    exact rlook_not c (fun x hx => h x (List.mem_cons_of_mem _ hx))

structure Rel (m : Web) (R : List S55) (Ws : List S57) : Prop where
  rt : ∀ x ∈ R, ∃ t : Nat, t < 128 ∧ x.f0 = t ∧ x.f1 = m.ls t ∧ m.ls t ≠ []
  rn : (R.map (·.f0)).Nodup
  ra : ∀ t : Nat, t < 128 → m.ls t ≠ [] → ∃ x ∈ R, x.f0 = (t : Int)
  wt : ∀ x ∈ Ws, ∃ t c : Nat, t < 128 ∧ c < 256 ∧ x.f0 = t ∧ x.f1 = c ∧ m.wai t = (c : Int) + 1
  wn : (Ws.map (·.f0)).Nodup
  wa : ∀ t : Nat, t < 128 → m.wai t ≠ 0 → ∃ x ∈ Ws, x.f0 = (t : Int)
  wq : ∀ c : Nat, c < 256 → m.ls (128 + c) = qlook c Ws
theorem Rel.zero : Rel m0 [] [] := ⟨by simp, by simp, fun t _ h => absurd rfl h, by simp, by simp, fun t _ h => absurd rfl h, fun c _ => rfl⟩
section
variable {m : Web} {R : List S55} {Ws : List S57} (h : Rel m R Ws) (hi : Iw m)
theorem Rel.mem_drop {t : Int} {x : S55} : x ∈ drop55 t R ↔ x ∈ R ∧ x.f0 ≠ t := by unfold drop55; rw [List.mem_filter]; simp
include h
theorem Rel.few55 : R.length ≤ 128 := by
  have := Cy.pigeon 128 (R.map (·.f0)) h.rn (fun x hx => by
    obtain ⟨y, hy, rfl⟩ := List.mem_map.1 hx
    obtain ⟨t, h1, h2, _⟩ := h.rt y hy
    omega)
  simpa using this
theorem Rel.few57 : Ws.length ≤ 128 := by
  have := Cy.pigeon 128 (Ws.map (·.f0)) h.wn (fun x hx => by
    obtain ⟨y, hy, rfl⟩ := List.mem_map.1 hx
    obtain ⟨t, c, h1, _, h2, _⟩ := h.wt y hy
    omega)
  simpa using this
theorem Rel.look {t : Nat} (ht : t < 128) : look t R = m.ls t := by
  by_cases hl : m.ls t = []
  · rw [hl]
    exact look_not _ (fun x hx e => by
      obtain ⟨t', _, h2, _, h4⟩ := h.rt x hx
      have : t' = t := by omega
      subst this; exact h4 hl)
  · obtain ⟨x, hx, e⟩ := h.ra t ht hl
    rw [← e, look_mem x h.rn hx]
    obtain ⟨t', _, h2, h3, _⟩ := h.rt x hx
    have : t' = t := by omega
    subst this; exact h3
theorem Rel.wlook0 {t : Nat} (hw : m.wai t = 0) : wlook t Ws = (0, false) :=
  wlook_not _ (fun x hx e => by
    obtain ⟨t', c, _, _, h2, _, h4⟩ := h.wt x hx
    have : t' = t := by omega
    subst this; omega)
theorem Rel.wlook1 {t c : Nat} (ht : t < 128) (hw : m.wai t = (c : Int) + 1) : wlook t Ws = ((c : Int), true) := by
  obtain ⟨x, hx, e⟩ := h.wa t ht (by omega)
  rw [← e, wlook_mem x h.wn hx]
  obtain ⟨t', c', _, _, h2, h3, h4⟩ := h.wt x hx
  have : t' = t := by omega
  subst this
  have : c' = c := by omega
  subst this; rw [h3]
theorem Rel.small : ∀ x ∈ R, Iw m → x.f1.length ≤ 1000 := fun x hx hi => by
  obtain ⟨t, h1, _, h3, _⟩ := h.rt x hx
  rw [h3]; have := hi.wf.len t h1; omega
include hi
theorem Rel.rlook0 {c : Nat} (hr : m.run c = 0) : rlook c R = (0, false) :=
  rlook_not _ (fun x hx hc => by
    obtain ⟨t, h1, h2, h3, _⟩ := h.rt x hx
    rw [h3] at hc
    obtain ⟨d, k1, k2, k3⟩ := hi.stk t h1 _ hc
    have : d = c := by omega
    subst this; omega)
theorem Rel.rlook1 {c r : Nat} (hc : c < 256) (hr : m.run c = (r : Int) + 1) : rlook c R = ((r : Int), true) := by
  rcases hi.wf.run c hc with k | ⟨r', k1, k2, k3⟩
  · omega
  · have : r' = r := by omega
    subst this
    obtain ⟨x, hx, e⟩ := h.ra r' k1 (fun e => by rw [e] at k3; exact absurd k3 (by simp))
    have hx1 : x.f1 = m.ls r' := by
      obtain ⟨t', _, h2, h3, _⟩ := h.rt x hx
      have : t' = r' := by omega
      subst this; exact h3
    obtain ⟨z, h1, h2, h3⟩ := rlook_mem (c : Int) ⟨x, hx, by rw [hx1]; exact k3⟩
    rw [h3]
    obtain ⟨t', g1, g2, g3, _⟩ := h.rt z h1
    rw [g3] at h2
    obtain ⟨d, j1, j2, j3⟩ := hi.stk t' g1 _ h2
    have : d = c := by omega
    subst this
    have : t' = r' := by omega
    subst this; rw [g2]
omit hi
theorem Rel.begun_ {t c : Nat} (ht : t < 128) (hc : c < 256) : Rel (Wb.begun m t c) (withs t (m.ls t ++ [(c : Int)]) R) Ws := by
  have hls : ∀ i, i ≠ t → (Wb.begun m t c).ls i = m.ls i := fun i hi => upd_other _ _ hi
  have hlt : (Wb.begun m t c).ls t = m.ls t ++ [(c : Int)] := upd_same _ _ _
  have hne : m.ls t ++ [(c : Int)] ≠ [] := by simp
  have hw : withs t (m.ls t ++ [(c : Int)]) R = drop55 t R ++ [⟨(t : Int), m.ls t ++ [(c : Int)]⟩] := by unfold withs; rw [if_neg hne]
  rw [hw]
  refine ⟨fun x hx => ?_, ?_, fun s hs k => ?_, h.wt, h.wn, h.wa, fun d hd => ?_⟩
  · rcases List.mem_append.1 hx with hx | hx
    · obtain ⟨h1, h2⟩ := Rel.mem_drop.1 hx
      obtain ⟨s, k1, k2, k3, k4⟩ := h.rt x h1
      have hst : s ≠ t := fun e => by subst e; exact h2 k2
      exact ⟨s, k1, k2, by rw [hls s hst]; exact k3, by rw [hls s hst]; exact k4⟩
    · obtain rfl : x = ⟨(t : Int), m.ls t ++ [(c : Int)]⟩ := by simpa using hx
      exact ⟨t, ht, rfl, by rw [hlt], by rw [hlt]; exact hne⟩
  · rw [List.map_append, List.nodup_append]
    refine ⟨?_, by simp, fun a ha b hb e => ?_⟩
    · exact (h.rn.sublist (List.filter_sublist.map _))
    · obtain ⟨x, hx, rfl⟩ := List.mem_map.1 ha
      have hb' : b = (t : Int) := by simpa using hb
      exact (Rel.mem_drop.1 hx).2 (e.trans hb')
  · by_cases e : s = t
    · subst e; exact ⟨_, List.mem_append_right _ (List.mem_singleton.2 rfl), rfl⟩
    · rw [hls s e] at k
      obtain ⟨x, hx, e2⟩ := h.ra s hs k
      exact ⟨x, List.mem_append_left _ (Rel.mem_drop.2 ⟨hx, by omega⟩), e2⟩
  · rw [hls _ (by omega)]; exact h.wq d hd
theorem Rel.waited_ {t c : Nat} (ht : t < 128) (hc : c < 256) (hw : m.wai t = 0) : Rel (Wb.waited m t c) R (Ws ++ [⟨(t : Int), (c : Int)⟩]) := by
  have hlc : (Wb.waited m t c).ls (128 + c) = m.ls (128 + c) ++ [(t : Int)] := upd_same _ _ _
  have hls : ∀ i, i ≠ 128 + c → (Wb.waited m t c).ls i = m.ls i := fun i hi => upd_other _ _ hi
  have hwt : (Wb.waited m t c).wai t = (c : Int) + 1 := upd_same _ _ _
  have hwo : ∀ s, s ≠ t → (Wb.waited m t c).wai s = m.wai s := fun s hs => upd_other _ _ hs
  have hnt : ∀ x ∈ Ws, x.f0 ≠ (t : Int) := fun x hx e => by
    obtain ⟨s, d, _, _, k3, _, k5⟩ := h.wt x hx
    have : s = t := by omega
    subst this; omega
  refine ⟨fun x hx => ?_, h.rn, fun s hs k => ?_, fun x hx => ?_, ?_, fun s hs k => ?_, fun d hd => ?_⟩
  · obtain ⟨s, k1, k2, k3, k4⟩ := h.rt x hx
    exact ⟨s, k1, k2, by rw [hls s (by omega)]; exact k3, by rw [hls s (by omega)]; exact k4⟩
  · rw [hls s (by omega)] at k; exact h.ra s hs k
  · rcases List.mem_append.1 hx with hx | hx
    · obtain ⟨s, d, k1, k2, k3, k4, k5⟩ := h.wt x hx
      have hst : s ≠ t := fun e => hnt x hx (by rw [k3, e])
      exact ⟨s, d, k1, k2, k3, k4, by rw [hwo s hst]; exact k5⟩
    · obtain rfl : x = ⟨(t : Int), (c : Int)⟩ := by simpa using hx
      exact ⟨t, c, ht, hc, rfl, rfl, hwt⟩
  · rw [List.map_append, List.nodup_append]
    refine ⟨h.wn, by simp, fun a ha b hb e => ?_⟩
    obtain ⟨x, hx, rfl⟩ := List.mem_map.1 ha
    have hb' : b = (t : Int) := by simpa using hb
    exact hnt x hx (e.trans hb')
  · by_cases e : s = t
    · subst e; exact ⟨_, List.mem_append_right _ (List.mem_singleton.2 rfl), rfl⟩
    · rw [hwo s e] at k
      obtain ⟨x, hx, e2⟩ := h.wa s hs k
      exact ⟨x, List.mem_append_left _ hx, e2⟩
  · unfold qlook
    rw [List.filter_append, List.map_append]
    by_cases e : d = c
    · subst e
      rw [hlc, h.wq d hd]; simp [qlook]
    · rw [hls _ (by omega), h.wq d hd, List.filter_cons_of_neg (by simp; omega)]; simp [qlook]
/-- Waits that go: those of the tasks in l. -/
theorem Rel.gone {m' : Web} (l : List Int) (hls : ∀ t, t < 128 → m'.ls t = m.ls t) (hw0 : ∀ t : Nat, (t : Int) ∈ l → m'.wai t = 0) (hw1 : ∀ t : Nat, (t : Int) ∉ l → m'.wai t = m.wai t)
    (hq : ∀ c : Nat, c < 256 → m'.ls (128 + c) = (m.ls (128 + c)).filter (fun x => !(l.contains x))) : Rel m' R (Ws.filter (fun x => !(l.contains x.f0))) := by
  have hmem : ∀ x, x ∈ Ws.filter (fun x => !(l.contains x.f0)) ↔ x ∈ Ws ∧ x.f0 ∉ l := fun x => by rw [List.mem_filter]; simp
  refine ⟨fun x hx => ?_, h.rn, fun s hs k => ?_, fun x hx => ?_, ?_, fun s hs k => ?_, fun d hd => ?_⟩
  · obtain ⟨s, k1, k2, k3, k4⟩ := h.rt x hx
    exact ⟨s, k1, k2, by rw [hls s k1]; exact k3, by rw [hls s k1]; exact k4⟩
  · rw [hls s hs] at k; exact h.ra s hs k
  · obtain ⟨hx, hn⟩ := (hmem x).1 hx
    obtain ⟨s, d, k1, k2, k3, k4, k5⟩ := h.wt x hx
    exact ⟨s, d, k1, k2, k3, k4, by rw [hw1 s (by rw [← k3]; exact hn)]; exact k5⟩
  · exact h.wn.sublist (List.filter_sublist.map _)
  · by_cases e : (s : Int) ∈ l
    · exact absurd (hw0 s e) k
    · rw [hw1 s e] at k
      obtain ⟨x, hx, e2⟩ := h.wa s hs k
      exact ⟨x, (hmem x).2 ⟨hx, by rw [e2]; exact e⟩, e2⟩
  · rw [hq d hd, h.wq d hd]
    unfold qlook
    rw [List.filter_map, List.filter_filter, List.filter_filter]
    congr 1
    apply List.filter_congr
    intro x _
    simp only [Function.comp]
    exact Bool.and_comm _ _
theorem Rel.cut_ {t : Nat} (s0 : List Int) (rn : Nat → Int) (ht : t < 128) : Rel { m with ls := upd m.ls t s0, run := rn } (withs t s0 R) Ws := by
  have hls : ∀ i, i ≠ t → upd m.ls t s0 i = m.ls i := fun i hi => upd_other _ _ hi
  have hlt : upd m.ls t s0 t = s0 := upd_same _ _ _
  refine ⟨fun x hx => ?_, ?_, fun s hs k => ?_, h.wt, h.wn, h.wa, fun d hd => ?_⟩
  · unfold withs at hx
    rcases List.mem_append.1 hx with hx | hx
    · obtain ⟨h1, h2⟩ := Rel.mem_drop.1 hx
      obtain ⟨s, k1, k2, k3, k4⟩ := h.rt x h1
      have hst : s ≠ t := fun e => by subst e; exact h2 k2
      exact ⟨s, k1, k2, by show x.f1 = upd m.ls t s0 s; rw [hls s hst]; exact k3, by show upd m.ls t s0 s ≠ []; rw [hls s hst]; exact k4⟩
    · by_cases e : s0 = []
      · rw [if_pos e] at hx; exact absurd hx (by simp)
      · rw [if_neg e] at hx
        obtain rfl : x = ⟨(t : Int), s0⟩ := by simpa using hx
        exact ⟨t, ht, rfl, hlt.symm, by show upd m.ls t s0 t ≠ []; rw [hlt]; exact e⟩
  · unfold withs
    rw [List.map_append, List.nodup_append]
    refine ⟨h.rn.sublist (List.filter_sublist.map _), ?_, fun a ha b hb e => ?_⟩
    · split <;> simp
    · obtain ⟨x, hx, rfl⟩ := List.mem_map.1 ha
      have hb' : b = (t : Int) := by
        split at hb
        · exact absurd hb (by simp)
        · simpa using hb
      exact (Rel.mem_drop.1 hx).2 (e.trans hb')
  · have k : upd m.ls t s0 s ≠ [] := k
    by_cases e : s = t
    · subst e
      rw [hlt] at k
      exact ⟨⟨(s : Int), s0⟩, List.mem_append_right _ (by rw [if_neg k]; exact List.mem_singleton.2 rfl), rfl⟩
    · rw [hls s e] at k
      obtain ⟨x, hx, e2⟩ := h.ra s hs k
      exact ⟨x, List.mem_append_left _ (Rel.mem_drop.2 ⟨hx, by omega⟩), e2⟩
  · show upd m.ls t s0 (128 + d) = _
    rw [hls _ (by omega)]; exact h.wq d hd
end
theorem Rel.ended_ {m : Web} {R : List S55} {Ws : List S57} (h : Rel m R Ws) (hi : Iw m) {t c : Nat} {s0 : List Int} (ht : t < 128) (hc : c < 256) :
    Rel (Wb.ended m t c s0) (withs t s0 R) (Ws.filter (fun x => !((m.ls (128 + c)).contains x.f0))) := by
  refine (h.cut_ s0 (upd m.run c 0) ht).gone (m.ls (128 + c)) (fun i hi => ?_) (fun s hs => ?_) (fun s hs => ?_) (fun d hd => ?_)
  · exact upd_other _ _ (by omega)
  · show clr _ _ s = 0; unfold clr; rw [if_pos hs]
  · show clr _ _ s = _; unfold clr; rw [if_neg hs]
  · show upd (upd m.ls t s0) (128 + c) [] (128 + d) = (upd m.ls t s0 (128 + d)).filter _
    rw [upd_other m.ls _ (by omega)]
    by_cases e : d = c
    · subst e
      rw [upd_same]
      symm
      rw [List.filter_eq_nil_iff]
      intro x hx; simpa using hx
    · rw [upd_other _ _ (by omega), upd_other _ _ (by omega)]
      symm
      rw [List.filter_eq_self]
      intro x hx
      simp only [Bool.not_eq_true', List.contains_eq_mem, decide_eq_false_iff_not]
      intro k
      obtain ⟨y, _, h2, h3⟩ := hi.que d hd x hx
      obtain ⟨y', _, h5, h6⟩ := hi.que c hc x k
      have : y' = y := by omega
      subst this
      omega
theorem drop57_filter (t : Int) (l : List S57) : drop57 t l = l.filter (fun x => !(([t] : List Int).contains x.f0)) := by
  unfold drop57
  apply List.filter_congr
  intro x _
  by_cases e : x.f0 = t <;> simp [e]
theorem Rel.woken_ {m : Web} {R : List S55} {Ws : List S57} (h : Rel m R Ws) (hi : Iw m) {t c : Nat} (ht : t < 128) (hc : c < 256) (hw : m.wai t = (c : Int) + 1) :
    Rel (Wb.woken m t c) R (drop57 t Ws) := by
  rw [drop57_filter]
  refine h.gone [(t : Int)] (fun i hi => ?_) (fun s hs => ?_) (fun s hs => ?_) (fun d hd => ?_)
  · exact upd_other _ _ (by omega)
  · obtain rfl : s = t := by simp at hs; omega
    exact upd_same _ _ _
  · exact upd_other _ _ (fun e => hs (by subst e; simp))
  · show upd m.ls (128 + c) _ (128 + d) = _
    by_cases e : d = c
    · subst e
      rw [upd_same]
      apply List.filter_congr
      intro x _
      simp
    · rw [upd_other _ _ (by omega)]
      symm
      rw [List.filter_eq_self]
      intro x hx
      obtain ⟨y, _, h2, h3⟩ := hi.que d hd x hx
      simp only [Bool.not_eq_true', List.contains_eq_mem, decide_eq_false_iff_not, List.mem_singleton]
      intro k
      have : y = t := by omega
      subst this
      omega
/-- All of a list woken, one behind the other. -/
theorem drops_filter : ∀ (l : List Int) (Ws : List S57), l.foldl (fun W y => drop57 y W) Ws = Ws.filter (fun x => !(l.contains x.f0))
  | [], Ws => (List.filter_eq_self.2 (fun x _ => by simp)).symm
  | t :: l, Ws => by
    rw [List.foldl_cons, drops_filter l, drop57, List.filter_filter]
    apply List.filter_congr
    intro x _
    simp only [List.contains_cons, Bool.not_or]
    exact Bool.and_comm _ _
end Go.Proofs.Ytohkobfamofkgaa.PDependPlays
namespace Go.Proofs.Ytohkobfamofkgaa.PDependPlays
open Go.RowKit Go.Proofs.Ytohkobfamofkgaa Go.Proofs.Ytohkobfamofkgaa.Wb Go.Proofs.YtohkobfamofkgaaW.PrintWords Go.Proofs.YtohkobfamofkgaaW.PrintLast Go.Proofs.YtohkobfamofkgaaW.PrintMore

theorem Ev.cg {α : Type} {g f : Nat → Option α} {r : α} (k : Ev f r) (h : ∀ k, g k = f k) : Ev g r := Ev.congr h k
theorem at_lt {α : Type} {l : List α} {p : Nat} {x : α} (h : l[p]? = some x) : p < l.length := by
  rcases Nat.lt_or_ge p l.length with k | k
  · exact k
  · rw [List.getElem?_eq_none k] at h; exact absurd h (by simp)
theorem nodup_at {l : List Int} (hn : l.Nodup) {p q : Nat} {x : Int} (h1 : l[p]? = some x) (h2 : l[q]? = some x) : p = q :=
  (List.getElem?_inj (at_lt h1) hn).1 (h1.trans h2.symm)
section
variable {m : Web} {R : List S55} {Ws : List S57} (h : Rel m R Ws) (hi : Iw m)
include h hi
/-- What follows a place in a stack. -/
theorem Rel.next_in {a r p : Nat} {s : List Int} (hr : r < 128) (hs : s = m.ls r) (hp : s[p]? = some (a : Int)) :
    ∀ d (j : Nat), j + d = p → Ev (fun k => oncewebref14_Web_next.l0 k (a : Int) (r : Int) s (j : Int) R Ws) (match s[p + 1]? with | some b => (b, true) | none => wlook r Ws) := by
  have hn : s.Nodup := hs ▸ hi.snd r hr
  have hlen : s.length ≤ 48 := hs ▸ hi.wf.len r hr
  have hpl := at_lt hp
  have hW : Ws.length ≤ 1000 := by have := h.few57; omega
  intro d
  induction d with
  | zero =>
    intro j hj
    obtain rfl : j = p := by omega
    by_cases hl : j + 1 < s.length
    · rw [List.getElem?_eq_getElem hl]
      refine Ev.to (Ev.now _) (fun k => ?_)
      simp only [oncewebref14_Web_next.l0]
      rw [w1 j (by omega), if_pos (by omega), if_pos (by omega), if_pos (by omega), rd_some hp, if_pos rfl, if_pos (by omega), rdi_at _ _ hl]
    · rw [List.getElem?_eq_none (by omega)]
      refine Ev.to (Ev.bind (waiting_ev R Ws (r : Int) hW) (Ev.now _)) (fun k => ?_)
      simp only [oncewebref14_Web_next.l0]
      rw [w1 j (by omega), if_neg (by omega)]
  | succ d ih =>
    intro j hj
    have hne : rd s (j : Int) ≠ (a : Int) := by
      intro e
      have h1 : s[j]? = some (a : Int) := by
        rw [List.getElem?_eq_getElem (by omega)]
        rw [rdi_at s j (by omega)] at e
        rw [e]
      have := nodup_at hn h1 hp
      omega
    refine Ev.to (ih (j + 1) (by omega)) (fun k => ?_)
    simp only [oncewebref14_Web_next.l0]
    rw [w1 j (by omega), if_pos (by omega), if_pos (by omega), if_pos (by omega), if_neg hne]
theorem Rel.next_ev {a r p : Nat} (ha : a < 256) (hr : r < 128) (hrun : m.run a = (r : Int) + 1) (hp : (m.ls r)[p]? = some (a : Int)) :
    Ev (fun k => oncewebref14_Web_next.f k R Ws (a : Int)) (match (m.ls r)[p + 1]? with | some b => (b, true) | none => wlook r Ws) := by
  have hR : R.length ≤ 1000 := by have := h.few55; omega
  have e1 := runner_ev R Ws (a : Int) hR (fun x hx => h.small x hx hi)
  rw [h.rlook1 hi ha hrun] at e1
  have e2 := stack_ev R Ws (r : Int) hR
  rw [h.look hr] at e2
  have e3 := h.next_in hi hr rfl hp p 0 (by omega)
  exact Ev.cg (Ev.bind (f := fun n bt => if bt.2 = true then ((oncewebref14_Web_Stack.f n R Ws bt.1).bind fun t199 => (oncewebref14_Web_next.l0 n (a : Int) bt.1 t199 0 R Ws)) else some (0, false)) e1 (Ev.cg (Ev.bind (f := fun n t => oncewebref14_Web_next.l0 n (a : Int) (r : Int) t 0 R Ws) e2 e3) (fun k => by rw [if_pos rfl]))) (fun k => rfl)
omit h in
/-- Going on, one comes down. -/
theorem Iw.falls (rk : Nat → Nat) (hrk : ∀ t c r : Nat, t < 128 → m.wai t = (c : Int) + 1 → m.run c = (r : Int) + 1 → rk r < rk t) {a b : Int} (k : Lead m a b) :
    rk (m.run b.toNat - 1).toNat * 49 + ((m.ls (m.run b.toNat - 1).toNat).length - pos b (m.ls (m.run b.toNat - 1).toNat)) < rk (m.run a.toNat - 1).toNat * 49 + ((m.ls (m.run a.toNat - 1).toNat).length - pos a (m.ls (m.run a.toNat - 1).toNat)) := by
  obtain ⟨a', r, p, rfl, ha, hr, hrun, hp, hb⟩ := k
  have e1 : (m.run ((a' : Int)).toNat - 1).toNat = r := by rw [Int.toNat_natCast]; omega
  rw [e1]
  have hpos : ∀ q x, (m.ls r)[q]? = some x → pos x (m.ls r) = q := fun q x hq => nodup_at (hi.snd r hr) (pos_at (List.mem_of_getElem? hq)) hq
  rw [hpos p _ hp]
  have hpl := at_lt hp
  have hlen := hi.wf.len r hr
  rcases hb with hb | ⟨hb, d, hd, rfl, hw⟩
  · obtain ⟨b', k1, k2, k3⟩ := hi.stk r hr b (List.mem_of_getElem? hb)
    subst k2
    have e2 : (m.run ((b' : Int)).toNat - 1).toNat = r := by rw [Int.toNat_natCast]; omega
    rw [e2, hpos _ _ hb]
    have := at_lt hb
    omega
  · rw [Int.toNat_natCast]
    rcases hi.wf.run d hd with k | ⟨r', k1, k2, k3⟩
    · exact absurd k (hi.runs r d hr hw)
    · have e2 : (m.run d - 1).toNat = r' := by omega
      rw [e2]
      have h1 := hrk r d r' hr hw k2
      have h2 := hi.wf.len r' k1
      have h3 := pos_lt k3
      have h4 : rk r' + 1 ≤ rk r := h1
      have h5 : (rk r' + 1) * 49 ≤ rk r * 49 := Nat.mul_le_mul_right 49 h4
      rw [Nat.add_mul] at h5
      omega
omit h in
theorem Iw.lk_nodup : ∀ {L : List Int}, Lk m L → L.Nodup := by
  obtain ⟨rk, hrk⟩ := hi.rank
  have hf := fun {a b : Int} (k : Lead m a b) => Iw.falls hi rk hrk k
  have hall : ∀ (l : List Int) (a : Int), Lk m (a :: l) → ∀ x ∈ l, rk (m.run x.toNat - 1).toNat * 49 + ((m.ls (m.run x.toNat - 1).toNat).length - pos x (m.ls (m.run x.toNat - 1).toNat)) < rk (m.run a.toNat - 1).toNat * 49 + ((m.ls (m.run a.toNat - 1).toNat).length - pos a (m.ls (m.run a.toNat - 1).toNat)) := by
    intro l
    induction l with
    | nil => intro a _ x hx; exact absurd hx (by simp)
    | cons b l ih =>
      intro a hl x hx
      have h1 := hf hl.1
      rcases List.mem_cons.1 hx with rfl | hx
      · exact h1
      · exact Nat.lt_trans (ih b hl.2 x hx) h1
  intro L
  induction L with
  | nil => intro _; exact List.nodup_nil
  | cons a l ih =>
    intro hl
    rw [List.nodup_cons]
    refine ⟨fun k => Nat.lt_irrefl _ (hall l a hl a k), ?_⟩
    cases l with
    | nil => exact List.nodup_nil
    | cons b l => exact ih hl.2
omit h hi in
theorem Iw.lk_cells {L : List Int} (hl : Lk m L) (x0 : Int) (hlast : L.getLast? = some x0) (h0 : 0 ≤ x0 ∧ x0 < 256) : ∀ x ∈ L, 0 ≤ x ∧ x < 256 := by
  intro x hx
  obtain ⟨j, hj, e⟩ := List.mem_iff_getElem.1 hx
  by_cases hlt : j + 1 < L.length
  · obtain ⟨a', _, _, e2, ha, _⟩ := hl.at_ j _ _ (List.getElem?_eq_getElem hj) (List.getElem?_eq_getElem hlt)
    rw [e] at e2; omega
  · rw [List.getLast?_eq_getElem?, show L.length - 1 = j by omega, List.getElem?_eq_getElem hj] at hlast
    injection hlast with hlast
    omega
/-- The way to the end, where there is one. -/
theorem Rel.circle_some {L s : List Int} (hl : Lk m L) (hs : 0 < s.length) (hs2 : s.length ≤ 48) (hlast : L.getLast? = some (rd s ((s.length : Int) - 1))) (hx : 0 ≤ rd s ((s.length : Int) - 1) ∧ rd s ((s.length : Int) - 1) < 256) :
    ∀ d (j : Nat), j + 1 + d = L.length → Ev (fun k => oncewebref14_Web_circle.l0 k s (L.take (j + 1)) R Ws) L := by
  have hn := Iw.lk_nodup hi hl
  have hc := Iw.lk_cells hl _ hlast hx
  have hfew := Cy.pigeon 256 L hn hc
  have w2 : ∀ n : Nat, n < 100000 → wrap64 ((n : Int) - 1) = (n : Int) - 1 := fun n hn => by unfold wrap64; omega
  have hL : 0 < L.length := by cases L with | nil => exact absurd hlast (by simp) | cons x l => simp
  have hlx : L[L.length - 1]? = some (rd s ((s.length : Int) - 1)) := by rw [← List.getLast?_eq_getElem?]; exact hlast
  intro d
  induction d with
  | zero =>
    intro j hj
    have ht : L.take (j + 1) = L := List.take_of_length_le (by omega)
    rw [ht]
    refine Ev.to (Ev.now _) (fun k => ?_)
    simp only [oncewebref14_Web_circle.l0]
    have e : rd L ((L.length : Int) - 1) = rd s ((s.length : Int) - 1) := by
      have := rd_some hlx
      rw [show (((L.length - 1 : Nat) : Int)) = (L.length : Int) - 1 by omega] at this
      exact this
    rw [w2 _ (by omega), w2 _ (by omega), if_pos (by omega), if_pos (by omega), if_pos (by omega), if_pos (by omega), if_pos e]
  | succ d ih =>
    intro j hj
    have htl : (L.take (j + 1)).length = j + 1 := by rw [List.length_take]; omega
    have hj1 : j + 1 < L.length := by omega
    have ej : L[j]? = some L[j] := List.getElem?_eq_getElem (by omega)
    have ej1 : L[j + 1]? = some L[j + 1] := List.getElem?_eq_getElem hj1
    have hld := hl.at_ j _ _ ej ej1
    have e0 : rd (L.take (j + 1)) (((L.take (j + 1)).length : Int) - 1) = L[j] := by
      rw [htl, show ((j + 1 : Nat) : Int) - 1 = (j : Int) by omega, rdi_at _ _ (by omega), List.getElem_take]
    have hne : L[j] ≠ rd s ((s.length : Int) - 1) := fun e => by
      rw [e] at ej
      have := nodup_at hn ej hlx
      omega
    obtain ⟨a', r, p, e2, ha, hr, hrun, hp, hb⟩ := hld
    have hnx : Ev (fun k => oncewebref14_Web_next.f k R Ws (a' : Int)) (L[j + 1], true) := by
      have hq := h.next_ev hi ha hr hrun (e2 ▸ hp)
      rcases hb with hb | ⟨hb, dd, hd, e5, hw⟩
      · rw [hb] at hq; exact hq
      · rw [List.getElem?_eq_none (by omega), h.wlook1 hr hw] at hq
        rw [e5]; exact hq
    have ht2 : L.take (j + 1) ++ [L[j + 1]] = L.take (j + 1 + 1) := by rw [List.take_add_one (l := L) (i := j + 1), ej1]; rfl
    have ih' := ih (j + 1) (by omega)
    rw [← ht2] at ih'
    refine Ev.to (Ev.bind (f := fun n bt => if bt.2 = true then (if ((L.take (j + 1)).length : Int) > 256 then (some ([] : List Int)) else (if (L.take (j + 1)).length < 17592186044416 then (oncewebref14_Web_circle.l0 n s (L.take (j + 1) ++ [bt.1]) R Ws) else none)) else some ([] : List Int)) hnx (Ev.cg ih' (fun k => by rw [if_pos rfl, htl, if_neg (by omega), if_pos (by omega)]))) (fun k => ?_)
    simp only [oncewebref14_Web_circle.l0]
    rw [w2 _ (by rw [htl]; omega), w2 _ (by omega), if_pos (by rw [htl]; omega), if_pos (by omega), if_pos (by omega), if_pos (by omega), e0, if_neg hne, e2]
/-- Where there is none. -/
theorem Rel.circle_none {t : Nat} {s : List Int} (hs : 0 < s.length) (hs2 : s.length ≤ 48) (hlast : ∃ z : Nat, rd s ((s.length : Int) - 1) = (z : Int) ∧ m.run z = (t : Int) + 1) :
    ∀ d (o : List Int) (x r p n c : Nat), o.length + d = 257 → 0 < o.length → rd o ((o.length : Int) - 1) = (x : Int) → x < 256 → r < 128 → m.run x = (r : Int) + 1 → (m.ls r)[p]? = some (x : Int) → c < 256 → m.run c = (r : Int) + 1 → Wb.ends m t n c → circ m t n c = none →
      Ev (fun k => oncewebref14_Web_circle.l0 k s o R Ws) ([] : List Int) := by
  have w2 : ∀ n : Nat, n < 100000 → wrap64 ((n : Int) - 1) = (n : Int) - 1 := fun n hn => by unfold wrap64; omega
  obtain ⟨z, hz, hzr⟩ := hlast
  intro d
  induction d with
  | zero =>
    intro o x r p n c ho hop hox hx hr hrun hp hc hrc he hno
    have hrt : r ≠ t := fun e => by
      subst e
      cases n with
      | zero => exact he
      | succ n => rw [circ_hit hrc] at hno; exact absurd hno (by simp)
    have hne : (x : Int) ≠ rd s ((s.length : Int) - 1) := fun e => by
      rw [hz] at e
      have : x = z := by omega
      subst this; omega
    have hq := h.next_ev hi hx hr hrun hp
    generalize (match (m.ls r)[p + 1]? with | some b => (b, true) | none => wlook r Ws) = q at hq
    refine Ev.to (Ev.bind (f := fun n bt => if bt.2 = true then (if (o.length : Int) > 256 then (some ([] : List Int)) else (if o.length < 17592186044416 then (oncewebref14_Web_circle.l0 n s (o ++ [bt.1]) R Ws) else none)) else some ([] : List Int)) hq (Ev.cg (Ev.now _) (fun k => ?_))) (fun k => ?_)
    · by_cases hb : q.2 = true
      · rw [if_pos hb, if_pos (by omega)]
      · rw [if_neg hb]
    · simp only [oncewebref14_Web_circle.l0]
      rw [w2 _ (by omega), w2 _ (by omega), if_pos (by omega), if_pos (by omega), if_pos (by omega), if_pos (by omega), hox, if_neg hne]
  | succ d ih =>
    intro o x r p n c ho hop hox hx hr hrun hp hc hrc he hno
    have hrt : r ≠ t := fun e => by
      subst e
      cases n with
      | zero => exact he
      | succ n => rw [circ_hit hrc] at hno; exact absurd hno (by simp)
    have hne : (x : Int) ≠ rd s ((s.length : Int) - 1) := fun e => by
      rw [hz] at e
      have : x = z := by omega
      subst this; omega
    have hq := h.next_ev hi hx hr hrun hp
    have hlo : ∀ y : Int, rd (o ++ [y]) (((o ++ [y]).length : Int) - 1) = y := fun y => by
      rw [List.length_append, show ((o.length + [y].length : Nat) : Int) - 1 = (o.length : Int) by simp]
      exact rd_some (by simp)
    have key : ∀ b : Int, Ev (fun k => oncewebref14_Web_circle.l0 k s (o ++ [b]) R Ws) ([] : List Int) → Ev (fun k => oncewebref14_Web_next.f k R Ws (x : Int)) (b, true) → Ev (fun k => oncewebref14_Web_circle.l0 k s o R Ws) ([] : List Int) := fun b h1 h2 => by
      refine Ev.to (Ev.bind (f := fun n bt => if bt.2 = true then (if (o.length : Int) > 256 then (some ([] : List Int)) else (if o.length < 17592186044416 then (oncewebref14_Web_circle.l0 n s (o ++ [bt.1]) R Ws) else none)) else some ([] : List Int)) h2 (Ev.cg h1 (fun k => by rw [if_pos rfl, if_neg (by omega), if_pos (by omega)]))) (fun k => ?_)
      simp only [oncewebref14_Web_circle.l0]
      rw [w2 _ (by omega), w2 _ (by omega), if_pos (by omega), if_pos (by omega), if_pos (by omega), if_pos (by omega), hox, if_neg hne]
    cases hb : (m.ls r)[p + 1]? with
    | some b =>
      rw [hb] at hq
      obtain ⟨b', k1, k2, k3⟩ := hi.stk r hr b (List.mem_of_getElem? hb)
      subst k2
      exact key _ (ih (o ++ [(b' : Int)]) b' r (p + 1) n c (by simp; omega) (by simp) (hlo _) k1 hr k3 hb hc hrc he hno) hq
    | none =>
      rw [hb] at hq
      have hq : Ev (fun k => oncewebref14_Web_next.f k R Ws (x : Int)) (wlook r Ws) := hq
      rcases hi.wf.wai r hr with hw | ⟨c', hc', hw⟩
      · rw [h.wlook0 hw] at hq
        refine Ev.to (Ev.bind (f := fun n bt => if bt.2 = true then (if (o.length : Int) > 256 then (some ([] : List Int)) else (if o.length < 17592186044416 then (oncewebref14_Web_circle.l0 n s (o ++ [bt.1]) R Ws) else none)) else some ([] : List Int)) hq (Ev.cg (Ev.now _) (fun k => by rw [if_neg (by simp)]))) (fun k => ?_)
        simp only [oncewebref14_Web_circle.l0]
        rw [w2 _ (by omega), w2 _ (by omega), if_pos (by omega), if_pos (by omega), if_pos (by omega), if_pos (by omega), hox, if_neg hne]
      · rw [h.wlook1 hr hw] at hq
        cases n with
        | zero => exact absurd he (by simp [Wb.ends])
        | succ n =>
          have he' := ends_on he hrc hrt hw
          rw [circ_on hrc hrt hw, Option.map_eq_none_iff] at hno
          rcases hi.wf.run c' hc' with k | ⟨r', k1, k2, k3⟩
          · exact absurd k (hi.runs r c' hr hw)
          · exact key _ (ih (o ++ [(c' : Int)]) c' r' (pos (c' : Int) (m.ls r')) n c' (by simp; omega) (by simp) (hlo _) hc' k1 k2 (pos_at k3) hc' k2 he' hno) hq
theorem Rel.circle_ev {t c : Nat} (ht : t < 128) (hc : c < 256) : Ev (fun k => oncewebref14_Web_circle.f k R Ws (t : Int) (c : Int)) (circle m t 129 c) := by
  have hR : R.length ≤ 1000 := by have := h.few55; omega
  have e1 := stack_ev R Ws (t : Int) hR
  rw [h.look ht] at e1
  refine Ev.cg (Ev.bind (f := fun n t207 => if (t207.length : Int) = 0 then (some ([] : List Int)) else ((oncewebref14_Web_Runner.f n R Ws (c : Int)).bind fun bt210 => (if bt210.2 = true then (oncewebref14_Web_circle.l0 n t207 (([(c : Int)] : List Int)) R Ws) else (some ([] : List Int))))) e1 ?_) (fun k => rfl)
  unfold circle
  by_cases hl : (m.ls t).length = 0
  · rw [if_pos hl]
    exact Ev.cg (Ev.now _) (fun k => by rw [if_pos (by omega)])
  · rw [if_neg hl]
    have e2 := runner_ev R Ws (c : Int) hR (fun x hx => h.small x hx hi)
    have hlen := hi.wf.len t ht
    have hlx : (m.ls t).getLast? = some (rd (m.ls t) (((m.ls t).length : Int) - 1)) := by
      rw [List.getLast?_eq_getElem?, List.getElem?_eq_getElem (by omega)]
      rw [show ((m.ls t).length : Int) - 1 = (((m.ls t).length - 1 : Nat) : Int) by omega, rdi_at _ _ (by omega)]
    obtain ⟨z, k1, k2, k3⟩ := hi.stk t ht _ (List.mem_of_getLast? hlx)
    rcases hi.wf.run c hc with hr | ⟨r, hr1, hr2, hm⟩
    · rw [h.rlook0 hi hr] at e2
      rw [circ_zero hr]
      exact Ev.cg (Ev.bind (f := fun n bt210 => (if bt210.2 = true then (oncewebref14_Web_circle.l0 n (m.ls t) (([(c : Int)] : List Int)) R Ws) else (some ([] : List Int)))) e2 (Ev.cg (Ev.now _) (fun k => by rw [if_neg (by simp)]; rfl))) (fun k => by rw [if_neg (by omega)])
    · rw [h.rlook1 hi hc hr2] at e2
      refine Ev.cg (Ev.bind (f := fun n bt210 => (if bt210.2 = true then (oncewebref14_Web_circle.l0 n (m.ls t) (([(c : Int)] : List Int)) R Ws) else (some ([] : List Int)))) e2 (Ev.congr (f := fun n => oncewebref14_Web_circle.l0 n (m.ls t) (([(c : Int)] : List Int)) R Ws) (fun k => by rw [if_pos rfl]) ?_)) (fun k => by rw [if_neg (by omega)])
      cases hcc : circ m t 129 c with
      | none => exact h.circle_none hi (by omega) hlen ⟨z, k2, k3⟩ 256 [(c : Int)] c r (pos (c : Int) (m.ls r)) 129 c rfl (by simp) rfl hc hr1 hr2 (pos_at hm) hc hr2 (hi.ends t c hc) hcc
      | some L =>
        obtain ⟨j1, j2, j3, _⟩ := hi.circ_says t 129 c L hc hcc
        have ht1 : L.take 1 = [(c : Int)] := by
          cases L with
          | nil => exact absurd j2 (by simp)
          | cons x l => simp at j2; subst j2; rfl
        have := h.circle_some hi j1 (by omega) hlen (j3.trans hlx) (by omega) (L.length - 1) 0 (by
          have : L ≠ [] := fun e => by rw [e] at j2; exact absurd j2 (by simp)
          have := List.length_pos_iff.2 this
          omega)
        rw [ht1] at this
        exact this
end
end Go.Proofs.Ytohkobfamofkgaa.PDependPlays
namespace Go.Proofs.Ytohkobfamofkgaa.PDependPlays
open Go.RowKit Go.Proofs.Ytohkobfamofkgaa Go.Proofs.Ytohkobfamofkgaa.Wb Go.Proofs.YtohkobfamofkgaaW.PrintWords Go.Proofs.YtohkobfamofkgaaW.PrintLast Go.Proofs.YtohkobfamofkgaaW.PrintMore

def okT (t : Int) : Prop := 0 ≤ t ∧ t < 128
def okC (c : Int) : Prop := 0 ≤ c ∧ c < 256
instance (t : Int) : Decidable (okT t) := by unfold okT; infer_instance
instance (t : Int) : Decidable (okC t) := by unfold okC; infer_instance
def beginOut (m : Web) (t c : Int) : Web × Int :=
  if okT t ∧ okC c then (if 0 < m.wai t.toNat then (m, 7) else if 0 < m.run c.toNat then (m, 6) else if 48 ≤ ((m.ls t.toNat).length : Int) then (m, 141) else (Wb.begun m t.toNat c.toNat, 0)) else (m, 1)
def endOut (m : Web) (t : Int) : Web × Int × List Int × Int :=
  if okT t then (if 0 < m.wai t.toNat then (m, 0, [], 7) else match (m.ls t.toNat).getLast? with
    | none => (m, 0, [], 4)
    | some x => (Wb.ended m t.toNat x.toNat (m.ls t.toNat).dropLast, x, m.ls (128 + x.toNat), 0)) else (m, 0, [], 1)
def askOut (m : Web) (t c : Int) : List Int × Int :=
  if okT t ∧ okC c then (if 0 < m.wai t.toNat then ([], 7) else (circle m t.toNat 129 c.toNat, 0)) else ([], 1)
def waitOut (m : Web) (t c : Int) : Web × List Int × Int :=
  if okT t ∧ okC c then (if 0 < m.wai t.toNat then (m, [], 7) else if m.run c.toNat = 0 then (m, [], 4) else if circle m t.toNat 129 c.toNat = [] then (Wb.waited m t.toNat c.toNat, [], 0) else (m, circle m t.toNat 129 c.toNat, 140)) else (m, [], 1)
def wakeOut (m : Web) (t : Int) : Web × Int :=
  if okT t then (if m.wai t.toNat = 0 then (m, 4) else (Wb.woken m t.toNat (m.wai t.toNat - 1).toNat, 0)) else (m, 1)

theorem wrong_is (t c : Int) : oncewebref14_wrong.f t c = some (if okT t ∧ okC c then 0 else 1) := by
  unfold oncewebref14_wrong.f okT okC
  by_cases h1 : t < 0
  · rw [if_pos h1, if_neg (by omega)]
  · rw [if_neg h1]
    by_cases h2 : t ≥ 128
    · rw [if_pos h2, if_neg (by omega)]
    · rw [if_neg h2]
      by_cases h3 : c < 0
      · rw [if_pos h3, if_neg (by omega)]
      · rw [if_neg h3]
        by_cases h4 : c ≥ 256
        · rw [if_pos h4, if_neg (by omega)]
        · rw [if_neg h4, if_pos (by omega)]
theorem Ev.some_ {α : Type} (r : α) {g : Nat → Option α} (h : ∀ k, g k = some r) : Ev g r := Ev.cg (Ev.now r) h
section
variable {m : Web} {R : List S55} {Ws : List S57} (h : Rel m R Ws) (hi : Iw m)
include h hi
omit hi in
theorem Rel.R1 : R.length ≤ 1000 := by have := h.few55; omega
omit hi in
theorem Rel.W1 : Ws.length ≤ 1000 := by have := h.few57; omega
omit h hi in
theorem Rel.free_bad {t c : Int} (hx : ¬ (okT t ∧ okC c)) : Ev (fun k => oncewebref14_Web_free.f k R Ws t c) 1 :=
  Ev.some_ _ (fun k => by unfold oncewebref14_Web_free.f; rw [wrong_is, if_neg hx]; rfl)
theorem Rel.free_ok {t : Nat} {c : Int} (ht : t < 128) (hc : okC c) : Ev (fun k => oncewebref14_Web_free.f k R Ws t c) (if 0 < m.wai t then 7 else 0) := by
  have e := waiting_ev R Ws (t : Int) (h.W1)
  have hx : okT (t : Int) ∧ okC c := ⟨by unfold okT; omega, hc⟩
  refine Ev.cg (f := fun n => (oncewebref14_Web_Waiting.f n R Ws (t : Int)).bind fun bt117 => (if bt117.2 = true then (some (7 : Int)) else (some (0 : Int)))) ?_ (fun k => by unfold oncewebref14_Web_free.f; rw [wrong_is, if_pos hx]; rfl)
  rcases hi.wf.wai t ht with hw | ⟨d, _, hw⟩
  · rw [h.wlook0 hw] at e
    rw [if_neg (by omega)]
    exact Ev.bind (f := fun n bt117 => (if bt117.2 = true then (some (7 : Int)) else (some (0 : Int)))) e (Ev.some_ _ (fun k => by rw [if_neg (by simp)]))
  · rw [h.wlook1 ht hw] at e
    rw [if_pos (by omega)]
    exact Ev.bind (f := fun n bt117 => (if bt117.2 = true then (some (7 : Int)) else (some (0 : Int)))) e (Ev.some_ _ (fun k => by rw [if_pos rfl]))
omit h hi in
theorem nat_of {t : Int} (h : okT t) : ∃ n : Nat, n < 128 ∧ t = n ∧ t.toNat = n := by
  unfold okT at h; exact ⟨t.toNat, by omega, by omega, rfl⟩
omit h hi in
theorem cell_of {t : Int} (h : okC t) : ∃ n : Nat, n < 256 ∧ t = n ∧ t.toNat = n := by
  unfold okC at h; exact ⟨t.toNat, by omega, by omega, rfl⟩
omit h in
theorem Rel.run_nn {c : Nat} (hc : c < 256) : m.run c = 0 ∨ ∃ r : Nat, r < 128 ∧ m.run c = (r : Int) + 1 := by
  rcases hi.wf.run c hc with k | ⟨r, h1, h2, _⟩
  · exact Or.inl k
  · exact Or.inr ⟨r, h1, h2⟩
theorem Rel.begin_ev (t c : Int) : Iw (beginOut m t c).1 ∧ ∃ R' Ws', Ev (fun k => oncewebref14_Web_Begin.f k R Ws t c) (R', Ws', (beginOut m t c).2) ∧ Rel (beginOut m t c).1 R' Ws' := by
  by_cases hx : okT t ∧ okC c
  · obtain ⟨tn, ht, rfl, e1⟩ := nat_of hx.1
    obtain ⟨cn, hc, rfl, e2⟩ := cell_of hx.2
    obtain ⟨K1, q1⟩ := h.free_ok hi ht hx.2
    unfold beginOut
    rw [if_pos hx, e1, e2]
    by_cases a1 : 0 < m.wai tn
    · rw [if_pos a1] at q1 ⊢
      refine ⟨hi, R, Ws, ⟨K1, fun k hk => ?_⟩, h⟩
      show oncewebref14_Web_Begin.f k R Ws _ _ = _
      unfold oncewebref14_Web_Begin.f
      rw [show oncewebref14_Web_free.f k R Ws _ _ = _ from q1 k hk]
      rfl
    · rw [if_neg a1] at q1 ⊢
      have er := runner_ev R Ws (cn : Int) (h.R1) (fun x hx => h.small x hx hi)
      rcases Rel.run_nn hi hc with hr | ⟨r, hr1, hr⟩
      · rw [h.rlook0 hi hr] at er
        have es := stack_ev R Ws (tn : Int) (h.R1)
        rw [h.look ht] at es
        rw [if_neg (by omega)]
        have hlen := hi.wf.len tn ht
        obtain ⟨K2, q2⟩ := er
        obtain ⟨K3, q3⟩ := es
        by_cases a3 : 48 ≤ ((m.ls tn).length : Int)
        · rw [if_pos a3]
          refine ⟨hi, R, Ws, ⟨K1 + K2 + K3, fun k hk => ?_⟩, h⟩
          show oncewebref14_Web_Begin.f k R Ws _ _ = _
          unfold oncewebref14_Web_Begin.f
          rw [show oncewebref14_Web_free.f k R Ws _ _ = _ from q1 k (by omega)]
          simp only [Option.bind_some]
          rw [if_pos trivial, show oncewebref14_Web_Runner.f k R Ws _ = _ from q2 k (by omega)]
          simp only [Option.bind_some]
          rw [if_neg (by decide), show oncewebref14_Web_Stack.f k R Ws _ = _ from q3 k (by omega)]
          simp only [Option.bind_some]
          rw [if_pos a3]
        · rw [if_neg a3]
          obtain ⟨K4, q4⟩ := with_ev R Ws (tn : Int) (m.ls tn ++ [(cn : Int)]) (h.R1)
          refine ⟨hi.begun ht hc (by omega) hr, withs tn (m.ls tn ++ [(cn : Int)]) R, Ws, ⟨K1 + K2 + K3 + K4, fun k hk => ?_⟩, h.begun_ ht hc⟩
          show oncewebref14_Web_Begin.f k R Ws _ _ = _
          unfold oncewebref14_Web_Begin.f
          rw [show oncewebref14_Web_free.f k R Ws _ _ = _ from q1 k (by omega)]
          simp only [Option.bind_some]
          rw [if_pos trivial, show oncewebref14_Web_Runner.f k R Ws _ = _ from q2 k (by omega)]
          simp only [Option.bind_some]
          rw [if_neg (by decide), show oncewebref14_Web_Stack.f k R Ws _ = _ from q3 k (by omega)]
          simp only [Option.bind_some, List.nil_append, List.length_nil, List.length_singleton]
          rw [if_neg (by omega), if_pos (by omega), if_pos (by omega), show oncewebref14_Web_with.f k R Ws _ _ = _ from q4 k (by omega)]
          rfl
      · rw [h.rlook1 hi hc hr] at er
        obtain ⟨K2, q2⟩ := er
        rw [if_pos (by omega)]
        refine ⟨hi, R, Ws, ⟨K1 + K2, fun k hk => ?_⟩, h⟩
        show oncewebref14_Web_Begin.f k R Ws _ _ = _
        unfold oncewebref14_Web_Begin.f
        rw [show oncewebref14_Web_free.f k R Ws _ _ = _ from q1 k (by omega)]
        simp only [Option.bind_some]
        rw [if_pos trivial, show oncewebref14_Web_Runner.f k R Ws _ = _ from q2 k (by omega)]
        rfl
  · obtain ⟨K1, q1⟩ := Rel.free_bad (R := R) (Ws := Ws) hx
    unfold beginOut
    rw [if_neg hx]
    refine ⟨hi, R, Ws, ⟨K1, fun k hk => ?_⟩, h⟩
    show oncewebref14_Web_Begin.f k R Ws _ _ = _
    unfold oncewebref14_Web_Begin.f
    rw [show oncewebref14_Web_free.f k R Ws _ _ = _ from q1 k hk]
    rfl
theorem Rel.ask_ev (t c : Int) : Ev (fun k => oncewebref14_Web_Ask.f k R Ws t c) (askOut m t c) := by
  by_cases hx : okT t ∧ okC c
  · obtain ⟨tn, ht, rfl, e1⟩ := nat_of hx.1
    obtain ⟨cn, hc, rfl, e2⟩ := cell_of hx.2
    obtain ⟨K1, q1⟩ := h.free_ok hi ht hx.2
    unfold askOut
    rw [if_pos hx, e1, e2]
    by_cases a1 : 0 < m.wai tn
    · rw [if_pos a1] at q1 ⊢
      refine ⟨K1, fun k hk => ?_⟩
      show oncewebref14_Web_Ask.f k R Ws _ _ = _
      unfold oncewebref14_Web_Ask.f
      rw [show oncewebref14_Web_free.f k R Ws _ _ = _ from q1 k hk]
      rfl
    · rw [if_neg a1] at q1 ⊢
      obtain ⟨K2, q2⟩ := h.circle_ev hi ht hc
      refine ⟨K1 + K2, fun k hk => ?_⟩
      show oncewebref14_Web_Ask.f k R Ws _ _ = _
      unfold oncewebref14_Web_Ask.f
      rw [show oncewebref14_Web_free.f k R Ws _ _ = _ from q1 k (by omega)]
      simp only [Option.bind_some]
      rw [if_pos trivial, show oncewebref14_Web_circle.f k R Ws _ _ = _ from q2 k (by omega)]
      rfl
  · obtain ⟨K1, q1⟩ := Rel.free_bad (R := R) (Ws := Ws) hx
    unfold askOut
    rw [if_neg hx]
    refine ⟨K1, fun k hk => ?_⟩
    show oncewebref14_Web_Ask.f k R Ws _ _ = _
    unfold oncewebref14_Web_Ask.f
    rw [show oncewebref14_Web_free.f k R Ws _ _ = _ from q1 k hk]
    rfl
theorem Rel.wait_ev (t c : Int) : Iw (waitOut m t c).1 ∧ ∃ R' Ws', Ev (fun k => oncewebref14_Web_Wait.f k R Ws t c) (R', Ws', (waitOut m t c).2.1, (waitOut m t c).2.2) ∧ Rel (waitOut m t c).1 R' Ws' := by
  by_cases hx : okT t ∧ okC c
  · obtain ⟨tn, ht, rfl, e1⟩ := nat_of hx.1
    obtain ⟨cn, hc, rfl, e2⟩ := cell_of hx.2
    obtain ⟨K1, q1⟩ := h.free_ok hi ht hx.2
    unfold waitOut
    rw [if_pos hx, e1, e2]
    by_cases a1 : 0 < m.wai tn
    · rw [if_pos a1] at q1 ⊢
      refine ⟨hi, R, Ws, ⟨K1, fun k hk => ?_⟩, h⟩
      show oncewebref14_Web_Wait.f k R Ws _ _ = _
      unfold oncewebref14_Web_Wait.f
      rw [show oncewebref14_Web_free.f k R Ws _ _ = _ from q1 k hk]
      rfl
    · rw [if_neg a1] at q1 ⊢
      have er := runner_ev R Ws (cn : Int) (h.R1) (fun x hx => h.small x hx hi)
      rcases Rel.run_nn hi hc with hr | ⟨r, hr1, hr⟩
      · rw [h.rlook0 hi hr] at er
        obtain ⟨K2, q2⟩ := er
        rw [if_pos hr]
        refine ⟨hi, R, Ws, ⟨K1 + K2, fun k hk => ?_⟩, h⟩
        show oncewebref14_Web_Wait.f k R Ws _ _ = _
        unfold oncewebref14_Web_Wait.f
        rw [show oncewebref14_Web_free.f k R Ws _ _ = _ from q1 k (by omega)]
        simp only [Option.bind_some]
        rw [if_pos trivial, show oncewebref14_Web_Runner.f k R Ws _ = _ from q2 k (by omega)]
        rfl
      · rw [h.rlook1 hi hc hr] at er
        obtain ⟨K2, q2⟩ := er
        rw [if_neg (by omega)]
        obtain ⟨K3, q3⟩ := h.circle_ev hi ht hc
        have hw0 : m.wai tn = 0 := by rcases hi.wf.wai tn ht with k | ⟨d, _, k⟩ <;> omega
        by_cases a3 : circle m tn 129 cn = []
        · rw [if_pos a3]
          have hW := h.few57
          refine ⟨hi.waited ht hc hw0 (by omega) (hi.ends tn cn hc) a3, R, Ws ++ [⟨(tn : Int), (cn : Int)⟩], ⟨K1 + K2 + K3, fun k hk => ?_⟩, h.waited_ ht hc hw0⟩
          show oncewebref14_Web_Wait.f k R Ws _ _ = _
          unfold oncewebref14_Web_Wait.f
          rw [show oncewebref14_Web_free.f k R Ws _ _ = _ from q1 k (by omega)]
          simp only [Option.bind_some]
          rw [if_pos trivial, show oncewebref14_Web_Runner.f k R Ws _ = _ from q2 k (by omega)]
          simp only [Option.bind_some]
          rw [if_pos trivial, show oncewebref14_Web_circle.f k R Ws _ _ = _ from q3 k (by omega), a3]
          simp only [Option.bind_some, List.nil_append, List.length_nil]
          rw [if_neg (by decide), if_pos (by omega), if_pos (by omega)]
        · rw [if_neg a3]
          have hp := List.length_pos_iff.2 a3
          refine ⟨hi, R, Ws, ⟨K1 + K2 + K3, fun k hk => ?_⟩, h⟩
          show oncewebref14_Web_Wait.f k R Ws _ _ = _
          unfold oncewebref14_Web_Wait.f
          rw [show oncewebref14_Web_free.f k R Ws _ _ = _ from q1 k (by omega)]
          simp only [Option.bind_some]
          rw [if_pos trivial, show oncewebref14_Web_Runner.f k R Ws _ = _ from q2 k (by omega)]
          simp only [Option.bind_some]
          rw [if_pos trivial, show oncewebref14_Web_circle.f k R Ws _ _ = _ from q3 k (by omega)]
          simp only [Option.bind_some]
          rw [if_pos (by omega)]
  · obtain ⟨K1, q1⟩ := Rel.free_bad (R := R) (Ws := Ws) hx
    unfold waitOut
    rw [if_neg hx]
    refine ⟨hi, R, Ws, ⟨K1, fun k hk => ?_⟩, h⟩
    show oncewebref14_Web_Wait.f k R Ws _ _ = _
    unfold oncewebref14_Web_Wait.f
    rw [show oncewebref14_Web_free.f k R Ws _ _ = _ from q1 k hk]
    rfl
/-- Wake: the document's answer where the task is one. -/
theorem Rel.wake_in {t : Nat} (ht : t < 128) : Iw (wakeOut m t).1 ∧ ∃ Ws', Rel (wakeOut m t).1 R Ws' ∧ Ev (fun k => oncewebref14_Web_Waiting.f k R Ws t) (wlook t Ws) ∧ ((m.wai t = 0 ∧ (wlook t Ws).2 = false ∧ wakeOut m t = (m, 4) ∧ Ws' = Ws) ∨ (m.wai t ≠ 0 ∧ (wlook t Ws).2 = true ∧ (wakeOut m t).2 = 0 ∧ Ev (fun k => oncewebref14_Web_woken.f k R Ws t) (R, Ws'))) := by
  have hx : okT (t : Int) := by unfold okT; omega
  unfold wakeOut
  rw [if_pos hx, Int.toNat_natCast]
  rcases hi.wf.wai t ht with hw | ⟨d, hd, hw⟩
  · rw [if_pos hw]
    exact ⟨hi, Ws, h, waiting_ev R Ws _ (h.W1), Or.inl ⟨hw, by rw [h.wlook0 hw], rfl, rfl⟩⟩
  · rw [if_neg (by omega), show (m.wai t - 1).toNat = d by omega]
    exact ⟨hi.woken ht hd hw, drop57 t Ws, h.woken_ hi ht hd hw, waiting_ev R Ws _ (h.W1), Or.inr ⟨by omega, by rw [h.wlook1 ht hw], rfl, woken_ev R Ws _ (h.W1)⟩⟩
omit h hi in
theorem end_from (R : List S55) (x : Int) (q : List Int) (hq : q.length ≤ 1000) : ∀ d (j : Nat) (W : List S57), W.length ≤ 1000 → j + d = q.length → Ev (fun k => oncewebref14_Web_End.l0 k x q (j : Int) R W) (R, (q.drop j).foldl (fun W y => drop57 y W) W, x, q, 0) := by
  intro d
  induction d with
  | zero =>
    intro j W hW hj
    rw [List.drop_eq_nil_of_le (by omega)]
    exact Ev.to (Ev.now _) (fun k => by simp only [oncewebref14_Web_End.l0]; rw [if_neg (by omega)]; rfl)
  | succ d ih =>
    intro j W hW hj
    have hlt : j < q.length := by omega
    rw [List.drop_eq_getElem_cons hlt, List.foldl_cons]
    have e1 := woken_ev R W q[j] hW
    have hW' : (drop57 q[j] W).length ≤ 1000 := Nat.le_trans (List.length_filter_le _ _) hW
    exact Ev.to (Ev.bind (f := fun k bt190 => oncewebref14_Web_End.l0 k x q (wrap64 ((j : Int) + 1)) bt190.1 bt190.2) e1 (Ev.cg (ih (j + 1) _ hW' (by omega)) (fun k => by rw [w1 j (by omega)]))) (fun k => by simp only [oncewebref14_Web_End.l0]; rw [if_pos (by omega), if_pos (by omega), rdi_at q j hlt])
theorem Rel.end_ev (t : Int) : Iw (endOut m t).1 ∧ ∃ R' Ws', Ev (fun k => oncewebref14_Web_End.f k R Ws t) (R', Ws', (endOut m t).2.1, (endOut m t).2.2.1, (endOut m t).2.2.2) ∧ Rel (endOut m t).1 R' Ws' := by
  have hc0 : okC 0 := by unfold okC; omega
  by_cases hx : okT t
  · obtain ⟨tn, ht, rfl, e1⟩ := nat_of hx
    obtain ⟨K1, q1⟩ := h.free_ok hi ht hc0
    unfold endOut
    rw [if_pos hx, e1]
    by_cases a1 : 0 < m.wai tn
    · rw [if_pos a1] at q1 ⊢
      refine ⟨hi, R, Ws, ⟨K1, fun k hk => ?_⟩, h⟩
      show oncewebref14_Web_End.f k R Ws _ = _
      unfold oncewebref14_Web_End.f
      rw [show oncewebref14_Web_free.f k R Ws _ _ = _ from q1 k hk]
      rfl
    · rw [if_neg a1] at q1 ⊢
      have es := stack_ev R Ws (tn : Int) (h.R1)
      rw [h.look ht] at es
      obtain ⟨K2, q2⟩ := es
      have hlen := hi.wf.len tn ht
      by_cases hl : m.ls tn = []
      · rw [hl]
        refine ⟨hi, R, Ws, ⟨K1 + K2, fun k hk => ?_⟩, h⟩
        show oncewebref14_Web_End.f k R Ws _ = _
        unfold oncewebref14_Web_End.f
        rw [show oncewebref14_Web_free.f k R Ws _ _ = _ from q1 k (by omega)]
        simp only [Option.bind_some]
        rw [if_pos trivial, show oncewebref14_Web_Stack.f k R Ws _ = _ from q2 k (by omega), hl]
        rfl
      · have hs := List.dropLast_concat_getLast hl
        have hgl := List.getLast?_eq_some_getLast hl
        generalize (m.ls tn).getLast hl = x at hs hgl
        obtain ⟨c, hc, rfl, hrc⟩ := hi.stk tn ht x (List.mem_of_getLast? hgl)
        rw [hgl]
        show Iw (Wb.ended m tn ((c : Int)).toNat (m.ls tn).dropLast) ∧ _
        simp only [Int.toNat_natCast]
        have eq := waiters_ev R Ws (c : Int) (h.W1)
        rw [← h.wq c hc] at eq
        have ew := with_ev R Ws (tn : Int) (m.ls tn).dropLast (h.R1)
        have hfew := hi.few c hc
        have el := end_from (withs tn (m.ls tn).dropLast R) (c : Int) (m.ls (128 + c)) (by omega) (m.ls (128 + c)).length 0 Ws (h.W1) (by omega)
        rw [List.drop_zero, drops_filter] at el
        obtain ⟨K3, q3⟩ := eq
        obtain ⟨K4, q4⟩ := ew
        obtain ⟨K5, q5⟩ := el
        have hp := List.length_pos_iff.2 hl
        have hw : wrap64 (((m.ls tn).length : Int) - 1) = ((m.ls tn).length : Int) - 1 := by unfold wrap64; omega
        have hrd : rd (m.ls tn) (((m.ls tn).length : Int) - 1) = (c : Int) := by
          rw [List.getLast?_eq_getElem?] at hgl
          have := rd_some hgl
          rw [show (((m.ls tn).length - 1 : Nat) : Int) = ((m.ls tn).length : Int) - 1 by omega] at this
          exact this
        have htk : (m.ls tn).take (((m.ls tn).length : Int) - 1).toNat = (m.ls tn).dropLast := by
          rw [List.dropLast_eq_take, show (((m.ls tn).length : Int) - 1).toNat = (m.ls tn).length - 1 by omega]
        refine ⟨hi.ended ht hc hs.symm, withs tn (m.ls tn).dropLast R, _, ⟨K1 + K2 + K3 + K4 + K5, fun k hk => ?_⟩, h.ended_ hi ht hc⟩
        show oncewebref14_Web_End.f k R Ws _ = _
        unfold oncewebref14_Web_End.f
        rw [show oncewebref14_Web_free.f k R Ws _ _ = _ from q1 k (by omega)]
        simp only [Option.bind_some]
        rw [if_pos trivial, show oncewebref14_Web_Stack.f k R Ws _ = _ from q2 k (by omega)]
        simp only [Option.bind_some]
        rw [if_neg (by omega), hw, hrd, htk, if_pos (by omega), if_pos (by omega), show oncewebref14_Web_Waiters.f k R Ws _ = _ from q3 k (by omega)]
        simp only [Option.bind_some]
        rw [if_pos (by omega), show oncewebref14_Web_with.f k R Ws _ _ = _ from q4 k (by omega)]
        simp only [Option.bind_some]
        exact q5 k (by omega)
  · obtain ⟨K1, q1⟩ := Rel.free_bad (R := R) (Ws := Ws) (t := t) (c := 0) (fun k => hx k.1)
    unfold endOut
    rw [if_neg hx]
    refine ⟨hi, R, Ws, ⟨K1, fun k hk => ?_⟩, h⟩
    show oncewebref14_Web_End.f k R Ws _ = _
    unfold oncewebref14_Web_End.f
    rw [show oncewebref14_Web_free.f k R Ws _ _ = _ from q1 k hk]
    rfl
end
end Go.Proofs.Ytohkobfamofkgaa.PDependPlays
