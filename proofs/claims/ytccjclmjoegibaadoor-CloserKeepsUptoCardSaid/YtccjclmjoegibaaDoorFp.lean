/- Failures as rows of cracks, in plain Lean: which are right; what comes of closers. -/
import Derived.Test.YtccjclmjoegibaaDoorGu
import Derived.Test.YtccjclmjoegibaaDoorQc
namespace Go.Proofs.YtccjclmjoegibaaDoor.Ce
open Go.RowKit Go.Maps Go.Proofs.YtccjclmjoegibaaDoor Go.Proofs.YtccjclmjoegibaaDoorW.PrintWords Go.Proofs.YtccjclmjoegibaaDoorW.PrintLast Go.Proofs.YtccjclmjoegibaaDoorW.PrintMore PCloserOrders Hp
set_option linter.unusedVariables false
set_option linter.unusedSimpArgs false
/-- A crack that is right, of the kinds that come of closers. -/
def rightC (c : S49) : Prop := ((c.f0 = 1 ∨ c.f0 = 2) ∧ c.f1 = 0 ∧ c.f2.size ≤ 4096) ∨ (c.f0 = 9 ∧ c.f1 = 1 ∧ nameB c.f2 = true) ∨ (c.f0 = 10 ∧ 1 ≤ c.f1 ∧ c.f2 = ⟨#[]⟩)
/-- How many wholes there are behind the cracks. -/
def stk : Int → List S49 → Option Int
  | s, [] => some s
  | s, c :: r => if c.f1 ≤ s then stk (s - c.f1 + 1) r else none
theorem stk_app : ∀ (a b : List S49) (s : Int), stk s (a ++ b) = (stk s a).bind fun t => stk t b
  | [], b, s => rfl
  | c :: a, b, s => by
    rw [List.cons_append, stk, stk]
    split
    · exact stk_app a b _
    · rfl
structure OkF (f : List S49) : Prop where
  right : ∀ c ∈ f, rightC c
  st : stk 0 f = some 1
  len : f.length ≤ 1024
theorem rightC.n0 {c : S49} (h : rightC c) : 0 ≤ c.f1 := by
  rcases h with ⟨_, h, _⟩ | ⟨_, h, _⟩ | ⟨_, h, _⟩ <;> omega
theorem nameB_size {s : ByteArray} (h : nameB s = true) : s.size ≤ 24 := by
  unfold nameB at h
  simp only [Bool.and_eq_true, decide_eq_true_eq] at h
  exact h.1.1.2
theorem rightC.text {c : S49} (h : rightC c) : c.f2.size ≤ 4096 := by
  rcases h with ⟨_, _, h⟩ | ⟨_, _, h⟩ | ⟨_, _, h⟩
  · exact h
  · have := nameB_size h; omega
  · rw [h]; decide
/-- A failing closer: how, its text, of which cell. -/
def leafOf (k : Int) (t : ByteArray) : S49 := ⟨k, 0, t⟩
def cellOf (n : ByteArray) : S49 := ⟨9, 1, n⟩
def joinOf (n : Int) : S49 := ⟨10, n, ⟨#[]⟩⟩
theorem okLeaf {k : Int} {t : ByteArray} (hk : k = 1 ∨ k = 2) (ht : t.size ≤ 4096) : OkF [leafOf k t] :=
  ⟨fun c hc => by rw [List.mem_singleton.1 hc]; exact .inl ⟨hk, rfl, ht⟩, by simp [stk, leafOf], by simp⟩
theorem okPair {k : Int} {t n : ByteArray} (hk : k = 1 ∨ k = 2) (ht : t.size ≤ 4096) (hn : nameB n = true) : OkF [leafOf k t, cellOf n] :=
  ⟨fun c hc => by
    simp only [List.mem_cons, List.not_mem_nil, or_false] at hc
    rcases hc with rfl | rfl
    · exact .inl ⟨hk, rfl, ht⟩
    · exact .inr (.inl ⟨rfl, rfl, hn⟩), by simp [stk, leafOf, cellOf], by simp⟩
/-- What is wrong with a part where it fails. -/
def badP (x : S33) : Bool := !nameB x.f1 || !closerB x.f5.f0 x.f5.f1
/-- Does a part's closer fail? As what? -/
def failsP (x : S33) : Bool := decide (x.f5.f0 = 2 ∨ x.f5.f0 = 3)
def kindP (x : S33) : Int := if x.f5.f0 = 3 then 2 else 1
def pairP (x : S33) : List S49 := [leafOf (kindP x) x.f5.f1, cellOf x.f1]
/-- The failures of the parts named, in order. -/
def pairsL (l : List S33) : List Int → List (List S49)
  | [] => []
  | n :: r => if failsP (rd_T33 l n) = true then pairP (rd_T33 l n) :: pairsL l r else pairsL l r
def joinL (ps : List (List S49)) : List S49 := if ps = [] then [] else ps.flatten ++ [joinOf ps.length]
def failsE (l : List S33) (o : List Int) : Int := if l.length > 256 ∨ o.length > 256 then 3 else if o.any (outB l.length) = true then 1 else if o.any (fun n => badP (rd_T33 l n)) = true then 190 else 0
def failsL (l : List S33) (o : List Int) : List S49 := if failsE l o = 0 then joinL (pairsL l o) else []
theorem kindP_is (x : S33) : kindP x = 1 ∨ kindP x = 2 := by unfold kindP; split <;> simp
theorem pairP_ok {x : S33} (hb : badP x = false) (hf : failsP x = true) : OkF (pairP x) := by
  unfold badP at hb
  unfold failsP at hf
  simp only [Bool.or_eq_false_iff, Bool.not_eq_false', decide_eq_true_eq] at hb hf
  refine okPair (kindP_is x) ?_ hb.1
  have := hb.2
  unfold closerB at this
  rw [if_pos hf] at this
  simpa using this
theorem pairsL_app (l : List S33) : ∀ a b : List Int, pairsL l (a ++ b) = pairsL l a ++ pairsL l b
  | [], b => rfl
  | n :: a, b => by
    rw [List.cons_append, pairsL, pairsL, pairsL_app l a b]
    split <;> rfl
theorem pairsL_len (l : List S33) : ∀ a : List Int, (pairsL l a).length ≤ a.length
  | [] => Nat.le_refl _
  | n :: a => by
    have := pairsL_len l a
    rw [pairsL]
    split <;> simp <;> omega
/-- Each one is a failure of two cracks. -/
def Pairs (ps : List (List S49)) : Prop := ∀ p ∈ ps, OkF p ∧ p.length = 2
theorem pairsL_ok (l : List S33) : ∀ o : List Int, o.any (fun n => badP (rd_T33 l n)) = false → Pairs (pairsL l o)
  | [], _ => fun p hp => absurd hp (by simp [pairsL])
  | n :: o, h => by
    rw [List.any_cons, Bool.or_eq_false_iff] at h
    have ih := pairsL_ok l o h.2
    rw [pairsL]
    split
    · rename_i hf
      intro p hp
      rcases List.mem_cons.1 hp with rfl | hp
      · exact ⟨pairP_ok h.1 hf, rfl⟩
      · exact ih p hp
    · exact ih
theorem Pairs.flat : ∀ {ps : List (List S49)}, Pairs ps → ps.flatten.length = 2 * ps.length
  | [], _ => rfl
  | p :: ps, h => by
    have := Pairs.flat (fun q hq => h q (List.mem_cons_of_mem _ hq))
    have h2 := (h p List.mem_cons_self).2
    rw [List.flatten_cons, List.length_append, List.length_cons, this, h2]
    omega
theorem stk_up : ∀ (f : List S49) (s t : Int), 0 ≤ s → stk 0 f = some t → stk s f = some (s + t) := by
  have key : ∀ (f : List S49) (a s t : Int), 0 ≤ s → stk a f = some t → stk (s + a) f = some (s + t) := by
    intro f
    induction f with
    | nil => intro a s t hs h; rw [stk] at h ⊢; injection h with h; rw [h]
    | cons c r ih =>
      intro a s t hs h
      rw [stk] at h ⊢
      by_cases h1 : c.f1 ≤ a
      · rw [if_pos h1] at h
        rw [if_pos (by omega)]
        have := ih _ s t hs h
        rw [show s + a - c.f1 + 1 = s + (a - c.f1 + 1) by omega]
        exact this
      · rw [if_neg h1] at h; exact absurd h (by simp)
  intro f s t hs h
  have := key f 0 s t hs h
  rw [Int.add_zero] at this
  exact this
theorem Pairs.stk : ∀ {ps : List (List S49)} (h : Pairs ps) (s : Int), 0 ≤ s → Ce.stk s ps.flatten = some (s + ps.length)
  | [], _, s, _ => by simp [Ce.stk]
  | p :: ps, h, s, hs => by
    have h1 := stk_up p s 1 hs (h p List.mem_cons_self).1.st
    rw [List.flatten_cons, stk_app, h1]
    simp only [Option.bind_some]
    rw [Pairs.stk (fun q hq => h q (List.mem_cons_of_mem _ hq)) (s + 1) (by omega), List.length_cons]
    congr 1
    omega
theorem joinL_ok {ps : List (List S49)} (h : Pairs ps) (hl : ps.length ≤ 256) (hne : ps ≠ []) : OkF (joinL ps) ∧ joinL ps = ps.flatten ++ [joinOf ps.length] := by
  have hp : 0 < ps.length := by
    cases ps with
    | nil => exact absurd rfl hne
    | cons a b => simp
  have e : joinL ps = ps.flatten ++ [joinOf ps.length] := by unfold joinL; rw [if_neg hne]
  refine ⟨?_, e⟩
  rw [e]
  refine ⟨fun c hc => ?_, ?_, ?_⟩
  · rcases List.mem_append.1 hc with hc | hc
    · obtain ⟨p, hp, hcp⟩ := List.mem_flatten.1 hc
      exact (h p hp).1.right c hcp
    · rw [List.mem_singleton.1 hc]
      exact .inr (.inr ⟨rfl, by show (1 : Int) ≤ (ps.length : Int); omega, rfl⟩)
  · rw [stk_app, h.stk 0 (Int.le_refl 0)]
    simp only [Option.bind_some]
    show (if (ps.length : Int) ≤ 0 + (ps.length : Int) then some (0 + (ps.length : Int) - (ps.length : Int) + 1) else none) = some 1
    rw [if_pos (by omega)]
    congr 1
    omega
  · rw [List.length_append, h.flat]
    simp
    omega
theorem drop_t49 (f : List S49) (i : Nat) (hi : i < f.length) : f.drop i = rd_T49 f (i : Int) :: f.drop (i + 1) := by
  rw [List.drop_eq_getElem_cons hi]
  congr 1
  unfold rd_T49
  rw [Int.toNat_natCast, List.getD_eq_getElem?_getD, List.getElem?_eq_getElem hi]
  rfl
theorem mem_t49 (f : List S49) (i : Nat) (hi : i < f.length) : rd_T49 f (i : Int) ∈ f := by
  unfold rd_T49
  rw [Int.toNat_natCast, List.getD_eq_getElem?_getD, List.getElem?_eq_getElem hi]
  exact List.getElem_mem hi
theorem stk_step {c : S49} {r : List S49} {s t : Int} (h : stk s (c :: r) = some t) : c.f1 ≤ s ∧ stk (s - c.f1 + 1) r = some t := by
  rw [stk] at h
  by_cases h1 : c.f1 ≤ s
  · rw [if_pos h1] at h; exact ⟨h1, h⟩
  · rw [if_neg h1] at h; exact absurd h (by simp)
theorem take_flat (ps : List (List S49)) (i : Nat) (hi : i < ps.length) : (ps.take (i + 1)).flatten = (ps.take i).flatten ++ rd_L7 ps (i : Int) ∧ rd_L7 ps (i : Int) ∈ ps := by
  have e : rd_L7 ps (i : Int) = ps[i] := by
    unfold rd_L7
    rw [Int.toNat_natCast, List.getD_eq_getElem?_getD, List.getElem?_eq_getElem hi]; rfl
  rw [e]
  refine ⟨?_, List.getElem_mem hi⟩
  rw [List.take_add_one, List.getElem?_eq_getElem hi, List.flatten_append]
  simp
theorem Pairs.take {ps : List (List S49)} (h : Pairs ps) (i : Nat) : Pairs (ps.take i) := fun p hp => h p (List.mem_of_mem_take hp)
theorem take_rd (o : List Int) (i : Nat) (hi : i < o.length) : o.take (i + 1) = o.take i ++ [rd o (i : Int)] ∧ o.drop i = rd o (i : Int) :: o.drop (i + 1) := by
  have e : rd o (i : Int) = o[i] := by rw [rd_nat, Int.toNat_natCast, at_get o i hi]
  rw [e]
  exact ⟨by rw [List.take_add_one, List.getElem?_eq_getElem hi]; rfl, by rw [List.drop_eq_getElem_cons hi]⟩
theorem bad_app (l : List S33) (a : List Int) (n : Int) : (a ++ [n]).any (fun n => badP (rd_T33 l n)) = (a.any (fun n => badP (rd_T33 l n)) || badP (rd_T33 l n)) := by
  rw [List.any_append]; simp
theorem failsL_no {l : List S33} {o : List Int} {e : Int} (he : failsE l o = e) (hn : e ≠ 0) : failsL l o = [] := by unfold failsL; rw [he, if_neg hn]
/-- What is answered where it is asked what comes of closers. -/
def FailPost (w : World) (l : List S33) (o : List Int) (e : Ending) (w' : World) : Prop :=
  ∃ v, e = .returned (.tuple #[v, .int .i64 (failsE l o)]) ∧ Kd.R k49 49 w' w.heap.size (fun _ => True) v (failsL l o) ∧ Below w.heap.size w w'
end Go.Proofs.YtccjclmjoegibaaDoor.Ce
