/- A tree of tokens, in plain Lean: what its calls do, and what stays as it was. A tree of tokens, in plain Lean: what hangs on a cancelled one is cancelled. A tree of tokens, in plain Lean: time that goes by. A tree of tokens, in plain Lean: who hangs on a cancelled one. A tree of tokens, in plain Lean: whom time cancels. A tree of tokens, in plain Lean: the row of those that are due, and time. A tree of tokens, in plain Lean: its calls, by names, and what always holds. A tree of tokens, in plain Lean: its calls by names. A tree of tokens, in plain Lean: played. -/
import Derived.Test.YtdnkedifjaccoaaDoorFk
namespace Go.Proofs.YtdnkedifjaccoaaDoor.Ce
open Go.RowKit Go.Maps Go.Proofs.YtdnkedifjaccoaaDoor Go.Proofs.YtdnkedifjaccoaaDoorW.PrintWords Go.Proofs.YtdnkedifjaccoaaDoorW.PrintLast Go.Proofs.YtdnkedifjaccoaaDoorW.PrintMore PToken
set_option linter.unusedVariables false
set_option linter.unusedSimpArgs false
structure Tok where
  name : ByteArray
  par : List Nat
  dl : Int
  done : Bool
  why : List S56
structure Tree where
  now : Int
  toks : List Tok
  ord : List Nat
def zTok : Tok := ⟨⟨#[]⟩, [], -1, false, []⟩
namespace Tree
def tk (t : Tree) (i : Nat) : Tok := t.toks.getD i zTok
/-- The token of a name. -/
def find (t : Tree) (n : ByteArray) : Option Nat := (List.range t.toks.length).find? fun i => (t.tk i).name.toList == n.toList
/-- Of some tokens the one that was cancelled first. -/
def first (t : Tree) (l : List Nat) : Option Nat := t.ord.find? fun i => l.contains i
/-- A token is cancelled, with a failure. -/
def turn (t : Tree) (i : Nat) (why : List S56) : Tree := { t with toks := t.toks.set i { t.tk i with done := true, why := why }, ord := t.ord ++ [i] }
/-- One that hangs on a cancelled one is cancelled. -/
def take (t : Tree) (j : Nat) : Tree := if (t.tk j).done = true then t else match t.first (t.tk j).par with
  | some p => t.turn j (t.tk p).why
  | none => t
def sweep : Tree → List Nat → Tree
  | t, [] => t
  | t, j :: r => sweep (t.take j) r
def cancel (t : Tree) (i : Nat) (cause : List S56) : Tree := if (t.tk i).done = true then t else if tokE cause ≠ 0 then t else sweep (t.turn i (tokL (t.tk i).name cause)) (List.range t.toks.length)
def lateL : List S56 := [⟨1, 0, ⟨#[100, 101, 97, 100, 108, 105, 110, 101]⟩⟩]
/-- A token more. -/
def add (t : Tree) (n : ByteArray) (ps : List Nat) : Tree := { t with toks := t.toks ++ [⟨n, ps, -1, false, []⟩] }
def made (t : Tree) (n : ByteArray) (ps : List Nat) : Tree := (t.add n ps).take t.toks.length
def setDl (t : Tree) (i : Nat) (d : Int) : Tree := { t with toks := t.toks.set i { t.tk i with dl := d } }
/-- What stays as it was, whatever is called: names, parents; of the cancelled ones the failure, and their places in the order. -/
structure Ext (t u : Tree) : Prop where
  len : t.toks.length ≤ u.toks.length
  same : ∀ i, i < t.toks.length → (u.tk i).name = (t.tk i).name ∧ (u.tk i).par = (t.tk i).par
  done : ∀ i, i < t.toks.length → (t.tk i).done = true → (u.tk i).done = true ∧ (u.tk i).why = (t.tk i).why
  ord : t.ord <+: u.ord
theorem Ext.refl (t : Tree) : Ext t t := ⟨Nat.le_refl _, fun _ _ => ⟨rfl, rfl⟩, fun _ _ h => ⟨h, rfl⟩, List.prefix_refl _⟩
theorem Ext.trans {a b c : Tree} (h : Ext a b) (k : Ext b c) : Ext a c :=
  ⟨Nat.le_trans h.len k.len, fun i hi => by
    have h1 := h.same i hi
    have h2 := k.same i (Nat.lt_of_lt_of_le hi h.len)
    exact ⟨h2.1.trans h1.1, h2.2.trans h1.2⟩, fun i hi hd => by
    have h1 := h.done i hi hd
    have h2 := k.done i (Nat.lt_of_lt_of_le hi h.len) h1.1
    exact ⟨h2.1, h2.2.trans h1.2⟩, h.ord.trans k.ord⟩
theorem tk_set (t : Tree) (i j : Nat) (x : Tok) (hi : i < t.toks.length) : ({ t with toks := t.toks.set i x } : Tree).tk j = if j = i then x else t.tk j := by
  unfold tk
  by_cases e : j = i
  · subst e; simp [hi]
  · rw [if_neg e, List.getD_eq_getElem?_getD, List.getD_eq_getElem?_getD, List.getElem?_set_ne (fun h => e h.symm)]
theorem tk_turn (t : Tree) (i j : Nat) (w : List S56) (hi : i < t.toks.length) : (t.turn i w).tk j = if j = i then { t.tk i with done := true, why := w } else t.tk j := tk_set t i j _ hi
theorem turn_len (t : Tree) (i : Nat) (w : List S56) : (t.turn i w).toks.length = t.toks.length := by simp [turn]
theorem Ext.turn (t : Tree) (i : Nat) (w : List S56) (hi : i < t.toks.length) (hd : (t.tk i).done = false) : Ext t (t.turn i w) := by
  refine ⟨by rw [turn_len]; exact Nat.le_refl _, fun j hj => ?_, fun j hj h => ?_, List.prefix_append _ _⟩
  · rw [tk_turn t i j w hi]
    by_cases e : j = i
    · subst e; rw [if_pos rfl]; exact ⟨rfl, rfl⟩
    · rw [if_neg e]; exact ⟨rfl, rfl⟩
  · rw [tk_turn t i j w hi]
    by_cases e : j = i
    · subst e; rw [hd] at h; exact absurd h (by decide)
    · rw [if_neg e]; exact ⟨h, rfl⟩
theorem take_len (t : Tree) (j : Nat) : (t.take j).toks.length = t.toks.length := by
  unfold take
  split
  · rfl
  · split
    · exact turn_len _ _ _
    · rfl
theorem Ext.take (t : Tree) (j : Nat) (hj : j < t.toks.length) : Ext t (t.take j) := by
  unfold Tree.take
  by_cases h : (t.tk j).done = true
  · rw [if_pos h]; exact Ext.refl t
  · rw [if_neg h]
    cases t.first (t.tk j).par with
    | some p => exact Ext.turn t j _ hj (by simpa using h)
    | none => exact Ext.refl t
theorem sweep_len : ∀ (l : List Nat) (t : Tree), (t.sweep l).toks.length = t.toks.length
  | [], t => rfl
  | j :: r, t => by rw [sweep, sweep_len r, take_len]
theorem Ext.sweep : ∀ (l : List Nat) (t : Tree), (∀ j ∈ l, j < t.toks.length) → Ext t (t.sweep l)
  | [], t, _ => Ext.refl t
  | j :: r, t, h => by
    rw [Tree.sweep]
    exact (Ext.take t j (h j List.mem_cons_self)).trans (Ext.sweep r _ (fun k hk => by rw [take_len]; exact h k (List.mem_cons_of_mem _ hk)))
theorem cancel_len (t : Tree) (i : Nat) (c : List S56) : (t.cancel i c).toks.length = t.toks.length := by
  unfold cancel
  split
  · rfl
  · split
    · rfl
    · rw [sweep_len, turn_len]
theorem Ext.cancel (t : Tree) (i : Nat) (c : List S56) (hi : i < t.toks.length) : Ext t (t.cancel i c) := by
  unfold Tree.cancel
  by_cases h : (t.tk i).done = true
  · rw [if_pos h]; exact Ext.refl t
  · rw [if_neg h]
    by_cases h2 : tokE c ≠ 0
    · rw [if_pos h2]; exact Ext.refl t
    · rw [if_neg h2]
      exact (Ext.turn t i _ hi (by simpa using h)).trans (Ext.sweep _ _ (fun j hj => by rw [turn_len]; exact List.mem_range.1 hj))
theorem tk_add (t : Tree) (n : ByteArray) (ps : List Nat) (j : Nat) : (t.add n ps).tk j = if j = t.toks.length then ⟨n, ps, -1, false, []⟩ else t.tk j := by
  unfold tk add
  simp only
  by_cases e : j = t.toks.length
  · subst e; simp
  · rw [if_neg e, List.getD_eq_getElem?_getD, List.getD_eq_getElem?_getD]
    rcases Nat.lt_or_ge j t.toks.length with h | h
    · rw [List.getElem?_append_left h]
    · rw [List.getElem?_eq_none h, List.getElem?_eq_none (by simp; omega)]
theorem Ext.add (t : Tree) (n : ByteArray) (ps : List Nat) : Ext t (t.add n ps) := by
  refine ⟨by simp [Tree.add], fun i hi => ?_, fun i hi h => ?_, List.prefix_refl _⟩
  · rw [tk_add, if_neg (by omega)]; exact ⟨rfl, rfl⟩
  · rw [tk_add, if_neg (by omega)]; exact ⟨h, rfl⟩
theorem Ext.made (t : Tree) (n : ByteArray) (ps : List Nat) : Ext t (t.made n ps) :=
  (Ext.add t n ps).trans (Ext.take _ _ (by simp [Tree.add]))
theorem tk_setDl (t : Tree) (i j : Nat) (d : Int) (hi : i < t.toks.length) : (t.setDl i d).tk j = if j = i then { t.tk i with dl := d } else t.tk j := tk_set t i j _ hi
theorem Ext.setDl (t : Tree) (i : Nat) (d : Int) (hi : i < t.toks.length) : Ext t (t.setDl i d) := by
  refine ⟨by simp [Tree.setDl], fun j hj => ?_, fun j hj h => ?_, List.prefix_refl _⟩
  · rw [tk_setDl t i j d hi]
    by_cases e : j = i
    · subst e; rw [if_pos rfl]; exact ⟨rfl, rfl⟩
    · rw [if_neg e]; exact ⟨rfl, rfl⟩
  · rw [tk_setDl t i j d hi]
    by_cases e : j = i
    · subst e; rw [if_pos rfl]; exact ⟨h, rfl⟩
    · rw [if_neg e]; exact ⟨h, rfl⟩
theorem Ext.now (t : Tree) (n : Int) : Ext t { t with now := n } := ⟨Nat.le_refl _, fun _ _ => ⟨rfl, rfl⟩, fun _ _ h => ⟨h, rfl⟩, List.prefix_refl _⟩
/-- Some are cancelled one behind the other by their deadlines. -/
def lates : Tree → List Nat → Tree
  | t, [] => t
  | t, i :: r => lates (t.cancel i lateL) r
theorem lates_len : ∀ (l : List Nat) (t : Tree), (t.lates l).toks.length = t.toks.length
  | [], t => rfl
  | j :: r, t => by rw [lates, lates_len r, cancel_len]
theorem Ext.lates : ∀ (l : List Nat) (t : Tree), (∀ j ∈ l, j < t.toks.length) → Ext t (t.lates l)
  | [], t, _ => Ext.refl t
  | j :: r, t, h => by
    rw [Tree.lates]
    exact (Ext.cancel t j _ (h j List.mem_cons_self)).trans (Ext.lates r _ (fun k hk => by rw [cancel_len]; exact h k (List.mem_cons_of_mem _ hk)))
/-- What holds of a tree, whatever was called. -/
structure WF (t : Tree) : Prop where
  nodup : t.ord.Nodup
  ord : ∀ i, i ∈ t.ord ↔ i < t.toks.length ∧ (t.tk i).done = true
  par : ∀ i, i < t.toks.length → ∀ p ∈ (t.tk i).par, p < i
  why : ∀ i, (t.tk i).done = true → (t.tk i).why ≠ []
theorem WF.new : WF ⟨0, [], []⟩ := ⟨List.nodup_nil, fun i => by simp, fun i hi => by simp at hi, fun i h => by simp [tk, zTok] at h⟩
theorem WF.turn {t : Tree} (W : WF t) (i : Nat) (w : List S56) (hi : i < t.toks.length) (hd : (t.tk i).done = false) (hw : w ≠ []) : WF (t.turn i w) := by
  have hno : i ∉ t.ord := fun h => by have := ((W.ord i).1 h).2; rw [hd] at this; exact absurd this (by decide)
  refine ⟨?_, fun j => ?_, fun j hj p hp => ?_, fun j h => ?_⟩
  · show (t.ord ++ [i]).Nodup
    rw [List.nodup_append]
    exact ⟨W.nodup, by simp, fun a ha b hb => by rw [List.mem_singleton.1 hb]; exact fun e => hno (e ▸ ha)⟩
  · show j ∈ t.ord ++ [i] ↔ _
    rw [List.mem_append, W.ord, List.mem_singleton, turn_len, tk_turn t i j w hi]
    by_cases e : j = i
    · subst e; simp [hi]
    · simp [e]
  · rw [turn_len] at hj
    rw [tk_turn t i j w hi] at hp
    by_cases e : j = i
    · subst e; rw [if_pos rfl] at hp; exact W.par j hj p hp
    · rw [if_neg e] at hp; exact W.par j hj p hp
  · rw [tk_turn t i j w hi] at h ⊢
    by_cases e : j = i
    · subst e; rw [if_pos rfl]; exact hw
    · rw [if_neg e] at h ⊢; exact W.why j h
theorem first_some {t : Tree} {l : List Nat} {p : Nat} (h : t.first l = some p) : p ∈ t.ord ∧ p ∈ l := by
  unfold first at h
  exact ⟨List.mem_of_find?_eq_some h, by simpa using List.find?_some h⟩
theorem first_none {t : Tree} {l : List Nat} (h : t.first l = none) : ∀ p ∈ l, p ∉ t.ord := fun p hp ho => by
  unfold first at h
  rw [List.find?_eq_none] at h
  exact h p ho (by simpa using hp)
theorem WF.take {t : Tree} (W : WF t) (j : Nat) (hj : j < t.toks.length) : WF (t.take j) := by
  unfold Tree.take
  by_cases h : (t.tk j).done = true
  · rw [if_pos h]; exact W
  · rw [if_neg h]
    cases hf : t.first (t.tk j).par with
    | some p => exact W.turn j _ hj (by simpa using h) (W.why p ((W.ord p).1 (first_some hf).1).2)
    | none => exact W
theorem WF.sweep : ∀ (l : List Nat) (t : Tree), WF t → (∀ j ∈ l, j < t.toks.length) → WF (t.sweep l)
  | [], t, W, _ => W
  | j :: r, t, W, h => WF.sweep r _ (W.take j (h j List.mem_cons_self)) (fun k hk => by rw [take_len]; exact h k (List.mem_cons_of_mem _ hk))
theorem tokL_ne {n : ByteArray} {c : List S56} (h : tokE c = 0) : tokL n c ≠ [] := by
  unfold tokE at h
  unfold tokL
  by_cases h0 : c.length = 0
  · rw [if_pos h0]; simp
  · rw [if_neg h0] at h ⊢
    rw [if_neg (by simpa using h)]
    unfold bndL
    split <;> simp
theorem WF.cancel {t : Tree} (W : WF t) (i : Nat) (c : List S56) (hi : i < t.toks.length) : WF (t.cancel i c) := by
  unfold Tree.cancel
  by_cases h : (t.tk i).done = true
  · rw [if_pos h]; exact W
  · rw [if_neg h]
    by_cases h2 : tokE c ≠ 0
    · rw [if_pos h2]; exact W
    · rw [if_neg h2]
      exact WF.sweep _ _ (W.turn i _ hi (by simpa using h) (tokL_ne (Classical.not_not.1 h2))) (fun j hj => by rw [turn_len]; exact List.mem_range.1 hj)
end Tree
end Go.Proofs.YtdnkedifjaccoaaDoor.Ce
namespace Go.Proofs.YtdnkedifjaccoaaDoor.Ce
open Go.RowKit Go.Maps Go.Proofs.YtdnkedifjaccoaaDoor Go.Proofs.YtdnkedifjaccoaaDoorW.PrintWords Go.Proofs.YtdnkedifjaccoaaDoorW.PrintLast Go.Proofs.YtdnkedifjaccoaaDoorW.PrintMore PToken
set_option linter.unusedVariables false
set_option linter.unusedSimpArgs false
namespace Tree
/-- Of the first of them: one with a cancelled parent is cancelled. -/
def Cl (t : Tree) (j : Nat) : Prop := ∀ k, k < j → ∀ p ∈ (t.tk k).par, (t.tk p).done = true → (t.tk k).done = true
theorem take_other (t : Tree) (j k : Nat) (hj : j < t.toks.length) (h : k ≠ j) : (t.take j).tk k = t.tk k := by
  unfold Tree.take
  split
  · rfl
  · split
    · rw [tk_turn t j k _ hj, if_neg h]
    · rfl
theorem Cl.take {t : Tree} (W : WF t) (j : Nat) (hj : j < t.toks.length) (h : Cl t j) : Cl (t.take j) (j + 1) := by
  intro k hk p hp hd
  have hpar : ((t.take j).tk k).par = (t.tk k).par := ((Ext.take t j hj).same k (by omega)).2
  rw [hpar] at hp
  have hpk : p < k := W.par k (by omega) p hp
  rw [take_other t j p hj (by omega)] at hd
  by_cases e : k = j
  · subst e
    unfold Tree.take
    by_cases hdone : (t.tk k).done = true
    · rw [if_pos hdone]; exact hdone
    · rw [if_neg hdone]
      cases hf : t.first (t.tk k).par with
      | some q => simp only []; rw [tk_turn t k k _ hj, if_pos rfl]
      | none => exact absurd ((W.ord p).2 ⟨by omega, hd⟩) (first_none hf p hp)
  · rw [take_other t j k hj e]
    exact h k (by omega) p hp hd
theorem Cl.sweep : ∀ (m j : Nat) (t : Tree), WF t → j + m ≤ t.toks.length → Cl t j → Cl (t.sweep (List.range' j m)) (j + m)
  | 0, j, t, _, _, h => h
  | m + 1, j, t, W, hl, h => by
    rw [List.range'_succ, Tree.sweep]
    have := Cl.sweep m (j + 1) (t.take j) (W.take j (by omega)) (by rw [take_len]; omega) (Cl.take W j (by omega) h)
    rw [show j + (m + 1) = j + 1 + m from by omega]
    exact this
theorem Cl.cancel {t : Tree} (W : WF t) (i : Nat) (c : List S56) (hi : i < t.toks.length) (h : Cl t t.toks.length) : Cl (t.cancel i c) t.toks.length := by
  unfold Tree.cancel
  by_cases hd : (t.tk i).done = true
  · rw [if_pos hd]; exact h
  · rw [if_neg hd]
    by_cases h2 : tokE c ≠ 0
    · rw [if_pos h2]; exact h
    · rw [if_neg h2, List.range_eq_range']
      have := Cl.sweep t.toks.length 0 (t.turn i (tokL (t.tk i).name c)) (W.turn i _ hi (by simpa using hd) (tokL_ne (Classical.not_not.1 h2))) (by rw [turn_len]; omega) (fun k hk => by omega)
      rwa [Nat.zero_add] at this
theorem Cl.lates : ∀ (l : List Nat) (t : Tree), WF t → (∀ j ∈ l, j < t.toks.length) → Cl t t.toks.length → WF (t.lates l) ∧ Cl (t.lates l) t.toks.length
  | [], t, W, _, h => ⟨W, h⟩
  | j :: r, t, W, hl, h => by
    rw [Tree.lates]
    have := Cl.lates r (t.cancel j lateL) (W.cancel j lateL (hl j List.mem_cons_self)) (fun k hk => by rw [cancel_len]; exact hl k (List.mem_cons_of_mem _ hk)) (by rw [cancel_len]; exact Cl.cancel W j lateL (hl j List.mem_cons_self) h)
    rwa [cancel_len] at this
theorem WF.add {t : Tree} (W : WF t) (n : ByteArray) (ps : List Nat) (hp : ∀ p ∈ ps, p < t.toks.length) : WF (t.add n ps) := by
  have hlen : (t.add n ps).toks.length = t.toks.length + 1 := by simp [Tree.add]
  refine ⟨W.nodup, fun i => ?_, fun i hi p h => ?_, fun i h => ?_⟩
  · show i ∈ t.ord ↔ _
    rw [W.ord, hlen, tk_add]
    by_cases e : i = t.toks.length
    · subst e; simp
    · rw [if_neg e]
      exact ⟨fun h => ⟨by omega, h.2⟩, fun h => ⟨by omega, h.2⟩⟩
  · rw [hlen] at hi
    rw [tk_add] at h
    by_cases e : i = t.toks.length
    · subst e; rw [if_pos rfl] at h; exact hp p h
    · rw [if_neg e] at h; exact W.par i (by omega) p h
  · rw [tk_add] at h ⊢
    by_cases e : i = t.toks.length
    · subst e; rw [if_pos rfl] at h; exact absurd h Bool.false_ne_true
    · rw [if_neg e] at h ⊢; exact W.why i h
theorem WF.made {t : Tree} (W : WF t) (n : ByteArray) (ps : List Nat) (hp : ∀ p ∈ ps, p < t.toks.length) : WF (t.made n ps) :=
  (W.add n ps hp).take _ (by simp [Tree.add])
theorem made_len (t : Tree) (n : ByteArray) (ps : List Nat) : (t.made n ps).toks.length = t.toks.length + 1 := by
  unfold Tree.made
  rw [take_len]; simp [Tree.add]
theorem Cl.made {t : Tree} (W : WF t) (n : ByteArray) (ps : List Nat) (hp : ∀ p ∈ ps, p < t.toks.length) (h : Cl t t.toks.length) : Cl (t.made n ps) (t.toks.length + 1) := by
  refine Cl.take (W.add n ps hp) _ (by simp [Tree.add]) (fun k hk p hpk hd => ?_)
  rw [tk_add, if_neg (by omega)] at hpk ⊢
  have hlt : p < k := W.par k hk p hpk
  rw [tk_add, if_neg (by omega)] at hd
  exact h k hk p hpk hd
theorem WF.setDl {t : Tree} (W : WF t) (i : Nat) (d : Int) (hi : i < t.toks.length) : WF (t.setDl i d) := by
  have hlen : (t.setDl i d).toks.length = t.toks.length := by simp [Tree.setDl]
  have hs : ∀ j, ((t.setDl i d).tk j).done = (t.tk j).done ∧ ((t.setDl i d).tk j).par = (t.tk j).par ∧ ((t.setDl i d).tk j).why = (t.tk j).why := fun j => by
    rw [tk_setDl t i j d hi]
    by_cases e : j = i
    · subst e; rw [if_pos rfl]; exact ⟨rfl, rfl, rfl⟩
    · rw [if_neg e]; exact ⟨rfl, rfl, rfl⟩
  refine ⟨W.nodup, fun j => ?_, fun j hj p h => ?_, fun j h => ?_⟩
  · rw [hlen, (hs j).1]; exact W.ord j
  · rw [hlen] at hj; rw [(hs j).2.1] at h; exact W.par j hj p h
  · rw [(hs j).1] at h; rw [(hs j).2.2]; exact W.why j h
theorem Cl.setDl {t : Tree} (i : Nat) (d : Int) (n : Nat) (hi : i < t.toks.length) (h : Cl t n) : Cl (t.setDl i d) n := by
  have hs : ∀ j, ((t.setDl i d).tk j).done = (t.tk j).done ∧ ((t.setDl i d).tk j).par = (t.tk j).par := fun j => by
    rw [tk_setDl t i j d hi]
    by_cases e : j = i
    · subst e; rw [if_pos rfl]; exact ⟨rfl, rfl⟩
    · rw [if_neg e]; exact ⟨rfl, rfl⟩
  intro k hk p hp hd
  rw [(hs k).2] at hp
  rw [(hs p).1] at hd
  rw [(hs k).1]
  exact h k hk p hp hd
end Tree
end Go.Proofs.YtdnkedifjaccoaaDoor.Ce
namespace Go.Proofs.YtdnkedifjaccoaaDoor.Ce
open Go.RowKit Go.Maps Go.Proofs.YtdnkedifjaccoaaDoor Go.Proofs.YtdnkedifjaccoaaDoorW.PrintWords Go.Proofs.YtdnkedifjaccoaaDoorW.PrintLast Go.Proofs.YtdnkedifjaccoaaDoorW.PrintMore PToken
set_option linter.unusedVariables false
set_option linter.unusedSimpArgs false
/-- Rising by a key. -/
def Rise {α : Type} (f : α → Int) (l : List α) : Prop := l.Pairwise fun a b => f a ≤ f b
/-- Of each key the same ones, in the same order. -/
def SameKeys {α : Type} (f : α → Int) (l m : List α) : Prop := ∀ d, l.filter (fun x => f x == d) = m.filter (fun x => f x == d)
theorem SameKeys.symm {α : Type} {f : α → Int} {l m : List α} (h : SameKeys f l m) : SameKeys f m l := fun d => (h d).symm
theorem SameKeys.mem {α : Type} {f : α → Int} {l m : List α} (h : SameKeys f l m) {x : α} (hx : x ∈ l) : x ∈ m := by
  have : x ∈ m.filter (fun y => f y == f x) := by rw [← h (f x)]; exact List.mem_filter.2 ⟨hx, by simp⟩
  exact (List.mem_filter.1 this).1
theorem rise_unique {α : Type} {f : α → Int} : ∀ {l m : List α}, Rise f l → Rise f m → SameKeys f l m → l = m
  | [], [], _, _, _ => rfl
  | [], y :: m, _, _, h => absurd (h.symm.mem (x := y) List.mem_cons_self) List.not_mem_nil
  | x :: l, [], _, _, h => absurd (h.mem (x := x) List.mem_cons_self) List.not_mem_nil
  | x :: l, y :: m, hl, hm, h => by
    have hl' := List.pairwise_cons.1 hl
    have hm' := List.pairwise_cons.1 hm
    have h1 : f y ≤ f x := by
      rcases List.mem_cons.1 (h.mem (x := x) List.mem_cons_self) with e | e
      · rw [e]; exact Int.le_refl _
      · exact hm'.1 x e
    have h2 : f x ≤ f y := by
      rcases List.mem_cons.1 (h.symm.mem (x := y) List.mem_cons_self) with e | e
      · rw [e]; exact Int.le_refl _
      · exact hl'.1 y e
    have he : f x = f y := Int.le_antisymm h2 h1
    have hxy : x = y ∧ l.filter (fun z => f z == f x) = m.filter (fun z => f z == f x) := by
      have := h (f x)
      rw [List.filter_cons_of_pos (by simp), List.filter_cons_of_pos (by simp [he])] at this
      exact List.cons.inj this
    obtain ⟨e, ht⟩ := hxy
    subst e
    rw [rise_unique hl'.2 hm'.2 (fun d => by
      by_cases hd : f x = d
      · subst hd; exact ht
      · have := h d
        rwa [List.filter_cons_of_neg (by simpa using hd), List.filter_cons_of_neg (by simpa using hd)] at this)]
/-- What is told rising falls in two at a key. -/
theorem rise_split {α : Type} {f : α → Int} (n : Int) : ∀ {l : List α}, Rise f l → l = l.filter (fun x => decide (f x ≤ n)) ++ l.filter (fun x => decide (n < f x))
  | [], _ => rfl
  | x :: l, h => by
    have h' := List.pairwise_cons.1 h
    by_cases hx : f x ≤ n
    · rw [List.filter_cons_of_pos (by simpa using hx), List.filter_cons_of_neg (by simpa using hx), List.cons_append, ← rise_split n h'.2]
    · rw [List.filter_cons_of_neg (by simpa using hx), List.filter_cons_of_pos (by simp; omega)]
      have h1 : l.filter (fun x => decide (f x ≤ n)) = [] := List.filter_eq_nil_iff.2 (fun y hy => by have := h'.1 y hy; simp; omega)
      have h2 : l.filter (fun x => decide (n < f x)) = l := List.filter_eq_self.2 (fun y hy => by have := h'.1 y hy; simp; omega)
      rw [h1, h2, List.nil_append]
namespace Tree
/-- Who is due at a time, in any order. -/
def dues (t : Tree) (now : Int) : List Nat := (List.range t.toks.length).filter fun i => !(t.tk i).done && decide (0 ≤ (t.tk i).dl) && decide ((t.tk i).dl ≤ now)
/-- A row that tells who is due, by their deadlines, and of one deadline in the order in which they were made. -/
structure IsDue (t : Tree) (now : Int) (l : List Nat) : Prop where
  rise : Rise (fun i => (t.tk i).dl) l
  same : SameKeys (fun i => (t.tk i).dl) l (t.dues now)
theorem cancel_done {t : Tree} {i : Nat} {c : List S56} (h : (t.tk i).done = true) : t.cancel i c = t := by unfold Tree.cancel; rw [if_pos h]
/-- Those that are done already are passed over. -/
theorem lates_skip : ∀ (l : List Nat) (u v : Tree), Ext u v → (∀ j ∈ l, j < u.toks.length) → v.lates (l.filter fun i => !(u.tk i).done) = v.lates l
  | [], _, _, _, _ => rfl
  | j :: r, u, v, h, hl => by
    have hr := fun k hk => hl k (List.mem_cons_of_mem _ hk)
    have hj := hl j List.mem_cons_self
    by_cases hd : (u.tk j).done = true
    · rw [List.filter_cons_of_neg (by simpa using hd), Tree.lates, cancel_done ((h.done j hj hd).1)]
      exact lates_skip r u v h hr
    · rw [List.filter_cons_of_pos (by simpa using hd), Tree.lates, Tree.lates]
      exact lates_skip r u _ (h.trans (Ext.cancel v j _ (Nat.lt_of_lt_of_le hj h.len))) hr
theorem turn_dl (t : Tree) (i j : Nat) (w : List S56) (hi : i < t.toks.length) : ((t.turn i w).tk j).dl = (t.tk j).dl := by
  rw [tk_turn t i j w hi]
  by_cases e : j = i
  · subst e; rw [if_pos rfl]
  · rw [if_neg e]
theorem take_dl (t : Tree) (i j : Nat) (hi : i < t.toks.length) : ((t.take i).tk j).dl = (t.tk j).dl := by
  unfold Tree.take
  split
  · rfl
  · split
    · exact turn_dl t i j _ hi
    · rfl
theorem sweep_dl : ∀ (l : List Nat) (t : Tree) (j : Nat), (∀ k ∈ l, k < t.toks.length) → ((t.sweep l).tk j).dl = (t.tk j).dl
  | [], t, j, _ => rfl
  | k :: r, t, j, h => by
    rw [Tree.sweep, sweep_dl r _ j (fun m hm => by rw [take_len]; exact h m (List.mem_cons_of_mem _ hm)), take_dl t k j (h k List.mem_cons_self)]
theorem cancel_dl (t : Tree) (i j : Nat) (c : List S56) (hi : i < t.toks.length) : ((t.cancel i c).tk j).dl = (t.tk j).dl := by
  unfold Tree.cancel
  split
  · rfl
  · split
    · rfl
    · rw [sweep_dl _ _ j (fun k hk => by rw [turn_len]; exact List.mem_range.1 hk), turn_dl t i j _ hi]
theorem lates_dl : ∀ (l : List Nat) (t : Tree) (j : Nat), (∀ k ∈ l, k < t.toks.length) → ((t.lates l).tk j).dl = (t.tk j).dl
  | [], t, j, _ => rfl
  | k :: r, t, j, h => by
    rw [Tree.lates, lates_dl r _ j (fun m hm => by rw [cancel_len]; exact h m (List.mem_cons_of_mem _ hm)), cancel_dl t k j _ (h k List.mem_cons_self)]
theorem late_ok : tokE lateL = 0 := by decide
theorem cancel_self {t : Tree} {i : Nat} {c : List S56} (hi : i < t.toks.length) (hc : tokE c = 0) : ((t.cancel i c).tk i).done = true := by
  unfold Tree.cancel
  by_cases h : (t.tk i).done = true
  · rw [if_pos h]; exact h
  · rw [if_neg h, if_neg (by simpa using hc)]
    refine ((Ext.sweep _ (t.turn i (tokL (t.tk i).name c)) (fun j hj => by rw [turn_len]; exact List.mem_range.1 hj)).done i (by rw [turn_len]; exact hi) ?_).1
    rw [tk_turn t i i _ hi, if_pos rfl]
/-- Whoever is in the row is cancelled behind it. -/
theorem lates_all : ∀ (l : List Nat) (t : Tree), (∀ k ∈ l, k < t.toks.length) → ∀ k ∈ l, ((t.lates l).tk k).done = true
  | [], t, _, k, hk => absurd hk List.not_mem_nil
  | j :: r, t, h, k, hk => by
    have hr : ∀ m ∈ r, m < (t.cancel j lateL).toks.length := fun m hm => by rw [cancel_len]; exact h m (List.mem_cons_of_mem _ hm)
    rw [Tree.lates]
    rcases List.mem_cons.1 hk with e | e
    · subst e
      exact ((Ext.lates r _ hr).done k (by rw [cancel_len]; exact h k List.mem_cons_self) (cancel_self (h k List.mem_cons_self) late_ok)).1
    · exact lates_all r _ hr k e
theorem lates_append : ∀ (l m : List Nat) (t : Tree), t.lates (l ++ m) = (t.lates l).lates m
  | [], _, _ => rfl
  | j :: r, m, t => by rw [List.cons_append, Tree.lates, Tree.lates, lates_append r]
theorem mem_dues {t : Tree} {now : Int} {i : Nat} : i ∈ t.dues now ↔ i < t.toks.length ∧ (t.tk i).done = false ∧ 0 ≤ (t.tk i).dl ∧ (t.tk i).dl ≤ now := by
  simp [dues, and_assoc]
theorem IsDue.lt {t : Tree} {now : Int} {l : List Nat} (h : IsDue t now l) : ∀ k ∈ l, k < t.toks.length := fun k hk => (mem_dues.1 (h.same.mem hk)).1
theorem rise_filter {α : Type} {f : α → Int} {l : List α} (p : α → Bool) (h : Rise f l) : Rise f (l.filter p) := List.Pairwise.sublist List.filter_sublist h
/-- Time that goes by in two steps cancels what it does in one. -/
theorem lates_two {t : Tree} {n m : Int} {l1 l2 l3 : List Nat} (hnm : n ≤ m) (h1 : IsDue t n l1) (h2 : IsDue (t.lates l1) m l2) (h3 : IsDue t m l3) : (t.lates l1).lates l2 = t.lates l3 := by
  have hdl := fun j => lates_dl l1 t j h1.lt
  have e1 : l1 = l3.filter (fun i => decide ((t.tk i).dl ≤ n)) := by
    refine rise_unique h1.rise (rise_filter _ h3.rise) (fun d => ?_)
    rw [h1.same d, List.filter_filter]
    have : l3.filter (fun i => ((t.tk i).dl == d) && decide ((t.tk i).dl ≤ n)) = (l3.filter (fun i => (t.tk i).dl == d)).filter (fun i => decide ((t.tk i).dl ≤ n)) := by
      rw [List.filter_filter]; exact List.filter_congr (fun x _ => Bool.and_comm _ _)
    rw [this, h3.same d, List.filter_filter]
    unfold dues
    rw [List.filter_filter, List.filter_filter]
    refine List.filter_congr (fun i _ => ?_)
    rw [Bool.eq_iff_iff]
    simp
    constructor
    · rintro ⟨a, b, c⟩; exact ⟨⟨c, a⟩, b, by omega⟩
    · rintro ⟨⟨a, b⟩, c, d⟩; exact ⟨b, c, a⟩
  have e2 : l2 = (l3.filter (fun i => decide (n < (t.tk i).dl))).filter (fun i => !((t.lates l1).tk i).done) := by
    have hf : (fun i => ((t.lates l1).tk i).dl) = fun i => (t.tk i).dl := funext hdl
    refine rise_unique (f := fun i => (t.tk i).dl) (hf ▸ h2.rise) (rise_filter _ (rise_filter _ h3.rise)) (fun d => ?_)
    have hs := h2.same
    rw [hf] at hs
    rw [hs d]
    have : ((l3.filter (fun i => decide (n < (t.tk i).dl))).filter (fun i => !((t.lates l1).tk i).done)).filter (fun i => (t.tk i).dl == d) = (l3.filter (fun i => (t.tk i).dl == d)).filter (fun i => decide (n < (t.tk i).dl) && !((t.lates l1).tk i).done) := by
      rw [List.filter_filter, List.filter_filter, List.filter_filter]
      exact List.filter_congr (fun x _ => by cases ((t.tk x).dl == d) <;> cases decide (n < (t.tk x).dl) <;> cases ((t.lates l1).tk x).done <;> rfl)
    rw [this, h3.same d]
    unfold dues
    rw [List.filter_filter, List.filter_filter, List.filter_filter, lates_len]
    refine List.filter_congr (fun i hi => ?_)
    have hi := List.mem_range.1 hi
    rw [Bool.eq_iff_iff, hdl i]
    simp
    constructor
    · rintro ⟨a, ⟨b, c⟩, d⟩
      have hnd : (t.tk i).done = false := by
        cases hh : (t.tk i).done with
        | false => rfl
        | true => rw [((Ext.lates l1 t h1.lt).done i hi hh).1] at b; exact absurd b (by decide)
      have hgt : n < (t.tk i).dl := by
        rcases Int.lt_or_le n (t.tk i).dl with g | g
        · exact g
        · rw [lates_all l1 t h1.lt i (h1.same.symm.mem (mem_dues.2 ⟨hi, hnd, c, g⟩))] at b; exact absurd b (by decide)
      exact ⟨⟨⟨hgt, b⟩, a⟩, ⟨hnd, c⟩, d⟩
    · rintro ⟨⟨⟨a, b⟩, c⟩, ⟨d, e⟩, f⟩; exact ⟨c, ⟨b, e⟩, f⟩
  have e3 := rise_split n h3.rise
  rw [e2, lates_skip _ (t.lates l1) (t.lates l1) (Ext.refl _) (fun k hk => by rw [lates_len]; exact h3.lt k (List.mem_filter.1 hk).1)]
  conv => rhs; rw [e3, lates_append, ← e1]
end Tree
end Go.Proofs.YtdnkedifjaccoaaDoor.Ce
namespace Go.Proofs.YtdnkedifjaccoaaDoor.Ce
open Go.RowKit Go.Maps Go.Proofs.YtdnkedifjaccoaaDoor Go.Proofs.YtdnkedifjaccoaaDoorW.PrintWords Go.Proofs.YtdnkedifjaccoaaDoorW.PrintLast Go.Proofs.YtdnkedifjaccoaaDoorW.PrintMore PToken
set_option linter.unusedVariables false
set_option linter.unusedSimpArgs false
namespace Tree
theorem first_one {t : Tree} {i : Nat} (h : i ∈ t.ord) : t.first [i] = some i := by
  cases hf : t.first [i] with
  | none => exact absurd h (first_none hf i List.mem_cons_self)
  | some p => rw [List.mem_singleton.1 (first_some hf).2]
theorem first_no {t : Tree} {i : Nat} (h : i ∉ t.ord) : t.first [i] = none := by
  cases hf : t.first [i] with
  | none => rfl
  | some p => exact absurd (List.mem_singleton.1 (first_some hf).2 ▸ (first_some hf).1) h
theorem take_one {t : Tree} {j i : Nat} (hd : (t.tk j).done = false) (hp : (t.tk j).par = [i]) (hi : i ∈ t.ord) : t.take j = t.turn j (t.tk i).why := by
  unfold Tree.take
  rw [if_neg (by rw [hd]; exact Bool.false_ne_true), hp, first_one hi]
theorem take_no {t : Tree} {j i : Nat} (hp : (t.tk j).par = [i]) (hi : i ∉ t.ord) : t.take j = t := by
  unfold Tree.take
  rw [hp, first_no hi]
  split <;> rfl
theorem sweep_other : ∀ (l : List Nat) (t : Tree) (k : Nat), (∀ j ∈ l, j < t.toks.length) → k ∉ l → (t.sweep l).tk k = t.tk k
  | [], t, k, _, _ => rfl
  | j :: r, t, k, h, hk => by
    rw [Tree.sweep, sweep_other r _ k (fun m hm => by rw [take_len]; exact h m (List.mem_cons_of_mem _ hm)) (fun e => hk (List.mem_cons_of_mem _ e)), take_other t j k (h j List.mem_cons_self) (fun e => hk (e ▸ List.mem_cons_self))]
theorem sweep_append : ∀ (l m : List Nat) (t : Tree), t.sweep (l ++ m) = (t.sweep l).sweep m
  | [], _, _ => rfl
  | j :: r, m, t => by rw [List.cons_append, Tree.sweep, Tree.sweep, sweep_append r]
/-- One that is made below a cancelled one is cancelled, with its failure. -/
theorem made_done {t : Tree} {i : Nat} (W : WF t) (a : ByteArray) (hi : i < t.toks.length) (hd : (t.tk i).done = true) :
    t.made a [i] = (t.add a [i]).turn t.toks.length (t.tk i).why := by
  unfold Tree.made
  rw [take_one (t := t.add a [i]) (i := i) (by rw [tk_add, if_pos rfl]) (by rw [tk_add, if_pos rfl]) ((W.ord i).2 ⟨hi, hd⟩), tk_add, if_neg (by omega)]
theorem made_free {t : Tree} {i : Nat} (W : WF t) (a : ByteArray) (hi : i < t.toks.length) (hd : (t.tk i).done = false) :
    t.made a [i] = t.add a [i] := by
  unfold Tree.made
  exact take_no (i := i) (by rw [tk_add, if_pos rfl]) (fun h => by have := ((W.ord i).1 h).2; rw [hd] at this; exact absurd this (by decide))
/-- Two that hang on one that is cancelled, one below the other, made last: they are cancelled last, with its failure. -/
theorem hangs {t : Tree} {i n : Nat} {c : List S56} (W : WF t) (hn : t.toks.length = n + 2) (hi : i < n) (h0 : (t.tk i).done = false) (h1 : (t.tk n).done = false) (h2 : (t.tk (n + 1)).done = false)
    (p1 : (t.tk n).par = [i]) (p2 : (t.tk (n + 1)).par = [n]) (hc : tokE c = 0) :
    (∃ m, (t.cancel i c).ord = t.ord ++ i :: (m ++ [n, n + 1])) ∧ ((t.cancel i c).tk i).why = tokL (t.tk i).name c ∧ ((t.cancel i c).tk n).why = tokL (t.tk i).name c ∧ ((t.cancel i c).tk (n + 1)).why = tokL (t.tk i).name c
      ∧ ((t.cancel i c).tk i).done = true ∧ ((t.cancel i c).tk n).done = true ∧ ((t.cancel i c).tk (n + 1)).done = true := by
  have hir : i < t.toks.length := by omega
  have hu : t.cancel i c = (((t.turn i (tokL (t.tk i).name c)).sweep (List.range n)).take n).take (n + 1) := by
    unfold Tree.cancel
    rw [if_neg (by rw [h0]; exact Bool.false_ne_true), if_neg (by simpa using hc), hn, List.range_succ, List.range_succ, sweep_append, sweep_append]
    rfl
  generalize hw : tokL (t.tk i).name c = w at hu ⊢
  have W1 : WF (t.turn i w) := W.turn i w hir h0 (hw ▸ tokL_ne hc)
  have hl1 : (t.turn i w).toks.length = n + 2 := by rw [turn_len, hn]
  have hlt : ∀ j ∈ List.range n, j < (t.turn i w).toks.length := fun j hj => by have := List.mem_range.1 hj; omega
  have E := Ext.sweep (List.range n) (t.turn i w) hlt
  have W2 := WF.sweep (List.range n) (t.turn i w) W1 hlt
  have o1 := sweep_other (List.range n) (t.turn i w) n hlt (by simp)
  have o2 := sweep_other (List.range n) (t.turn i w) (n + 1) hlt (by simp)
  have hl2 : ((t.turn i w).sweep (List.range n)).toks.length = n + 2 := by rw [sweep_len, hl1]
  rw [tk_turn t i n w hir, if_neg (by omega)] at o1
  rw [tk_turn t i (n + 1) w hir, if_neg (by omega)] at o2
  have hdi := E.done i (by omega) (by rw [tk_turn t i i w hir, if_pos rfl])
  rw [tk_turn t i i w hir, if_pos rfl] at hdi
  obtain ⟨m, hm⟩ := E.ord
  generalize hs : (t.turn i w).sweep (List.range n) = s at *
  have t1 : s.take n = s.turn n w := by
    rw [take_one (i := i) (by rw [o1]; exact h1) (by rw [o1]; exact p1) ((W2.ord i).2 ⟨by omega, hdi.1⟩), hdi.2]
  have t2 : (s.turn n w).take (n + 1) = (s.turn n w).turn (n + 1) w := by
    rw [take_one (i := n) (by rw [tk_turn s n (n + 1) w (by omega), if_neg (by omega), o2]; exact h2) (by rw [tk_turn s n (n + 1) w (by omega), if_neg (by omega), o2]; exact p2) (by simp [Tree.turn]), tk_turn s n n w (by omega), if_pos rfl]
  rw [hu, t1, t2]
  have hl3 : n + 1 < (s.turn n w).toks.length := by rw [turn_len]; omega
  refine ⟨⟨m, ?_⟩, ?_, ?_, ?_, ?_, ?_, ?_⟩
  · have hm' : t.ord ++ [i] ++ m = s.ord := hm
    show s.ord ++ [n] ++ [n + 1] = _
    rw [← hm']; simp
  all_goals rw [tk_turn _ (n + 1) _ w hl3]
  · rw [if_neg (by omega), tk_turn s n i w (by omega), if_neg (by omega)]; exact hdi.2
  · rw [if_neg (by omega), tk_turn s n n w (by omega), if_pos rfl]
  · rw [if_pos rfl]
  · rw [if_neg (by omega), tk_turn s n i w (by omega), if_neg (by omega)]; exact hdi.1
  · rw [if_neg (by omega), tk_turn s n n w (by omega), if_pos rfl]
  · rw [if_pos rfl]
end Tree
end Go.Proofs.YtdnkedifjaccoaaDoor.Ce
namespace Go.Proofs.YtdnkedifjaccoaaDoor.Ce
open Go.RowKit Go.Maps Go.Proofs.YtdnkedifjaccoaaDoor Go.Proofs.YtdnkedifjaccoaaDoorW.PrintWords Go.Proofs.YtdnkedifjaccoaaDoorW.PrintLast Go.Proofs.YtdnkedifjaccoaaDoorW.PrintMore PToken
set_option linter.unusedVariables false
set_option linter.unusedSimpArgs false
namespace Tree
/-- One is another one, or that one hangs on it. -/
inductive Anc (t : Tree) : Nat → Nat → Prop
  | self (i : Nat) : Anc t i i
  | up {p q i : Nat} : p ∈ (t.tk q).par → Anc t q i → Anc t p i
theorem Anc.down {t : Tree} {x p i : Nat} (h : Anc t x p) (hp : p ∈ (t.tk i).par) : Anc t x i := by
  induction h with
  | self p => exact Anc.up hp (Anc.self i)
  | up ha _ ih => exact Anc.up ha (ih hp)
theorem Anc.le {t : Tree} (W : WF t) {x i : Nat} (h : Anc t x i) (hi : i < t.toks.length) : x ≤ i := by
  induction h with
  | self i => exact Nat.le_refl _
  | up ha _ ih => have h1 := ih hi; have h2 := W.par _ (by omega) _ ha; omega
theorem Cl.anc {t : Tree} (W : WF t) (C : Cl t t.toks.length) {x i : Nat} (h : Anc t x i) (hi : i < t.toks.length) (hd : (t.tk x).done = true) : (t.tk i).done = true := by
  induction h with
  | self i => exact hd
  | up ha hq ih => exact ih hi (C _ (by have := Anc.le W hq hi; omega) _ ha hd)
/-- Who is cancelled now was so, or hangs on one of some. -/
def New (t : Tree) (S : List Nat) (u : Tree) : Prop := ∀ k, k < t.toks.length → (u.tk k).done = true → (t.tk k).done = true ∨ ∃ x ∈ S, Anc t x k
theorem New.take {t u : Tree} {S : List Nat} (C : Cl t t.toks.length) (E : Ext t u) (hl : u.toks.length = t.toks.length) (W : WF u) (h : New t S u) (j : Nat) (hj : j < t.toks.length) : New t S (u.take j) := by
  intro k hk hd
  by_cases e : k = j
  · subst e
    by_cases hu : (u.tk k).done = true
    · exact h k hk hu
    · cases hf : u.first (u.tk k).par with
      | none => rw [show u.take k = u from by unfold Tree.take; rw [if_neg hu, hf]] at hd; exact absurd hd hu
      | some p =>
        have hp := (first_some hf).2
        have hpo := (W.ord p).1 (first_some hf).1
        rw [(E.same k hk).2] at hp
        rcases h p (by omega) hpo.2 with g | ⟨x, hx, ha⟩
        · exact Or.inl (C k hk p hp g)
        · exact Or.inr ⟨x, hx, ha.down hp⟩
  · rw [take_other u j k (by omega) e] at hd
    exact h k hk hd
theorem New.sweep {t : Tree} {S : List Nat} (C : Cl t t.toks.length) : ∀ (l : List Nat) (u : Tree), Ext t u → u.toks.length = t.toks.length → WF u → New t S u → (∀ j ∈ l, j < t.toks.length) → New t S (u.sweep l)
  | [], u, _, _, _, h, _ => h
  | j :: r, u, E, hl, W, h, hr => by
    have hj := hr j List.mem_cons_self
    rw [Tree.sweep]
    exact New.sweep C r _ (E.trans (Ext.take u j (by omega))) (by rw [take_len]; exact hl) (W.take j (by omega)) (h.take C E hl W j hj) (fun k hk => hr k (List.mem_cons_of_mem _ hk))
theorem New.cancel {t u : Tree} {S : List Nat} (C : Cl t t.toks.length) (E : Ext t u) (hl : u.toks.length = t.toks.length) (W : WF u) (h : New t S u) (i : Nat) (hi : i < t.toks.length) (hS : i ∈ S) (c : List S56) : New t S (u.cancel i c) := by
  unfold Tree.cancel
  by_cases hd : (u.tk i).done = true
  · rw [if_pos hd]; exact h
  · rw [if_neg hd]
    by_cases h2 : tokE c ≠ 0
    · rw [if_pos h2]; exact h
    · rw [if_neg h2]
      have hdf : (u.tk i).done = false := by simpa using hd
      have hiu : i < u.toks.length := by omega
      refine New.sweep C _ _ (E.trans (Ext.turn u i _ hiu hdf)) (by rw [turn_len]; exact hl) (W.turn i _ hiu hdf (tokL_ne (Classical.not_not.1 h2))) (fun k hk hkd => ?_) (fun j hj => by have := List.mem_range.1 hj; omega)
      by_cases e : k = i
      · subst e; exact Or.inr ⟨k, hS, Anc.self k⟩
      · rw [tk_turn u i k _ hiu, if_neg e] at hkd; exact h k hk hkd
theorem New.lates {t : Tree} {S : List Nat} (C : Cl t t.toks.length) : ∀ (l : List Nat) (u : Tree), Ext t u → u.toks.length = t.toks.length → WF u → New t S u → (∀ j ∈ l, j < t.toks.length ∧ j ∈ S) → New t S (u.lates l)
  | [], u, _, _, _, h, _ => h
  | j :: r, u, E, hl, W, h, hr => by
    have hj := hr j List.mem_cons_self
    rw [Tree.lates]
    exact New.lates C r _ (E.trans (Ext.cancel u j _ (by omega))) (by rw [cancel_len]; exact hl) (W.cancel j _ (by omega)) (h.cancel C E hl W j hj.1 hj.2 _) (fun k hk => hr k (List.mem_cons_of_mem _ hk))
/-- Behind a time all are cancelled whose limit, or that of one on whom they hang, is not behind it, and no others. -/
theorem lates_limits {t : Tree} {now : Int} {l : List Nat} (W : WF t) (C : Cl t t.toks.length) (h : IsDue t now l) (i : Nat) (hi : i < t.toks.length) (hd : (t.tk i).done = false) :
    ((t.lates l).tk i).done = true ↔ ∃ x, Anc t x i ∧ 0 ≤ (t.tk x).dl ∧ (t.tk x).dl ≤ now := by
  constructor
  · intro hk
    rcases New.lates C l t (Ext.refl t) rfl W (fun k _ hk => Or.inl hk) (fun j hj => ⟨h.lt j hj, hj⟩) i hi hk with g | ⟨x, hx, ha⟩
    · rw [hd] at g; exact absurd g (by decide)
    · have := mem_dues.1 (h.same.mem hx)
      exact ⟨x, ha, this.2.2.1, this.2.2.2⟩
  · rintro ⟨x, ha, h0, h1⟩
    have hx : x < t.toks.length := Nat.lt_of_le_of_lt (ha.le W hi) hi
    have hxd : (t.tk x).done = false := by
      cases hh : (t.tk x).done with
      | false => rfl
      | true => rw [Cl.anc W C ha hi hh] at hd; exact absurd hd (by decide)
    have hnew := lates_all l t h.lt x (h.same.symm.mem (mem_dues.2 ⟨hx, hxd, h0, h1⟩))
    have WC := Cl.lates l t W h.lt C
    have ha' : Anc (t.lates l) x i := by
      clear hnew h0 h1 hxd hx
      induction ha with
      | self i => exact Anc.self i
      | up hp hq ih =>
        refine Anc.up ?_ (ih hi hd)
        rw [((Ext.lates l t h.lt).same _ (Nat.lt_of_le_of_lt (Anc.le W hq hi) hi)).2]
        exact hp
    exact Cl.anc WC.1 (by rw [lates_len]; exact WC.2) ha' (by rw [lates_len]; exact hi) hnew
end Tree
end Go.Proofs.YtdnkedifjaccoaaDoor.Ce
namespace Go.Proofs.YtdnkedifjaccoaaDoor.Ce
open Go.RowKit Go.Maps Go.Proofs.YtdnkedifjaccoaaDoor Go.Proofs.YtdnkedifjaccoaaDoorW.PrintWords Go.Proofs.YtdnkedifjaccoaaDoorW.PrintLast Go.Proofs.YtdnkedifjaccoaaDoorW.PrintMore PToken
set_option linter.unusedVariables false
set_option linter.unusedSimpArgs false
def byKey {α : Type} (f : α → Int) (a b : α) : Bool := decide (f a ≤ f b)
theorem byKey_rise {α : Type} (f : α → Int) (l : List α) : Rise f (l.mergeSort (byKey f)) := by
  have h := List.pairwise_mergeSort (le := byKey f) (fun a b c h1 h2 => by unfold byKey at *; simp at *; omega) (fun a b => by unfold byKey; simp; omega) l
  exact h.imp (fun {a b} h => by unfold byKey at h; simpa using h)
theorem byKey_same {α : Type} (f : α → Int) (l : List α) : SameKeys f (l.mergeSort (byKey f)) l := by
  intro d
  have hp : (l.filter (fun x => f x == d)).Pairwise (fun a b => byKey f a b = true) := by
    refine List.pairwise_iff_forall_sublist.2 (fun {a b} hab => ?_)
    have ha := (List.mem_filter.1 (hab.subset List.mem_cons_self)).2
    have hb := (List.mem_filter.1 (hab.subset (List.mem_cons_of_mem _ List.mem_cons_self))).2
    simp at ha hb
    unfold byKey; simp; omega
  have hs := List.sublist_mergeSort (le := byKey f) (fun a b c h1 h2 => by unfold byKey at *; simp at *; omega) (fun a b => by unfold byKey; simp; omega) hp (List.filter_sublist (l := l))
  have hf := hs.filter (fun x => f x == d)
  rw [List.filter_filter] at hf
  simp only [Bool.and_self] at hf
  exact (hf.eq_of_length ((List.mergeSort_perm l (byKey f)).filter _).length_eq.symm).symm
namespace Tree
def dueL (t : Tree) (now : Int) : List Nat := (t.dues now).mergeSort (byKey fun i => (t.tk i).dl)
theorem dueL_is (t : Tree) (now : Int) : IsDue t now (t.dueL now) := ⟨byKey_rise _ _, byKey_same _ _⟩
theorem IsDue.eq {t : Tree} {now : Int} {l : List Nat} (h : IsDue t now l) : l = t.dueL now :=
  rise_unique h.rise (byKey_rise _ _) (fun d => (h.same d).trans (byKey_same _ _ d).symm)
def setNow (t : Tree) (n : Int) : Tree := ⟨n, t.toks, t.ord⟩
theorem setNow_take (t : Tree) (n : Int) (i : Nat) : (t.setNow n).take i = (t.take i).setNow n := by
  by_cases h : (t.tk i).done = true
  · have h' : ((t.setNow n).tk i).done = true := h
    unfold Tree.take
    rw [if_pos h, if_pos h']
  · have h' : ¬ ((t.setNow n).tk i).done = true := h
    have hp : (t.setNow n).first ((t.setNow n).tk i).par = t.first (t.tk i).par := rfl
    unfold Tree.take
    rw [if_neg h, if_neg h', hp]
    cases t.first (t.tk i).par <;> rfl
theorem setNow_sweep : ∀ (l : List Nat) (t : Tree) (n : Int), (t.setNow n).sweep l = (t.sweep l).setNow n
  | [], _, _ => rfl
  | j :: r, t, n => by rw [Tree.sweep, Tree.sweep, setNow_take, setNow_sweep r]
theorem setNow_cancel (t : Tree) (n : Int) (i : Nat) (c : List S56) : (t.setNow n).cancel i c = (t.cancel i c).setNow n := by
  by_cases h : (t.tk i).done = true
  · have h' : ((t.setNow n).tk i).done = true := h
    unfold Tree.cancel
    rw [if_pos h, if_pos h']
  · have h' : ¬ ((t.setNow n).tk i).done = true := h
    unfold Tree.cancel
    rw [if_neg h, if_neg h']
    by_cases h2 : tokE c ≠ 0
    · rw [if_pos h2, if_pos h2]
    · rw [if_neg h2, if_neg h2]
      exact setNow_sweep _ (t.turn i (tokL (t.tk i).name c)) n
theorem setNow_lates : ∀ (l : List Nat) (t : Tree) (n : Int), (t.setNow n).lates l = (t.lates l).setNow n
  | [], _, _ => rfl
  | j :: r, t, n => by rw [Tree.lates, Tree.lates, setNow_cancel, setNow_lates r]
theorem cancel_now (t : Tree) (i : Nat) (c : List S56) : (t.cancel i c).now = t.now := by
  have h := congrArg Tree.now (setNow_cancel t t.now i c)
  exact h
theorem lates_now (l : List Nat) (t : Tree) : (t.lates l).now = t.now := by
  have h := congrArg Tree.now (setNow_lates l t t.now)
  exact h
theorem WF.setNow {t : Tree} (W : WF t) (n : Int) : WF (t.setNow n) := ⟨W.nodup, W.ord, W.par, W.why⟩
theorem Cl.setNow {t : Tree} {k : Nat} (n : Int) (C : Cl t k) : Cl (t.setNow n) k := C
/-- Time goes on. -/
def tick (t : Tree) (k : Int) : Tree := (t.lates (t.dueL (t.now + k))).setNow (t.now + k)
theorem tick_len (t : Tree) (k : Int) : (t.tick k).toks.length = t.toks.length := lates_len _ _
theorem Ext.tick (t : Tree) (k : Int) : Ext t (t.tick k) :=
  (Ext.lates _ _ (fun j hj => (dueL_is t (t.now + k)).lt j hj)).trans (Ext.now _ _)
theorem Cl.tick {t : Tree} (k : Int) (W : WF t) (C : Cl t t.toks.length) : WF (t.tick k) ∧ Cl (t.tick k) t.toks.length := by
  have h := Cl.lates _ t W (dueL_is t (t.now + k)).lt C
  exact ⟨h.1.setNow _, h.2⟩
/-- Time that goes by in two steps cancels what it does in one. -/
theorem tick_two (t : Tree) (a b : Int) (hb : 0 ≤ b) : (t.tick a).tick b = t.tick (a + b) := by
  have h2 : IsDue (t.lates (t.dueL (t.now + a))) (t.now + (a + b)) ((t.tick a).dueL (t.now + a + b)) := by
    have h := dueL_is (t.tick a) (t.now + a + b)
    rw [← Int.add_assoc]
    exact ⟨h.rise, h.same⟩
  have h := lates_two (n := t.now + a) (m := t.now + (a + b)) (by omega) (dueL_is t _) h2 (dueL_is t _)
  show ((t.tick a).lates ((t.tick a).dueL (t.now + a + b))).setNow (t.now + a + b) = (t.lates (t.dueL (t.now + (a + b)))).setNow (t.now + (a + b))
  rw [← h, ← Int.add_assoc]
  have h5 := congrArg (fun u : Tree => u.setNow (t.now + a + b)) (setNow_lates ((t.tick a).dueL (t.now + a + b)) (t.lates (t.dueL (t.now + a))) (t.now + a))
  exact h5
end Tree
end Go.Proofs.YtdnkedifjaccoaaDoor.Ce
namespace Go.Proofs.YtdnkedifjaccoaaDoor.Ce
open Go.RowKit Go.Maps Go.Proofs.YtdnkedifjaccoaaDoor Go.Proofs.YtdnkedifjaccoaaDoorW.PrintWords Go.Proofs.YtdnkedifjaccoaaDoorW.PrintLast Go.Proofs.YtdnkedifjaccoaaDoorW.PrintMore PToken
set_option linter.unusedVariables false
set_option linter.unusedSimpArgs false
namespace Tree
/-- What always holds of a tree. -/
structure Good (t : Tree) : Prop where
  wf : WF t
  cl : Cl t t.toks.length
  names : ∀ i j, i < t.toks.length → j < t.toks.length → (t.tk i).name.toList = (t.tk j).name.toList → i = j
  small : t.toks.length ≤ 256
  now : 0 ≤ t.now ∧ t.now ≤ 1099511627776
  dl : ∀ i, -1 ≤ (t.tk i).dl ∧ (t.tk i).dl ≤ 1099511627776
  pars : ∀ i, i < t.toks.length → (t.tk i).par.length ≤ 8
theorem Good.new : Good ⟨0, [], []⟩ := ⟨WF.new, fun k hk => by simp at hk, fun i j hi => by simp at hi, by simp, by simp, fun i => by simp [tk, zTok], fun i hi => by simp at hi⟩
theorem find_some {t : Tree} {n : ByteArray} {i : Nat} (h : t.find n = some i) : i < t.toks.length ∧ (t.tk i).name.toList = n.toList := by
  unfold find at h
  exact ⟨List.mem_range.1 (List.mem_of_find?_eq_some h), by simpa using List.find?_some h⟩
theorem find_none {t : Tree} {n : ByteArray} (h : t.find n = none) : ∀ i, i < t.toks.length → (t.tk i).name.toList ≠ n.toList := fun i hi e => by
  unfold find at h
  rw [List.find?_eq_none] at h
  exact h i (List.mem_range.2 hi) (by simpa using e)
theorem Good.find {t : Tree} (G : Good t) {i : Nat} (hi : i < t.toks.length) {n : ByteArray} (hn : (t.tk i).name.toList = n.toList) : t.find n = some i := by
  cases h : t.find n with
  | none => exact absurd hn (find_none h i hi)
  | some j => rw [G.names j i (find_some h).1 hi ((find_some h).2.trans hn.symm)]
theorem Good.step {t u : Tree} (G : Good t) (W : WF u) (C : Cl u u.toks.length) (hl : u.toks.length = t.toks.length) (E : Ext t u) (hn : 0 ≤ u.now ∧ u.now ≤ 1099511627776)
    (hd : ∀ i, -1 ≤ (u.tk i).dl ∧ (u.tk i).dl ≤ 1099511627776) : Good u :=
  ⟨W, C, fun i j hi hj h => by
    rw [hl] at hi hj
    rw [(E.same i hi).1, (E.same j hj).1] at h
    exact G.names i j hi hj h, by rw [hl]; exact G.small, hn, hd, fun i hi => by rw [hl] at hi; rw [(E.same i hi).2]; exact G.pars i hi⟩
theorem Good.cancel {t : Tree} (G : Good t) (i : Nat) (c : List S56) (hi : i < t.toks.length) : Good (t.cancel i c) :=
  G.step (G.wf.cancel i c hi) (by rw [cancel_len]; exact Cl.cancel G.wf i c hi G.cl) (cancel_len _ _ _) (Ext.cancel t i c hi) (by rw [cancel_now]; exact G.now) (fun j => by rw [cancel_dl t i j c hi]; exact G.dl j)
theorem setDl_len (t : Tree) (i : Nat) (d : Int) : (t.setDl i d).toks.length = t.toks.length := by simp [Tree.setDl]
theorem Good.setDl {t : Tree} (G : Good t) (i : Nat) (d : Int) (hi : i < t.toks.length) (h0 : 0 ≤ d) (h1 : d ≤ 1099511627776) : Good (t.setDl i d) :=
  G.step (G.wf.setDl i d hi) (by rw [setDl_len]; exact G.cl.setDl i d _ hi) (setDl_len _ _ _) (Ext.setDl t i d hi) G.now (fun j => by
    rw [tk_setDl t i j d hi]
    by_cases e : j = i
    · rw [if_pos e]; exact ⟨by show -1 ≤ d; omega, h1⟩
    · rw [if_neg e]; exact G.dl j)
theorem tick_dl (t : Tree) (k : Int) (j : Nat) : ((t.tick k).tk j).dl = (t.tk j).dl := lates_dl (t.dueL (t.now + k)) t j (dueL_is t (t.now + k)).lt
theorem Good.tick {t : Tree} (G : Good t) (k : Int) (h0 : 0 ≤ k) (h1 : k ≤ 1099511627776 - t.now) : Good (t.tick k) := by
  have h := Cl.tick k G.wf G.cl
  exact G.step h.1 (by rw [tick_len]; exact h.2) (tick_len _ _) (Ext.tick t k) ⟨by show 0 ≤ t.now + k; have := G.now; omega, by show t.now + k ≤ _; omega⟩ (fun j => by rw [tick_dl]; exact G.dl j)
theorem Good.made {t : Tree} (G : Good t) (n : ByteArray) (ps : List Nat) (hn : t.find n = none) (hp : ∀ p ∈ ps, p < t.toks.length) (hl : t.toks.length < 256) (h8 : ps.length ≤ 8) : Good (t.made n ps) := by
  have hlen := made_len t n ps
  have E := Ext.made t n ps
  have ha : (t.add n ps).toks.length = t.toks.length + 1 := by simp [Tree.add]
  have hT := Ext.take (t.add n ps) t.toks.length (by omega)
  have hname : ((t.made n ps).tk t.toks.length).name = n := by
    unfold Tree.made
    rw [(hT.same t.toks.length (by omega)).1, tk_add, if_pos rfl]
  have hpar : ((t.made n ps).tk t.toks.length).par = ps := by
    unfold Tree.made
    rw [(hT.same t.toks.length (by omega)).2, tk_add, if_pos rfl]
  refine ⟨G.wf.made n ps hp, by rw [hlen]; exact Cl.made G.wf n ps hp G.cl, fun i j hi hj h => ?_, by omega, ?_, fun j => ?_, fun i hi => ?_⟩
  · rw [hlen] at hi hj
    by_cases ei : i = t.toks.length
    · by_cases ej : j = t.toks.length
      · omega
      · rw [ei, hname, (E.same j (by omega)).1] at h
        exact absurd h.symm (find_none hn j (by omega))
    · by_cases ej : j = t.toks.length
      · rw [ej, hname, (E.same i (by omega)).1] at h
        exact absurd h (find_none hn i (by omega))
      · rw [(E.same i (by omega)).1, (E.same j (by omega)).1] at h
        exact G.names i j (by omega) (by omega) h
  · have : (t.made n ps).now = t.now := by
      have h := congrArg Tree.now (setNow_take (t.add n ps) t.now t.toks.length)
      exact h
    rw [this]; exact G.now
  · unfold Tree.made
    rw [take_dl _ _ _ (by omega), tk_add]
    by_cases e : j = t.toks.length
    · rw [if_pos e]; exact ⟨by simp, by simp⟩
    · rw [if_neg e]; exact G.dl j
  · rw [hlen] at hi
    by_cases e : i = t.toks.length
    · rw [e, hpar]; exact h8
    · rw [(E.same i (by omega)).2]; exact G.pars i (by omega)
end Tree
end Go.Proofs.YtdnkedifjaccoaaDoor.Ce
namespace Go.Proofs.YtdnkedifjaccoaaDoor.Ce
open Go.RowKit Go.Maps Go.Proofs.YtdnkedifjaccoaaDoor Go.Proofs.YtdnkedifjaccoaaDoorW.PrintWords Go.Proofs.YtdnkedifjaccoaaDoorW.PrintLast Go.Proofs.YtdnkedifjaccoaaDoorW.PrintMore PToken
set_option linter.unusedVariables false
set_option linter.unusedSimpArgs false
namespace Tree
/-- The tokens of some names; none where one of them names none. -/
def finds (t : Tree) : List ByteArray → Option (List Nat)
  | [] => some []
  | n :: r => match t.find n with
    | none => none
    | some i => match t.finds r with
      | none => none
      | some l => some (i :: l)
theorem finds_some {t : Tree} : ∀ {ps : List ByteArray} {l : List Nat}, t.finds ps = some l → l.length = ps.length ∧ ∀ p ∈ l, p < t.toks.length
  | [], l, h => by
    have := Option.some.inj h
    subst this
    exact ⟨rfl, fun p hp => absurd hp List.not_mem_nil⟩
  | n :: r, l, h => by
    unfold finds at h
    cases hf : t.find n with
    | none => rw [hf] at h; exact absurd h (by simp)
    | some i =>
      rw [hf] at h
      cases hr : t.finds r with
      | none => rw [hr] at h; exact absurd h (by simp)
      | some m =>
        rw [hr] at h
        have := Option.some.inj h
        subst this
        have ih := finds_some hr
        refine ⟨by simp [ih.1], fun p hp => ?_⟩
        rcases List.mem_cons.1 hp with e | e
        · rw [e]; exact (find_some hf).1
        · exact ih.2 p e
/-- Make. -/
def makeC (t : Tree) (n : ByteArray) (ps : List ByteArray) : Tree :=
  if nameB n = true ∧ t.find n = none ∧ ps.length ≤ 8 ∧ t.toks.length < 256 then
    match t.finds ps with
    | none => t
    | some l => t.made n l
  else t
/-- Cancel. -/
def cancelC (t : Tree) (n : ByteArray) (c : List S56) : Tree := match t.find n with
  | none => t
  | some i => t.cancel i c
def untilT (t : Tree) (i : Nat) (d : Int) : Tree := if (t.tk i).dl < 0 ∨ d < (t.tk i).dl then t.setDl i d else t
/-- Until. -/
def untilC (t : Tree) (n : ByteArray) (d : Int) : Tree := match t.find n with
  | none => t
  | some i => if d < 0 ∨ d > 1099511627776 then t else if ((t.untilT i d).tk i).dl > t.now then t.untilT i d else (t.untilT i d).cancel i lateL
/-- Advance. -/
def advC (t : Tree) (k : Int) : Tree := if k < 0 ∨ k > 1099511627776 - t.now then t else t.tick k
theorem makeC_good {t : Tree} (G : Good t) (n : ByteArray) (ps : List ByteArray) : Good (t.makeC n ps) ∧ Ext t (t.makeC n ps) := by
  unfold makeC
  by_cases h : nameB n = true ∧ t.find n = none ∧ ps.length ≤ 8 ∧ t.toks.length < 256
  · rw [if_pos h]
    cases hf : t.finds ps with
    | none => exact ⟨G, Ext.refl t⟩
    | some l =>
      have := finds_some hf
      exact ⟨G.made n l h.2.1 this.2 h.2.2.2 (by rw [this.1]; exact h.2.2.1), Ext.made t n l⟩
  · rw [if_neg h]; exact ⟨G, Ext.refl t⟩
theorem cancelC_good {t : Tree} (G : Good t) (n : ByteArray) (c : List S56) : Good (t.cancelC n c) ∧ Ext t (t.cancelC n c) := by
  unfold cancelC
  cases hf : t.find n with
  | none => exact ⟨G, Ext.refl t⟩
  | some i => exact ⟨G.cancel i c (find_some hf).1, Ext.cancel t i c (find_some hf).1⟩
theorem untilT_len (t : Tree) (i : Nat) (d : Int) : (t.untilT i d).toks.length = t.toks.length := by
  unfold untilT
  split
  · exact setDl_len _ _ _
  · rfl
theorem untilC_good {t : Tree} (G : Good t) (n : ByteArray) (d : Int) : Good (t.untilC n d) ∧ Ext t (t.untilC n d) := by
  unfold untilC
  cases hf : t.find n with
  | none => exact ⟨G, Ext.refl t⟩
  | some i =>
    have hi := (find_some hf).1
    simp only []
    by_cases h : d < 0 ∨ d > 1099511627776
    · rw [if_pos h]; exact ⟨G, Ext.refl t⟩
    · rw [if_neg h]
      have hu : Good (t.untilT i d) ∧ Ext t (t.untilT i d) := by
        unfold untilT
        split
        · exact ⟨G.setDl i d hi (by omega) (by omega), Ext.setDl t i d hi⟩
        · exact ⟨G, Ext.refl t⟩
      have hiu : i < (t.untilT i d).toks.length := by rw [untilT_len]; exact hi
      split
      · exact hu
      · exact ⟨hu.1.cancel i _ hiu, hu.2.trans (Ext.cancel _ i _ hiu)⟩
theorem advC_good {t : Tree} (G : Good t) (k : Int) : Good (t.advC k) ∧ Ext t (t.advC k) := by
  unfold advC
  by_cases h : k < 0 ∨ k > 1099511627776 - t.now
  · rw [if_pos h]; exact ⟨G, Ext.refl t⟩
  · rw [if_neg h]; exact ⟨G.tick k (by omega) (by omega), Ext.tick t k⟩
end Tree
end Go.Proofs.YtdnkedifjaccoaaDoor.Ce
namespace Go.Proofs.YtdnkedifjaccoaaDoor.Ce
open Go.RowKit Go.Maps Go.Proofs.YtdnkedifjaccoaaDoor Go.Proofs.YtdnkedifjaccoaaDoorW.PrintWords Go.Proofs.YtdnkedifjaccoaaDoorW.PrintLast Go.Proofs.YtdnkedifjaccoaaDoorW.PrintMore PToken
set_option linter.unusedVariables false
set_option linter.unusedSimpArgs false
structure CallV where
  kind : Int
  n : Int
  name : ByteArray
  names : List ByteArray
  cause : List S56
namespace Tree
def callC (t : Tree) (k : Int) (x : CallV) : Tree := if k = 0 then t.makeC x.name x.names else if k = 1 then t.cancelC x.name x.cause else if k = 2 then t.untilC x.name x.n else if k = 3 then t.advC x.n else t
theorem callC_good {t : Tree} (G : Good t) (k : Int) (x : CallV) : Good (t.callC k x) ∧ Ext t (t.callC k x) := by
  unfold callC
  split
  · exact makeC_good G _ _
  · split
    · exact cancelC_good G _ _
    · split
      · exact untilC_good G _ _
      · split
        · exact advC_good G _
        · exact ⟨G, Ext.refl t⟩
/-- Calls, with a kind of each. -/
def playC (f : CallV → Int) : Tree → List CallV → Tree
  | t, [] => t
  | t, x :: r => playC f (t.callC (f x) x) r
theorem playC_good (f : CallV → Int) : ∀ (l : List CallV) {t : Tree}, Good t → Good (playC f t l) ∧ Ext t (playC f t l)
  | [], t, G => ⟨G, Ext.refl t⟩
  | x :: r, t, G => by
    have h := callC_good G (f x) x
    have k := playC_good f r h.1
    exact ⟨k.1, h.2.trans k.2⟩
theorem ext_order {t u : Tree} (E : Ext t u) : u.ord.take t.ord.length = t.ord := by
  obtain ⟨m, h⟩ := E.ord
  rw [← h, List.take_left]
/-- What is cancelled stays so, with its failure, in its place. -/
theorem stays {t u : Tree} (G : Good t) (E : Ext t u) (j : Nat) (hj : j < t.ord.length) :
    j < u.ord.length ∧ u.ord.getD j 0 = t.ord.getD j 0 ∧ (u.tk (t.ord.getD j 0)).done = true ∧ (u.tk (t.ord.getD j 0)).why = (t.tk (t.ord.getD j 0)).why ∧ (u.tk (t.ord.getD j 0)).name = (t.tk (t.ord.getD j 0)).name := by
  have hm : t.ord.getD j 0 ∈ t.ord := by rw [List.getD_eq_getElem?_getD, List.getElem?_eq_getElem hj]; exact List.getElem_mem hj
  have h := (G.wf.ord _).1 hm
  obtain ⟨m, hm'⟩ := E.ord
  have hd := E.done _ h.1 h.2
  refine ⟨by rw [← hm', List.length_append]; omega, ?_, hd.1, hd.2, (E.same _ h.1).1⟩
  rw [← hm', List.getD_eq_getElem?_getD, List.getD_eq_getElem?_getD, List.getElem?_append_left hj]
end Tree
end Go.Proofs.YtdnkedifjaccoaaDoor.Ce
