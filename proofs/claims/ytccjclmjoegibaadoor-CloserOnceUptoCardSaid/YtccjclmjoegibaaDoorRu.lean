/- Whom each part uses, at once or by way of others: a stack of those that are still to be looked at, in plain Lean. -/
import Derived.Test.YtccjclmjoegibaaDoorOm
namespace Go.Proofs.YtccjclmjoegibaaDoor.Ce
open Go.RowKit Go.Maps Go.Proofs.YtccjclmjoegibaaDoor Go.Proofs.YtccjclmjoegibaaDoorW.PrintWords Go.Proofs.YtccjclmjoegibaaDoorW.PrintLast Go.Proofs.YtccjclmjoegibaaDoorW.PrintMore PCloserOrders Hp
set_option linter.unusedVariables false
set_option linter.unusedSimpArgs false
/-- Whom a part uses. -/
abbrev usesOf (l : List S33) (a : Int) : List Int := (rd_T33 l a).f4
inductive Rch (l : List S33) : Int → Int → Prop
  | one {a b : Int} : b ∈ usesOf l a → Rch l a b
  | more {a b c : Int} : Rch l a b → c ∈ usesOf l b → Rch l a c
theorem Rch.trans {l : List S33} {a b c : Int} (h : Rch l a b) (k : Rch l b c) : Rch l a c := by
  induction k with
  | one q => exact .more h q
  | more _ q ih => exact .more ih q
def Valid (l : List S33) : Prop := ∀ a : Int, 0 ≤ a → a < l.length → ∀ x ∈ usesOf l a, 0 ≤ x ∧ x < l.length
theorem Rch.rng {l : List S33} (V : Valid l) {a b : Int} (h : Rch l a b) (a0 : 0 ≤ a) (a1 : a < l.length) : 0 ≤ b ∧ b < l.length := by
  induction h with
  | one q => exact V _ a0 a1 _ q
  | more _ q ih => exact V _ ih.1 ih.2 _ q
/-- How many uses those hold that have not been seen. -/
def unS (l : List S33) (row : List Bool) : Nat → Nat
  | 0 => 0
  | j + 1 => unS l row j + (if rdOf false row (j : Int) = true then 0 else (usesOf l (j : Int)).length)
theorem rdOf_set (row : List Bool) (b : Int) (x : Bool) (k : Int) (hb : b.toNat < row.length) (h0 : 0 ≤ b) (hk : 0 ≤ k) : rdOf false (row.set b.toNat x) k = if k = b then x else rdOf false row k := by
  unfold rdOf
  by_cases e : k = b
  · subst e; simp [hb]
  · rw [if_neg e]
    have : b.toNat ≠ k.toNat := by omega
    simp [List.getD, List.getElem?_set_ne this]
theorem unS_set (l : List S33) (row : List Bool) (b : Int) (h0 : 0 ≤ b) (hb : b.toNat < row.length) (hf : rdOf false row b = false) : ∀ n : Nat, unS l (row.set b.toNat true) n + (if b < n then (usesOf l b).length else 0) = unS l row n
  | 0 => by rw [if_neg (by omega)]; rfl
  | n + 1 => by
    have ih := unS_set l row b h0 hb hf n
    rw [unS, unS, rdOf_set _ _ _ _ hb h0 (by omega)]
    by_cases e : (n : Int) = b
    · subst e
      have h9 : ((n : Int) < ((n + 1 : Nat) : Int)) := by omega
      rw [if_neg (show ¬ (n : Int) < (n : Int) by omega)] at ih
      simp only [if_true, hf, Bool.false_eq_true, if_false]
      rw [if_pos h9]
      omega
    · simp only [if_neg e]
      by_cases hlt : b < (n : Int)
      · rw [if_pos hlt] at ih
        rw [if_pos (show b < ((n + 1 : Nat) : Int) by omega)]
        omega
      · rw [if_neg hlt] at ih
        rw [if_neg (show ¬ b < ((n + 1 : Nat) : Int) by omega)]
        omega
theorem unS_le (l : List S33) (row : List Bool) : ∀ n, unS l row n ≤ unS l [] n
  | 0 => Nat.le_refl _
  | n + 1 => by
    have := unS_le l row n
    rw [unS, unS]
    have h2 : rdOf false ([] : List Bool) (n : Int) = false := by simp [rdOf]
    rw [h2, if_neg (show ¬ false = true by decide)]
    split <;> omega
theorem unS_one (l : List S33) (k : Int) (h0 : 0 ≤ k) : ∀ n : Nat, k < n → (usesOf l k).length ≤ unS l [] n
  | 0, h => by omega
  | n + 1, h => by
    rw [unS]
    have h2 : rdOf false ([] : List Bool) (n : Int) = false := by simp [rdOf]
    rw [h2, if_neg (show ¬ false = true by decide)]
    by_cases e : k = n
    · subst e; omega
    · have := unS_one l k h0 n (by omega); omega
structure DI (l : List S33) (i : Int) (row : List Bool) (todo : List Int) : Prop where
  rl : row.length = l.length
  tr : ∀ x ∈ todo, Rch l i x
  rr : ∀ k : Int, 0 ≤ k → k < l.length → rdOf false row k = true → Rch l i k
  c0 : ∀ x ∈ usesOf l i, rdOf false row x = true ∨ x ∈ todo
  c1 : ∀ k : Int, 0 ≤ k → k < l.length → rdOf false row k = true → ∀ x ∈ usesOf l k, rdOf false row x = true ∨ x ∈ todo
theorem DI.start (l : List S33) (i : Int) : DI l i (List.replicate l.length false) (usesOf l i) := by
  have hf : ∀ k : Int, rdOf false (List.replicate l.length false) k = false := fun k => by
    unfold rdOf
    simp [List.getD, List.getElem?_replicate]
    split <;> rfl
  exact ⟨by simp, fun x hx => .one hx, fun k _ _ h => by rw [hf] at h; exact absurd h (by decide), fun x hx => .inr hx, fun k _ _ h => by rw [hf] at h; exact absurd h (by decide)⟩
theorem take_last' (todo : List Int) (hp : 0 < todo.length) : todo = todo.take (todo.length - 1) ++ [at_ todo (todo.length - 1)] := take_last todo (todo.length - 1) (by omega)
theorem DI.top {l : List S33} {i : Int} {row : List Bool} {todo : List Int} (D : DI l i row todo) (hp : 0 < todo.length) : Rch l i (at_ todo (todo.length - 1)) :=
  D.tr _ (by rw [at_get todo _ (by omega)]; exact List.getElem_mem _)
theorem mem_split {todo : List Int} (hp : 0 < todo.length) {x : Int} (hx : x ∈ todo) : x ∈ todo.take (todo.length - 1) ∨ x = at_ todo (todo.length - 1) := by
  rw [take_last' todo hp] at hx
  rcases List.mem_append.1 hx with q | q
  · exact .inl q
  · exact .inr (List.mem_singleton.1 q)
theorem DI.seen {l : List S33} {i : Int} {row : List Bool} {todo : List Int} (D : DI l i row todo) (hp : 0 < todo.length) (hs : rdOf false row (at_ todo (todo.length - 1)) = true) : DI l i row (todo.take (todo.length - 1)) := by
  have go : ∀ x, rdOf false row x = true ∨ x ∈ todo → rdOf false row x = true ∨ x ∈ todo.take (todo.length - 1) := fun x h => by
    rcases h with h | h
    · exact .inl h
    · rcases mem_split hp h with q | q
      · exact .inr q
      · rw [q]; exact .inl hs
  exact ⟨D.rl, fun x hx => D.tr x (List.mem_of_mem_take hx), D.rr, fun x hx => go x (D.c0 x hx), fun k h0 h1 h2 x hx => go x (D.c1 k h0 h1 h2 x hx)⟩
theorem DI.fresh {l : List S33} (V : Valid l) {i : Int} (i0 : 0 ≤ i) (i1 : i < l.length) {row : List Bool} {todo : List Int} (D : DI l i row todo) (hp : 0 < todo.length) (hs : rdOf false row (at_ todo (todo.length - 1)) = false) :
    DI l i (row.set (at_ todo (todo.length - 1)).toNat true) (todo.take (todo.length - 1) ++ usesOf l (at_ todo (todo.length - 1))) := by
  have ht := D.top hp
  obtain ⟨b0, b1⟩ := ht.rng V i0 i1
  obtain ⟨b, hbe⟩ : ∃ b, b = at_ todo (todo.length - 1) := ⟨_, rfl⟩
  rw [← hbe] at ht b0 b1 hs ⊢
  have hset := fun k (hk : 0 ≤ k) => rdOf_set row b true k (by have := D.rl; omega) b0 hk
  have up : ∀ x, 0 ≤ x → rdOf false row x = true → rdOf false (row.set b.toNat true) x = true := fun x h0 h => by rw [hset x h0]; split <;> first | rfl | exact h
  have hb : rdOf false (row.set b.toNat true) b = true := by rw [hset b b0, if_pos rfl]
  have go : ∀ x, 0 ≤ x → rdOf false row x = true ∨ x ∈ todo → rdOf false (row.set b.toNat true) x = true ∨ x ∈ todo.take (todo.length - 1) ++ usesOf l b := fun x h0 h => by
    rcases h with h | h
    · exact .inl (up x h0 h)
    · by_cases e : x = b
      · rw [e]; exact .inl hb
      · rcases mem_split hp h with q | q
        · exact .inr (List.mem_append_left _ q)
        · exact absurd (q.trans hbe.symm) e
  refine ⟨by rw [List.length_set]; exact D.rl, fun x hx => ?_, fun k h0 h1 h2 => ?_, fun x hx => go x (V i i0 i1 x hx).1 (D.c0 x hx), fun k h0 h1 h2 x hx => ?_⟩
  · rcases List.mem_append.1 hx with q | q
    · exact D.tr x (List.mem_of_mem_take q)
    · exact .more ht q
  · rw [hset k h0] at h2
    by_cases e : k = b
    · rw [e]; exact ht
    · rw [if_neg e] at h2; exact D.rr k h0 h1 h2
  · rw [hset k h0] at h2
    by_cases e : k = b
    · rw [e] at hx; exact .inr (List.mem_append_right _ hx)
    · rw [if_neg e] at h2
      exact go x (V k h0 h1 x hx).1 (D.c1 k h0 h1 h2 x hx)
theorem DI.done {l : List S33} (V : Valid l) {i : Int} (i0 : 0 ≤ i) (i1 : i < l.length) {row : List Bool} (D : DI l i row []) : ∀ k : Int, 0 ≤ k → k < l.length → (rdOf false row k = true ↔ Rch l i k) := by
  have hall : ∀ k, Rch l i k → rdOf false row k = true := fun k h => by
    induction h with
    | one q =>
      rcases D.c0 _ q with z | z
      · exact z
      · exact absurd z (by simp)
    | more h q ih =>
      obtain ⟨a0, a1⟩ := h.rng V i0 i1
      rcases D.c1 _ a0 a1 ih _ q with z | z
      · exact z
      · exact absurd z (by simp)
  exact fun k h0 h1 => ⟨D.rr k h0 h1, hall k⟩
end Go.Proofs.YtccjclmjoegibaaDoor.Ce
