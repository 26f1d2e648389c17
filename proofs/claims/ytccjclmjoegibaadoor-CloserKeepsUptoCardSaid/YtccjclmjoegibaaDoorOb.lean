/- What lies in memory while the ready parts of one scope are put in order. Whom each part uses, at once or by way of others: a stack of those that are still to be looked at, in plain Lean. The ready parts of one scope are put in order: the walk. -/
import Derived.Test.YtccjclmjoegibaaDoorHa
namespace Go.Proofs.YtccjclmjoegibaaDoor.Ce
open Go.RowKit Go.Maps Go.Proofs.YtccjclmjoegibaaDoor Go.Proofs.YtccjclmjoegibaaDoorW.PrintWords Go.Proofs.YtccjclmjoegibaaDoorW.PrintLast Go.Proofs.YtccjclmjoegibaaDoorW.PrintMore PCloserOrders Hp
set_option linter.unusedVariables false
set_option linter.unusedSimpArgs false

/-- The ready parts of a scope, of the first i. -/
def allF (l : List S33) (s : Int) : Nat → List Int
 | 0 => []
 | i + 1 => if (rd_T33 l (i : Int)).f2 = true ∧ (rd_T33 l (i : Int)).f0 = s then allF l s i ++ [(i : Int)] else allF l s i
theorem allF_mem (l : List S33) (s : Int) (x : Int) : ∀ i, x ∈ allF l s i ↔ 0 ≤ x ∧ x < i ∧ (rd_T33 l x).f2 = true ∧ (rd_T33 l x).f0 = s
 | 0 => by simp [allF]; omega
 | i + 1 => by
  rw [allF]
  by_cases h : (rd_T33 l (i : Int)).f2 = true ∧ (rd_T33 l (i : Int)).f0 = s
  ·rw [if_pos h, List.mem_append, allF_mem l s x i, List.mem_singleton]
   constructor
   ·rintro (⟨h1, h2, h3⟩ | rfl)
    ·exact ⟨h1, by omega, h3⟩
    ·exact ⟨by omega, by omega, h⟩
   ·rintro ⟨h1, h2, h3⟩
    by_cases e : x = i
    ·exact .inr e
    ·exact .inl ⟨h1, by omega, h3⟩
  ·rw [if_neg h, allF_mem l s x i]
   constructor
   ·rintro ⟨h1, h2, h3⟩; exact ⟨h1, by omega, h3⟩
   ·rintro ⟨h1, h2, h3⟩
    refine ⟨h1, ?_, h3⟩
    by_cases e : x = i
    ·subst e; exact absurd h3 h
    ·omega
theorem allF_len (l : List S33) (s : Int) : ∀ i, (allF l s i).length ≤ i
 | 0 => Nat.le_refl _
 | i + 1 => by
  have := allF_len l s i
  rw [allF]
  split <;> simp <;> omega
theorem allF_nodup (l : List S33) (s : Int) : ∀ i, (allF l s i).Nodup
 | 0 => List.nodup_nil
 | i + 1 => by
  have := allF_nodup l s i
  rw [allF]
  split
  ·rw [List.nodup_append]
   refine ⟨this, by simp, fun x hx y hy => ?_⟩
   rw [allF_mem] at hx
   rw [List.mem_singleton.1 hy]
   omega
  ·exact this
theorem allF_alls (l : List S33) (s : Int) (hl : l.length ≤ 256) : Alls l.length (allF l s l.length) :=
 ⟨allF_nodup l s _, fun x hx => by have := (allF_mem l s x _).1 hx; omega, by have := allF_len l s l.length; omega⟩
/-- a uses b, at once or by way of others, and does not go round with it. -/
def relP (use : List (List Bool)) (a b : Int) : Bool := rdOf false (rd_L6 use a) b && !rdOf false (rd_L6 use b) a

def okV (N : Nat) (vo : Value) (k : Nat) : Prop := N ≤ k ∧ some k ≠ vo.ownBlock
structure OI (w wr : World) (hb N : Nat) (A : Option Addr) (c : Nat) (l : List S33) (va vl vh vo : Value) (all L h out : List Int) : Prop where
 hs : HS w wr hb (okV N vo) A c l vh h
 a : Kd.R (Kd.int .i64) 3 wr w.heap.size (fun k => k < N) va all
 lf : Kd.R (Kd.int .i64) 3 wr w.heap.size (fun k => k < N ∧ some k ≠ va.ownBlock) vl L
 o : Kd.R (Kd.int .i64) 3 wr w.heap.size (fun k => N ≤ k) vo out
 hbN : hb < N
 sz : N ≤ wr.heap.size
section
variable {w wr : World} {hb N : Nat} {A : Option Addr} {c : Nat} {l : List S33} {va vl vh vo : Value} {all L h out : List Int}
theorem OI.below {w2 : World} (H : OI w wr hb N A c l va vl vh vo all L h out) (hc : Below wr.heap.size wr w2) : OI w w2 hb N A c l va vl vh vo all L h out :=
 ⟨H.hs.below hc, Kd.R_below H.a hc, Kd.R_below H.lf hc, Kd.R_below H.o hc, H.hbN, Nat.le_trans H.sz hc.size⟩
theorem OI.olt (H : OI w wr hb N A c l va vl vh vo all L h out) : ∀ k, vo.ownBlock = some k → k < wr.heap.size ∧ N ≤ k := fun k hk => ⟨Kd.R_lt H.o k hk, H.o.1 k hk⟩
theorem OI.heaped {w2 : World} {v' : Value} {h' : List Int} (H : OI w wr hb N A c l va vl vh vo all L h out) (hs : HS w w2 hb (okV N vo) A c l v' h') (hc : Chg (fun k => k = hb ∨ okV N vo k) wr w2) : OI w w2 hb N A c l va vl v' vo all L h' out := by
 refine ⟨hs, ?_, ?_, ?_, H.hbN, Nat.le_trans H.sz hc.size⟩
 ·have h1 := Kd.R_types H.a H.hs.blk (by decide)
  exact Kd.R_mono (Kd.R_step h1 (fun k ho hlt => hc.block k hlt (fun q => q.elim (fun q => ho.2 q) (fun q => by have := q.1; have := ho.1; omega)))) (fun k q => q.1)
 ·have h1 := Kd.R_types H.lf H.hs.blk (by decide)
  exact Kd.R_mono (Kd.R_step h1 (fun k ho hlt => hc.block k hlt (fun q => q.elim (fun q => ho.2 q) (fun q => by have := q.1; have := ho.1.1; omega)))) (fun k q => q.1)
 ·have h1 := Kd.R_tight rfl H.o
  have h2 := Kd.R_step h1 (fun k ho hlt => hc.block k hlt (fun q => q.elim (fun q => by have := (H.olt k ho.symm).2; have := H.hbN; omega) (fun q => q.2 ho)))
  exact Kd.R_mono h2 (fun k q => (H.olt k q.symm).2)
theorem OI.pushed {w2 : World} {v' : Value} {h' : List Int} (H : OI w wr hb N A c l va vl vh vo all L h out) (hs : HS w w2 hb (fun k => okV N vo k ∨ wr.heap.size ≤ k) A c l v' h') (hc : Chg (fun k => k = hb ∨ okV N vo k) wr w2) : OI w w2 hb N A c l va vl v' vo all L h' out :=
 H.heaped ⟨hs.blk, Kd.R_mono hs.row (fun k q => q.elim id (fun q => ⟨Nat.le_trans H.sz q, fun e => by have := (H.olt k e.symm).1; omega⟩)), hs.bel, hs.hb, hs.parts, hs.rng⟩ hc
theorem OI.appended {w7 : World} {vo' : Value} {out' : List Int} (H : OI w wr hb N A c l va vl vh vo all L h out) (hr : Kd.R (Kd.int .i64) 3 w7 w.heap.size (fun k => N ≤ k) vo' out') (hb7 : Below w.heap.size w w7) (hg : wr.grownBy w7 vo.ownBlock) (hat : vo'.ownBlock = vo.ownBlock ∨ ∃ b, vo'.ownBlock = some b ∧ wr.heap.size ≤ b) : OI w w7 hb N A c l va vl vh vo' all L h out' := by
 have hno : ∀ k, k < N → some k ≠ vo.ownBlock := fun k hk e => by have := (H.olt k e.symm).2; omega
 refine ⟨⟨(hg.block hb (blk_lt H.hs.blk) (hno hb H.hbN)).trans H.hs.blk, ?_, hb7, H.hs.hb, H.hs.parts, H.hs.rng⟩, Kd.R_grown H.a hg hno, Kd.R_grown H.lf hg (fun k hk => hno k hk.1), hr, H.hbN, Nat.le_trans H.sz hg.size⟩
 have h1 := Kd.R_bound H.hs.row
 have h2 := Kd.R_step h1 (fun k ho hlt => hg.block k hlt ho.1.2)
 refine Kd.R_mono h2 (fun k q => ⟨q.1.1, fun e => ?_⟩)
 rcases hat with hat | ⟨b, hb1, hb2⟩
 ·exact q.1.2 (e.trans hat)
 ·rw [hb1] at e
  injection e with e
  have := q.2.2.1
  omega
theorem OI.put {gl n cap : Nat} {b x : Int} (H : OI w wr hb N A c l va (.slice (some ⟨gl, 0, none⟩) n cap) vh vo all L h out) : OI w (wr.setCell ⟨gl, b.toNat, none⟩ (.int .i64 x)) hb N A c l va (.slice (some ⟨gl, 0, none⟩) n cap) vh vo all (L.set b.toNat x) h out := by
 have hgl := H.lf.1 gl rfl
 obtain ⟨cs, hcs⟩ := Kd.R_typed H.lf gl rfl
 have hne : hb ≠ gl := fun e => by
  rw [← e, H.hs.blk] at hcs
  injection hcs with hcs
  injection hcs with _ h2 _
  exact absurd h2 (by decide)
 have hc : Chg (· = gl) wr (wr.setCell ⟨gl, b.toNat, none⟩ (.int .i64 x)) := (Chg.refl (· = gl) wr).setCell (p := ⟨gl, b.toNat, none⟩) rfl _
 have hbase := Kd.R_base H.lf gl rfl
 refine ⟨⟨blk_chg H.hs.blk hc hne, Kd.R_far H.hs.row (p := ⟨gl, b.toNat, none⟩) (fun k hk e => by have := hk.1; have := hgl.1; have : k = gl := e; omega) _, Chg.below H.hs.bel hc (fun k e => by omega) H.hs.bel.size, H.hs.hb, H.hs.parts, H.hs.rng⟩, ?_, Kd.R_putn H.lf b x, Kd.R_far H.o (p := ⟨gl, b.toNat, none⟩) (fun k hk e => by have := hgl.1; have : k = gl := e; omega) _, H.hbN, Nat.le_trans H.sz hc.size⟩
 have h1 := Kd.R_tight rfl H.a
 have h2 := Kd.R_far h1 (p := ⟨gl, b.toNat, none⟩) (fun k hk e => hgl.2 (by rw [← hk]; exact congrArg some (show gl = k from (show k = gl from e).symm))) (.int .i64 x)
 exact Kd.R_mono h2 (fun k q => H.a.1 k q.symm)
theorem OI.acell (H : OI w wr hb N A c l va vl vh vo all L h out) (hp : 0 < all.length) : ∃ g cap, va = .slice (some ⟨g, 0, none⟩) all.length cap := by
 obtain ⟨g, cap, e, _⟩ := Kd.R_form H.a hp
 exact ⟨g, cap, e⟩
theorem OI.aread {g cap n : Nat} (H : OI w wr hb N A c l (.slice (some ⟨g, 0, none⟩) n cap) vl vh vo all L h out) (j : Nat) (hj : j < all.length) : wr.cell? ⟨g, j, none⟩ = some (.int .i64 (at_ all j)) := by
 have hn := (Kd.R_reads' H.a).1
 exact (Kd.R_celln (0 : Int) H.a (j : Int) (by omega) (by omega)).1
theorem OI.lcell (H : OI w wr hb N A c l va vl vh vo all L h out) (hp : 0 < L.length) : ∃ g cap, vl = .slice (some ⟨g, 0, none⟩) L.length cap := by
 obtain ⟨g, cap, e, _⟩ := Kd.R_form H.lf hp
 exact ⟨g, cap, e⟩
theorem OI.lread {g cap n : Nat} (H : OI w wr hb N A c l va (.slice (some ⟨g, 0, none⟩) n cap) vh vo all L h out) (b : Int) (h0 : 0 ≤ b) (hb : b < L.length) : wr.cell? ⟨g, b.toNat, none⟩ = some (.int .i64 (rd L b)) ∧ wr.frozen? ⟨g, b.toNat, none⟩ = false := by
 have hn := (Kd.R_reads' H.lf).1
 exact Kd.R_celln (0 : Int) H.lf b h0 (by omega)
end
theorem OI.init {w wr w5 : World} {A : Option Addr} {c : Nat} {l : List S33} {va vl : Value} {all L : List Int} (hp : Kd.C k33 w A l.length l) (hb : Below w.heap.size w wr) (ha : Kd.R (Kd.int .i64) 3 wr w.heap.size (fun _ => True) va all) (hb5 : Below wr.heap.size wr w5) (hl : Kd.R (Kd.int .i64) 3 w5 wr.heap.size (fun _ => True) vl L) :
  OI w (w5.alloc (.cells #[.slice none 0 0, .func (.func 51) #[.slice A l.length c] #[]] 76)) w5.heap.size (w5.heap.size + 1) A c l va vl (.slice none 0 0) (.slice none 0 0) all L [] [] := by
 have hal : Below w5.heap.size w5 (w5.alloc (.cells #[.slice none 0 0, .func (.func 51) #[.slice A l.length c] #[]] 76)) := (Below.refl _ _).alloc (Nat.le_refl _) _
 have hw5 := below_step hb hb5
 refine ⟨⟨blk_new _ _, Kd.R_nil _ _ _ _ _, below_step hw5 hal, hw5.size, hp, fun x hx => absurd hx (by simp)⟩, ?_, ?_, Kd.R_nil _ _ _ _ _, Nat.lt_succ_self _, by rw [World.size_alloc]; exact Nat.le_refl _⟩
 ·have h1 := Kd.R_mono (Kd.R_bound ha) (ok' := fun k => k < w5.heap.size + 1) (fun k q => by have := q.2.2.1; have := hb5.size; omega)
  exact Kd.R_below (Kd.R_below h1 hb5) hal
 ·have hva : ∀ k, va.ownBlock = some k → k < wr.heap.size := fun k hk => Kd.R_lt ha k hk
  have h1 := Kd.R_mono (Kd.R_bound hl) (ok' := fun k => k < w5.heap.size + 1 ∧ some k ≠ va.ownBlock) (fun k q => ⟨by have := q.2.2.1; omega, fun e => by have := hva k e.symm; have := q.2.1; omega⟩)
  exact Kd.R_lower (Kd.R_below h1 hal) hb.size
theorem use_at {w : World} {U : Option Addr} {use : List (List Bool)} (hu : Kd.C (Kd.slice 4 Kd.bool) w U use.length use) (a b : Int) (a0 : 0 ≤ a) (a1 : a < use.length) (b0 : 0 ≤ b) (b1 : b < (rd_L6 use a).length) :
  ∃ ad ad2 c0, U = some ad ∧ w.cell? (ad.add a.toNat) = some (.slice (some ad2) (rd_L6 use a).length c0) ∧ w.cell? (ad2.add b.toNat) = some (.bool (rdOf false (rd_L6 use a) b)) := by
 obtain ⟨ad, A0, c0, e, h1, h2, h3⟩ := at_L6 hu a a0 a1
 obtain ⟨ad2, e2, h4⟩ := Kd.at_bool h3 b b0 b1
 subst e2
 exact ⟨ad, ad2, c0, e, h1, h4⟩
theorem drop_at (l : List Int) (j : Nat) (hj : j < l.length) : l.drop j = at_ l j :: l.drop (j + 1) := by
 rw [List.drop_eq_getElem_cons hj, at_get l j hj]
theorem upL_len (lt : Int → Int → Bool) : ∀ (j : Nat) (h : List Int), (upL lt h j).length = h.length := by
 intro j
 induction j using Nat.strongRecOn with
 | _ j ih =>
  intro h
  unfold upL
  split
  ·rfl
  ·split
   ·rw [ih (par j) (par_lt (by omega)), swap_len]
   ·rfl
theorem pushL_len (lt : Int → Int → Bool) (h : List Int) (x : Int) : (pushL lt h x).length = h.length + 1 := by
 unfold pushL
 rw [upL_len]
 simp
end Go.Proofs.YtccjclmjoegibaaDoor.Ce
namespace Go.Proofs.YtccjclmjoegibaaDoor.Ce
open Go.RowKit Go.Maps Go.Proofs.YtccjclmjoegibaaDoor Go.Proofs.YtccjclmjoegibaaDoorW.PrintWords Go.Proofs.YtccjclmjoegibaaDoorW.PrintLast Go.Proofs.YtccjclmjoegibaaDoorW.PrintMore PCloserOrders Hp
set_option linter.unusedVariables false
set_option linter.unusedSimpArgs false
/-- Whom a part uses. -/
abbrev usesOf (l : List S33) (a : Int) : List Int := (rd_T33 l a).f4
inductive Rch (l : List S33) : Int → Int → Prop
 | one {a b : Int} : b ∈ usesOf l a → Rch l a b
 | more {a b c : Int} : Rch l a b → c ∈ usesOf l b → Rch l a c
theorem Rch.trans {l : List S33} {a b c : Int} (h : Rch l a b) (k : Rch l b c) : Rch l a c := by
 induction k with
 | one q => exact .more h q
 | more _ q ih => exact .more ih q
def Valid (l : List S33) : Prop := ∀ a : Int, 0 ≤ a → a < l.length → ∀ x ∈ usesOf l a, 0 ≤ x ∧ x < l.length
theorem Rch.rng {l : List S33} (V : Valid l) {a b : Int} (h : Rch l a b) (a0 : 0 ≤ a) (a1 : a < l.length) : 0 ≤ b ∧ b < l.length := by
 induction h with
 | one q => exact V _ a0 a1 _ q
 | more _ q ih => exact V _ ih.1 ih.2 _ q
/-- How many uses those hold that have not been seen. -/
def unS (l : List S33) (row : List Bool) : Nat → Nat
 | 0 => 0
 | j + 1 => unS l row j + (if rdOf false row (j : Int) = true then 0 else (usesOf l (j : Int)).length)
theorem rdOf_set (row : List Bool) (b : Int) (x : Bool) (k : Int) (hb : b.toNat < row.length) (h0 : 0 ≤ b) (hk : 0 ≤ k) : rdOf false (row.set b.toNat x) k = if k = b then x else rdOf false row k := by
 unfold rdOf
 by_cases e : k = b
 ·subst e; simp [hb]
 ·rw [if_neg e]
  have : b.toNat ≠ k.toNat := by omega
  simp [List.getD, List.getElem?_set_ne this]
theorem unS_set (l : List S33) (row : List Bool) (b : Int) (h0 : 0 ≤ b) (hb : b.toNat < row.length) (hf : rdOf false row b = false) : ∀ n : Nat, unS l (row.set b.toNat true) n + (if b < n then (usesOf l b).length else 0) = unS l row n
 | 0 => by rw [if_neg (by omega)]; rfl
 | n + 1 => by
  have ih := unS_set l row b h0 hb hf n
  rw [unS, unS, rdOf_set _ _ _ _ hb h0 (by omega)]
  by_cases e : (n : Int) = b
  ·subst e
   have h9 : ((n : Int) < ((n + 1 : Nat) : Int)) := by omega
   rw [if_neg (show ¬ (n : Int) < (n : Int) by omega)] at ih
   simp only [if_true, hf, Bool.false_eq_true, if_false]
   rw [if_pos h9]
   omega
  ·simp only [if_neg e]
   by_cases hlt : b < (n : Int)
   ·rw [if_pos hlt] at ih
    rw [if_pos (show b < ((n + 1 : Nat) : Int) by omega)]
    omega
   ·rw [if_neg hlt] at ih
    rw [if_neg (show ¬ b < ((n + 1 : Nat) : Int) by omega)]
    omega
theorem unS_le (l : List S33) (row : List Bool) : ∀ n, unS l row n ≤ unS l [] n
 | 0 => Nat.le_refl _
 | n + 1 => by
  have := unS_le l row n
  rw [unS, unS]
  have h2 : rdOf false ([] : List Bool) (n : Int) = false := by simp [rdOf]
  rw [h2, if_neg (show ¬ false = true by decide)]
  split <;> omega
theorem unS_one (l : List S33) (k : Int) (h0 : 0 ≤ k) : ∀ n : Nat, k < n → (usesOf l k).length ≤ unS l [] n
 | 0, h => by omega
 | n + 1, h => by
  rw [unS]
  have h2 : rdOf false ([] : List Bool) (n : Int) = false := by simp [rdOf]
  rw [h2, if_neg (show ¬ false = true by decide)]
  by_cases e : k = n
  ·subst e; omega
  ·have := unS_one l k h0 n (by omega); omega
structure DI (l : List S33) (i : Int) (row : List Bool) (todo : List Int) : Prop where
 rl : row.length = l.length
 tr : ∀ x ∈ todo, Rch l i x
 rr : ∀ k : Int, 0 ≤ k → k < l.length → rdOf false row k = true → Rch l i k
 c0 : ∀ x ∈ usesOf l i, rdOf false row x = true ∨ x ∈ todo
 c1 : ∀ k : Int, 0 ≤ k → k < l.length → rdOf false row k = true → ∀ x ∈ usesOf l k, rdOf false row x = true ∨ x ∈ todo
theorem DI.start (l : List S33) (i : Int) : DI l i (List.replicate l.length false) (usesOf l i) := by
 have hf : ∀ k : Int, rdOf false (List.replicate l.length false) k = false := fun k => by
  unfold rdOf
  simp [List.getD, List.getElem?_replicate]
  split <;> rfl
 exact ⟨by simp, fun x hx => .one hx, fun k _ _ h => by rw [hf] at h; exact absurd h (by decide), fun x hx => .inr hx, fun k _ _ h => by rw [hf] at h; exact absurd h (by decide)⟩
theorem take_last' (todo : List Int) (hp : 0 < todo.length) : todo = todo.take (todo.length - 1) ++ [at_ todo (todo.length - 1)] := take_last todo (todo.length - 1) (by omega)
theorem DI.top {l : List S33} {i : Int} {row : List Bool} {todo : List Int} (D : DI l i row todo) (hp : 0 < todo.length) : Rch l i (at_ todo (todo.length - 1)) :=
 D.tr _ (by rw [at_get todo _ (by omega)]; exact List.getElem_mem _)
theorem mem_split {todo : List Int} (hp : 0 < todo.length) {x : Int} (hx : x ∈ todo) : x ∈ todo.take (todo.length - 1) ∨ x = at_ todo (todo.length - 1) := by
 rw [take_last' todo hp] at hx
 rcases List.mem_append.1 hx with q | q
 ·exact .inl q
 ·exact .inr (List.mem_singleton.1 q)
theorem DI.seen {l : List S33} {i : Int} {row : List Bool} {todo : List Int} (D : DI l i row todo) (hp : 0 < todo.length) (hs : rdOf false row (at_ todo (todo.length - 1)) = true) : DI l i row (todo.take (todo.length - 1)) := by
 have go : ∀ x, rdOf false row x = true ∨ x ∈ todo → rdOf false row x = true ∨ x ∈ todo.take (todo.length - 1) := fun x h => by
  rcases h with h | h
  ·exact .inl h
  ·rcases mem_split hp h with q | q
   ·exact .inr q
   ·rw [q]; exact .inl hs
 exact ⟨D.rl, fun x hx => D.tr x (List.mem_of_mem_take hx), D.rr, fun x hx => go x (D.c0 x hx), fun k h0 h1 h2 x hx => go x (D.c1 k h0 h1 h2 x hx)⟩
theorem DI.fresh {l : List S33} (V : Valid l) {i : Int} (i0 : 0 ≤ i) (i1 : i < l.length) {row : List Bool} {todo : List Int} (D : DI l i row todo) (hp : 0 < todo.length) (hs : rdOf false row (at_ todo (todo.length - 1)) = false) :
  DI l i (row.set (at_ todo (todo.length - 1)).toNat true) (todo.take (todo.length - 1) ++ usesOf l (at_ todo (todo.length - 1))) := by
 have ht := D.top hp
 obtain ⟨b0, b1⟩ := ht.rng V i0 i1
 obtain ⟨b, hbe⟩ : ∃ b, b = at_ todo (todo.length - 1) := ⟨_, rfl⟩
 rw [← hbe] at ht b0 b1 hs ⊢
 have hset := fun k (hk : 0 ≤ k) => rdOf_set row b true k (by have := D.rl; omega) b0 hk
 have up : ∀ x, 0 ≤ x → rdOf false row x = true → rdOf false (row.set b.toNat true) x = true := fun x h0 h => by rw [hset x h0]; split <;> first | rfl | exact h
 have hb : rdOf false (row.set b.toNat true) b = true := by rw [hset b b0, if_pos rfl]
 have go : ∀ x, 0 ≤ x → rdOf false row x = true ∨ x ∈ todo → rdOf false (row.set b.toNat true) x = true ∨ x ∈ todo.take (todo.length - 1) ++ usesOf l b := fun x h0 h => by
  rcases h with h | h
  ·exact .inl (up x h0 h)
  ·by_cases e : x = b
   ·rw [e]; exact .inl hb
   ·rcases mem_split hp h with q | q
    ·exact .inr (List.mem_append_left _ q)
    ·exact absurd (q.trans hbe.symm) e
 refine ⟨by rw [List.length_set]; exact D.rl, fun x hx => ?_, fun k h0 h1 h2 => ?_, fun x hx => go x (V i i0 i1 x hx).1 (D.c0 x hx), fun k h0 h1 h2 x hx => ?_⟩
 ·rcases List.mem_append.1 hx with q | q
  ·exact D.tr x (List.mem_of_mem_take q)
  ·exact .more ht q
 ·rw [hset k h0] at h2
  by_cases e : k = b
  ·rw [e]; exact ht
  ·rw [if_neg e] at h2; exact D.rr k h0 h1 h2
 ·rw [hset k h0] at h2
  by_cases e : k = b
  ·rw [e] at hx; exact .inr (List.mem_append_right _ hx)
  ·rw [if_neg e] at h2
   exact go x (V k h0 h1 x hx).1 (D.c1 k h0 h1 h2 x hx)
theorem DI.done {l : List S33} (V : Valid l) {i : Int} (i0 : 0 ≤ i) (i1 : i < l.length) {row : List Bool} (D : DI l i row []) : ∀ k : Int, 0 ≤ k → k < l.length → (rdOf false row k = true ↔ Rch l i k) := by
 have hall : ∀ k, Rch l i k → rdOf false row k = true := fun k h => by
  induction h with
  | one q =>
   rcases D.c0 _ q with z | z
   ·exact z
   ·exact absurd z (by simp)
  | more h q ih =>
   obtain ⟨a0, a1⟩ := h.rng V i0 i1
   rcases D.c1 _ a0 a1 ih _ q with z | z
   ·exact z
   ·exact absurd z (by simp)
 exact fun k h0 h1 => ⟨D.rr k h0 h1, hall k⟩
end Go.Proofs.YtccjclmjoegibaaDoor.Ce
namespace Go.Proofs.YtccjclmjoegibaaDoor.Ce
open Go.RowKit Go.Maps Go.Proofs.YtccjclmjoegibaaDoor Go.Proofs.YtccjclmjoegibaaDoorW.PrintWords Go.Proofs.YtccjclmjoegibaaDoorW.PrintLast Go.Proofs.YtccjclmjoegibaaDoorW.PrintMore PCloserOrders Hp
attribute [local go_sem] max2_int min2_int max_two min_two max_three min_three max_four min_four
set_option linter.unusedVariables false
set_option linter.unusedSimpArgs false
theorem part_at {w : World} {A : Option Addr} {n : Nat} {l : List S33} (h : Kd.C k33 w A n l) (i : Nat) (hi : i < n) : ∃ ad A4 c4, A = some ad ∧ w.cell? (ad.add (i * 7)) = some (.int .i64 (rd_T33 l (i : Int)).f0) ∧ w.cell? ⟨(ad.add (i * 7)).block, (ad.add (i * 7)).off + 1, none⟩ = some (.string (rd_T33 l (i : Int)).f1) ∧ w.cell? ⟨(ad.add (i * 7)).block, (ad.add (i * 7)).off + 2, none⟩ = some (.bool (rd_T33 l (i : Int)).f2) ∧ w.cell? ⟨(ad.add (i * 7)).block, (ad.add (i * 7)).off + 3, none⟩ = some (.int .i64 (rd_T33 l (i : Int)).f3) ∧ w.cell? ⟨(ad.add (i * 7)).block, (ad.add (i * 7)).off + 4, none⟩ = some (.slice A4 (rd_T33 l (i : Int)).f4.length c4) ∧ w.cell? ⟨(ad.add (i * 7)).block, (ad.add (i * 7)).off + 5, none⟩ = some (.int .i64 (rd_T33 l (i : Int)).f5.f0) ∧ w.cell? ⟨(ad.add (i * 7)).block, (ad.add (i * 7)).off + 6, none⟩ = some (.string (rd_T33 l (i : Int)).f5.f1) ∧ (rd_T33 l (i : Int)).f4.length ≤ c4 ∧ (Kd.int .i64).C w A4 (rd_T33 l (i : Int)).f4.length (rd_T33 l (i : Int)).f4 := by
 obtain ⟨ad, A4, c4, e, h0, h1, h2, h3, h4, h5, h6, h7, h8⟩ := at_T33 h (i : Int) (by omega) (by omega)
 exact ⟨ad, A4, c4, e, h0, h1, h2, h3, h4, h5, h6, h7, h8⟩
set_option maxHeartbeats 8000000 in
set_option maxRecDepth 100000 in
theorem order_is (w : World) (A : Option Addr) (c : Nat) (l : List S33) (s : Int) (U : Option Addr) (cu : Nat) (use : List (List Bool)) (hl : Kd.C k33 w A l.length l) (hlc : l.length ≤ c) (hu : Kd.C (Kd.slice 4 Kd.bool) w U use.length use) (hn : l.length ≤ 256) (hul : use.length = l.length) (hur : ∀ i : Int, 0 ≤ i → i < l.length → (rd_L6 use i).length = l.length) (hac : Acyc (relP use)) :
  Calls Tryd.prog 29 #[.slice A l.length c, .int .i64 s, .slice U use.length cu] w fun e w' => ∃ v out, e = .returned v ∧ Kd.R (Kd.int .i64) 3 w' w.heap.size (fun _ => True) v out ∧ Below w.heap.size w w' ∧ Hp.Good (aheadB l) (relP use) (allF l s l.length) out := by
 have HLP := Lib.hid hl
 have HUP := Lib.hid hu
 have HN := Lib.hid hn
 have HUL := Lib.hid (And.intro hul hur)
 have HAC := Lib.hid hac
 have HLC := Lib.hid hlc
 obtain ⟨al, hal⟩ : ∃ al, al = allF l s l.length := ⟨_, rfl⟩
 have HAL := Lib.hid (show Alls l.length al from hal ▸ allF_alls l s hn)
 have HALL := Lib.hid (show al.length ≤ l.length from hal ▸ allF_len l s l.length)
 have HALE := Lib.hid hal
 rw [← hal]
 clear hl hu hn hul hur hac hlc hal
 go_enter Tryd.func29, Tryd.ntmps29
 go_wp2_with fail
 go_loopg [7, 22] l.length (fun gk v7 v22 wr => ∃ i : Nat, v22 = .int .i64 i ∧ gk = l.length - i ∧ Hid (i ≤ l.length) ∧ Hid (Kd.R (Kd.int .i64) 3 wr w.heap.size (fun _ => True) v7 (allF l s i)) ∧ Hid (Below w.heap.size w wr))
 case atStart => exact ⟨0, rfl, by simp, Lib.hid (Nat.zero_le _), Lib.hid (Kd.R_nil _ _ _ _ _), Lib.hid (Below.refl _ _)⟩
 case round =>
  obtain ⟨i, rfl, rfl, HI, HR, HB⟩ := hrel
  by_cases hlt : i < l.length
  ·obtain ⟨B7, d7, rfl⟩ := Kd.R_slice HR.out
   have hlt' : (i : Int) < (l.length : Int) := by omega
   obtain ⟨ad, A4, c4, rfl, p0, p1, p2, p3, p4, p5, p6, -, -⟩ := part_at (Kd.C_below HLP.out HB.out) i hlt
   have hwi : wrap64 ((i : Int) + 1) = ((i + 1 : Nat) : Int) := by
    have := HN.out
    rw [← i64_w, IntWalk.i64_in _ (by omega)]; omega
   cases hb2 : (rd_T33 l (i : Int)).f2 with
   | false =>
    have HF := Lib.hid (show allF l s (i + 1) = allF l s i by rw [allF, hb2]; simp)
    rw [hb2] at p2
    clear hb2
    go_wp2_with fail
    go_roundg (l.length - (i + 1))
    case measure => omega
    case rel => exact ⟨i + 1, by first | rfl | rw [hwi], rfl, Lib.hid hlt, Lib.hid (by rw [HF.out]; exact Kd.R_alloc HR.out _), Lib.hid (below_alloc HB.out _)⟩
   | true =>
    rw [hb2] at p2
    by_cases hsc : (rd_T33 l (i : Int)).f0 = s
    ·have HF := Lib.hid (show allF l s (i + 1) = allF l s i ++ [(i : Int)] by rw [allF, hb2, hsc]; simp)
     rw [hsc] at p0
     have HLN := Lib.hid (show ((allF l s i).length + 1) * 8 ≤ 140737488355328 by have := allF_len l s i; have := HN.out; omega)
     clear hb2 hsc
     go_upto_region 6 with fail
     obtain ⟨w6, e6, hr6, hb6⟩ : ∃ w6, w6 = wr.alloc (.cells #[.int .i64 s, .string (rd_T33 l (i : Int)).f1, .bool true, .int .i64 (rd_T33 l (i : Int)).f3, .slice A4 (rd_T33 l (i : Int)).f4.length c4, .int .i64 (rd_T33 l (i : Int)).f5.f0, .string (rd_T33 l (i : Int)).f5.f1] 33) ∧ Kd.R (Kd.int .i64) 3 w6 w.heap.size (fun _ => True) (.slice B7 (allF l s i).length d7) (allF l s i) ∧ Below w.heap.size w w6 := ⟨_, rfl, Kd.R_alloc HR.out _, below_alloc HB.out _⟩
     rw [← e6]
     have HR6 := Lib.hid hr6
     have HB6 := Lib.hid hb6
     clear e6 hr6 hb6 p0 p1 p2 p3 p4 p5 p6
     go_wp2_with (first | ((with_reducible refine gate_builtin (b := .append) (xs := #[.tmp 35, .tmp 37]) rfl ?_); (try (refine gate_guard (by rfl) ?_; dsimp only)); at_builtin; refine Kd.R_append (Kd.int .i64) (w0 := w) w.heap.size rfl (.tmp 35) (.tmp 37) 22 3 (.int .i64 0) 8 rfl Tryd.underlying22 info3 rfl (by decide) (by omega) (.slice B7 (allF l s i).length d7) (allF l s i) (i : Int) [.int .i64 (i : Int)] (fun _ => True) (fun _ => False) rfl rfl ?aP (fun _ hk => hk.elim) ?aF ?aO ?aB ?aS ?aL ?_; (case aP => exact rfl); (case aF => exact fun _ _ => trivial); (case aO => exact HR6.out); (case aB => exact HB6.out); (case aS => exact HB6.out.size); (case aL => exact HLN.out); intro v7 w7 ho hb hg hat; have HO := Lib.hid ho; have HB7 := Lib.hid hb; clear ho hb hg hat) | fail)
     go_roundg (l.length - (i + 1))
     case measure => omega
     case rel => exact ⟨i + 1, by first | rfl | rw [hwi], rfl, Lib.hid hlt, Lib.hid (by rw [HF.out]; exact HO.out), HB7⟩
    ·have HF := Lib.hid (show allF l s (i + 1) = allF l s i by rw [allF, if_neg (fun q => hsc q.2)])
     have hsb : ((rd_T33 l (i : Int)).f0 == s) = false := by simpa using hsc
     clear hb2 hsc
     go_wp2_with fail
     go_roundg (l.length - (i + 1))
     case measure => omega
     case rel => exact ⟨i + 1, by first | rfl | rw [hwi], rfl, Lib.hid hlt, Lib.hid (by rw [HF.out]; exact Kd.R_alloc HR.out _), Lib.hid (below_alloc HB.out _)⟩
  ·have hlt' : ¬ (i : Int) < (l.length : Int) := by omega
   have hie : i = l.length := by have := HI.out; omega
   subst hie
   clear hlt'
   rw [← HALE.out] at HR
   obtain ⟨B7, d7, rfl⟩ := Kd.R_slice HR.out
   go_wp2_with (first | ((with_reducible refine gate_dst (N := 42) rfl ?_); refine Kd.R_make (Kd.int .i64) _ 3 rfl (N := 42) rfl 22 _ _ rfl (l.length : Int) rfl rfl Tryd.underlying22 (.int .i64 0) 8 info3 rfl (by decide) (by omega) 0 (ok := fun _ => True) (okp := fun _ => True) rfl (fun _ hk => hk) trivial (by omega) (by have := HN.out; omega) (Below.refl _ _) (Nat.le_refl _) ?_; intro v42 w5 ho hb hg hnew; have HO := Lib.hid ho; have HB5 := Lib.hid hb; clear ho hb hg hnew) | fail)
   have hI := OI.init (c := c) HLP.out HB.out HR.out HB5.out HO.out
   rw [Int.toNat_natCast] at hI
   have HI0 := Lib.hid hI
   clear hI HO HB5 HR HB HI
   obtain ⟨hb, hhb⟩ : ∃ hb, hb = w5.heap.size := ⟨_, rfl⟩
   obtain ⟨N, hN⟩ : ∃ N, N = w5.heap.size + 1 := ⟨_, rfl⟩
   obtain ⟨w6, e6⟩ : ∃ w6, w6 = w5.alloc (.cells #[.slice none 0 0, .func (.func 51) #[.slice A l.length c] #[]] 76) := ⟨_, rfl⟩
   rw [← hN, ← e6, ← hhb] at HI0
   rw [← e6, ← hhb]
   clear hN e6 hhb
   obtain ⟨fin, hfin⟩ : ∃ fin, fin = seed (aheadB l) (relP use) al al (List.replicate l.length 0) [] := ⟨_, rfl⟩
   have HFIN := Lib.hid hfin
   have HKI := Lib.hid (show KI (aheadB l) (relP use) l.length al fin.1 fin.2 [] from hfin ▸ seed_ok (ahead_ord l) HAL.out)
   clear hfin
   go_loopg [49] al.length (fun gk v49 wr => ∃ (m : Nat) (vh : Value) (L h : List Int), v49 = .int .i64 m ∧ gk = al.length - m ∧ Hid (m ≤ al.length ∧ L.length = l.length ∧ h.length ≤ m ∧ fin = seed (aheadB l) (relP use) al (al.drop m) L h) ∧ Hid (OI w wr hb N A c l (.slice B7 al.length d7) v42 vh (.slice none 0 0) al L h []))
   case atStart => exact ⟨0, _, _, _, rfl, by simp, Lib.hid ⟨Nat.zero_le _, by simp, Nat.zero_le _, HFIN.out⟩, HI0⟩
   case round =>
    clear HI0 HFIN
    obtain ⟨m, vh, L, h, rfl, rfl, HM, HI⟩ := hrel
    by_cases hlt : m < al.length
    ·have hlt' : (m : Int) < (al.length : Int) := by omega
     have hwm : wrap64 ((m : Int) + 1) = ((m + 1 : Nat) : Int) := by
      have := HN.out; have := HALL.out
      rw [← i64_w, IntWalk.i64_in _ (by omega)]; omega
     have HMB := Lib.hid (show at_ al m ∈ al by rw [at_get al m hlt]; exact List.getElem_mem hlt)
     have HBR := Lib.hid (HAL.out.rng _ HMB.out)
     have HDR := Lib.hid (drop_at al m hlt)
     obtain ⟨g7, cap7, e7⟩ := HI.out.acell (by omega)
     injection e7 with e7 _ ec7
     subst e7
     subst ec7
     obtain ⟨gl, capl, rfl⟩ := HI.out.lcell (by have := HM.out.2.1; have := HBR.out; omega)
     have HGL := Lib.hid (show L.length = l.length from HM.out.2.1)
     have qb := HI.out.aread m hlt
     obtain ⟨b, hbb⟩ : ∃ b, b = at_ al m := ⟨_, rfl⟩
     rw [← hbb] at HMB HBR HDR qb
     clear hbb
     obtain ⟨L9, hL9⟩ : ∃ L9, L9 = inc (relP use) b al L := ⟨_, rfl⟩
     have HL9 := Lib.hid hL9
     clear hL9
     go_wp2_with fail
     go_loopg [55] al.length (fun gk v55 wr2 => ∃ (j : Nat) (L2 : List Int), v55 = .int .i64 j ∧ gk = al.length - j ∧ Hid (j ≤ al.length ∧ L2.length = l.length ∧ L9 = inc (relP use) b (al.drop j) L2) ∧ Hid (OI w wr2 hb N A c l (.slice (some ⟨g7, 0, none⟩) al.length d7) (.slice (some ⟨gl, 0, none⟩) L.length capl) vh (.slice none 0 0) al L2 h []))
     case atStart => exact ⟨0, L, rfl, by simp, Lib.hid ⟨Nat.zero_le _, HGL.out, HL9.out⟩, HI⟩
     case round =>
      clear HI qb
      obtain ⟨j, L2, rfl, rfl, HJ, HI2⟩ := hrel
      by_cases hj : j < al.length
      ·have hj' : (j : Int) < (al.length : Int) := by omega
       have hwj : wrap64 ((j : Int) + 1) = ((j + 1 : Nat) : Int) := by
        have := HN.out; have := HALL.out
        rw [← i64_w, IntWalk.i64_in _ (by omega)]; omega
       have HAR := Lib.hid (HAL.out.rng (at_ al j) (by rw [at_get al j hj]; exact List.getElem_mem hj))
       have HDJ := Lib.hid (drop_at al j hj)
       have qa := HI2.out.aread j hj
       obtain ⟨a, haa⟩ : ∃ a, a = at_ al j := ⟨_, rfl⟩
       rw [← haa] at HAR HDJ qa
       clear haa
       have HA1 := Lib.hid (Kd.C_below HUP.out HI2.out.hs.bel)
       obtain ⟨ad, ad2, c0, rfl, u0, u1⟩ := use_at HA1.out a b HAR.out.1 (by have := HUL.out.1; have := HAR.out.2; omega) HBR.out.1 (by rw [HUL.out.2 a HAR.out.1 HAR.out.2]; exact HBR.out.2)
       obtain ⟨ad', ad3, c1, e, u2, u3⟩ := use_at HA1.out b a HBR.out.1 (by have := HUL.out.1; have := HBR.out.2; omega) HAR.out.1 (by rw [HUL.out.2 b HBR.out.1 HBR.out.2]; exact HAR.out.2)
       obtain rfl : ad = ad' := by injection e
       clear e HA1
       have i0 : (0 : Int) ≤ a := HAR.out.1
       have i1 : a < (use.length : Int) := by have := HUL.out.1; have := HAR.out.2; omega
       have i2 : (0 : Int) ≤ b := HBR.out.1
       have i3 : b < (use.length : Int) := by have := HUL.out.1; have := HBR.out.2; omega
       have i4 : b < ((rd_L6 use a).length : Int) := by rw [HUL.out.2 a HAR.out.1 HAR.out.2]; exact HBR.out.2
       have i5 : a < ((rd_L6 use b).length : Int) := by rw [HUL.out.2 b HBR.out.1 HBR.out.2]; exact HAR.out.2
       have HS2 := Lib.hid (show L9 = inc (relP use) b (al.drop (j + 1)) (if relP use a b = true then L2.set b.toNat (wrap64 (rd L2 b + 1)) else L2) by have := HJ.out.2.2; rw [HDJ.out, inc] at this; exact this)
       cases hab : rdOf false (rd_L6 use a) b with
       | false =>
        rw [hab] at u1
        have HRP := Lib.hid (show relP use a b = false by unfold relP; rw [hab]; rfl)
        clear hab
        go_wp2_with fail
        go_roundg (al.length - (j + 1))
        case measure => omega
        case rel => exact ⟨j + 1, L2, by first | rfl | rw [hwj], rfl, Lib.hid ⟨hj, HJ.out.2.1, by have := HS2.out; rw [HRP.out] at this; exact this⟩, HI2⟩
       | true =>
        rw [hab] at u1
        cases hba : rdOf false (rd_L6 use b) a with
        | true =>
         rw [hba] at u3
         have HRP := Lib.hid (show relP use a b = false by unfold relP; rw [hab, hba]; rfl)
         clear hab hba
         go_wp2_with fail
         go_roundg (al.length - (j + 1))
         case measure => omega
         case rel => exact ⟨j + 1, L2, by first | rfl | rw [hwj], rfl, Lib.hid ⟨hj, HJ.out.2.1, by have := HS2.out; rw [HRP.out] at this; exact this⟩, HI2⟩
        | false =>
         rw [hba] at u3
         have HRP := Lib.hid (show relP use a b = true by unfold relP; rw [hab, hba]; rfl)
         clear hab hba
         have i6 : b < (L.length : Int) := by rw [HGL.out]; exact HBR.out.2
         obtain ⟨y0, y1⟩ := HI2.out.lread b HBR.out.1 (by rw [HJ.out.2.1]; exact HBR.out.2)
         have HPT := Lib.hid (HI2.out.put (b := b) (x := wrap64 (rd L2 b + 1)))
         go_wp2_with fail
         go_roundg (al.length - (j + 1))
         case measure => omega
         case rel => exact ⟨j + 1, _, by first | rfl | rw [hwj], rfl, Lib.hid ⟨hj, by rw [List.length_set]; exact HJ.out.2.1, by have := HS2.out; rw [HRP.out] at this; exact this⟩, HPT⟩
      ·have hj' : ¬ (j : Int) < (al.length : Int) := by omega
       have hje : al.drop j = [] := List.drop_eq_nil_of_le (by omega)
       have HLE := Lib.hid (show L9 = L2 by have := HJ.out.2.2; rw [hje] at this; exact this)
       clear hje
       obtain rfl := HLE.out
       have i2 : (0 : Int) ≤ b := HBR.out.1
       have i6 : b < (L.length : Int) := by rw [HGL.out]; exact HBR.out.2
       obtain ⟨y0, y1⟩ := HI2.out.lread b HBR.out.1 (by rw [HJ.out.2.1]; exact HBR.out.2)
       have HF := Lib.hid (show fin = seed (aheadB l) (relP use) al (al.drop (m + 1)) L9 (if rd L9 b = 0 then pushL (aheadB l) h b else h) by have := HM.out.2.2.2; rw [HDR.out, seed, ← HL9.out] at this; exact this)
       by_cases hz : rd L9 b = 0
       ·have HF2 := Lib.hid (show fin = seed (aheadB l) (relP use) al (al.drop (m + 1)) L9 (pushL (aheadB l) h b) by have := HF.out; rw [if_pos hz] at this; exact this)
        rw [hz] at y0
        clear hz
        have HPU := Lib.hid (hpush_is w wr hb _ A c l vh h b HI2.out.hs HBR.out (by have := HM.out; have := HALL.out; have := HN.out; omega))
        go_wp2_with fail
        refine HPU.out.mono ?_
        rintro _ w9 ⟨rfl, ⟨v9, h9⟩, c9⟩
        have HI9 := Lib.hid (HI2.out.pushed h9 c9)
        clear h9 c9
        go_wp2_with fail
        go_roundg (al.length - (m + 1))
        case measure => omega
        case rel => exact ⟨m + 1, v9, L9, _, by first | rfl | rw [hwm], rfl, Lib.hid ⟨hlt, HJ.out.2.1, by rw [pushL_len]; have := HM.out.2.2.1; omega, HF2.out⟩, HI9⟩
       ·have HF2 := Lib.hid (show fin = seed (aheadB l) (relP use) al (al.drop (m + 1)) L9 h by have := HF.out; rw [if_neg hz] at this; exact this)
        have hzb : (rd L9 b == 0) = false := by simpa using hz
        clear hz
        go_wp2_with fail
        go_roundg (al.length - (m + 1))
        case measure => omega
        case rel => exact ⟨m + 1, vh, L9, h, by first | rfl | rw [hwm], rfl, Lib.hid ⟨hlt, HJ.out.2.1, by have := HM.out.2.2.1; omega, HF2.out⟩, HI2⟩
    ·have hlt' : ¬ (m : Int) < (al.length : Int) := by omega
     have hme : al.drop m = [] := List.drop_eq_nil_of_le (by omega)
     have HFE := Lib.hid (show fin = (L, h) by have := HM.out.2.2.2; rw [hme] at this; exact this)
     clear hme
     have HK0 := Lib.hid (show KI (aheadB l) (relP use) l.length al L h [] by have := HKI.out; rw [HFE.out] at this; exact this)
     go_wp2_with fail
     clear HFE HM HKI
     go_loopg [16] (al.length - 0) (fun gk v16 wr => ∃ (vh : Value) (L h out : List Int), gk = al.length - out.length ∧ Hid (KI (aheadB l) (relP use) l.length al L h out) ∧ Hid (OI w wr hb N A c l (.slice B7 al.length d7) v42 vh v16 al L h out))
     case atStart => exact ⟨vh, L, h, [], rfl, HK0, HI⟩
     case round =>
      clear HK0 HI
      obtain ⟨vh, L, h, out, rfl, HK, HI⟩ := hrel
      obtain ⟨B8, d8, rfl⟩ := Kd.R_slice HI.out.o
      have HLEN := Lib.hid (len_is w wr hb _ A c l vh h HI.out.hs)
      by_cases hp : 0 < h.length
      ·have hp' : ((h.length : Nat) : Int) > 0 := by omega
       have HHL := Lib.hid (show out.length + h.length ≤ al.length from HK.out.len_le)
       have HP := Lib.hid (hpop_is w wr hb _ A c l vh h HI.out.hs hp (by have := HHL.out; have := HALL.out; have := HN.out; omega) HK.out.heap)
       have HNX := Lib.hid (HK.out.next (ahead_ord l) HAL.out hp)
       have HPL := Lib.hid (show (popL (aheadB l) h).length = h.length - 1 from (pop_heap (ahead_ord l) h hp HK.out.heap).2.1)
       have HAA := Lib.hid (show at_ h 0 ∈ al from HK.out.sub _ (List.mem_append_right _ (by rw [at_get h 0 hp]; exact List.getElem_mem hp)))
       have HPH := Lib.hid hp
       obtain ⟨a, haa⟩ : ∃ a, a = at_ h 0 := ⟨_, rfl⟩
       rw [← haa] at HP HNX HAA
       clear haa hp
       have HAR := Lib.hid (HAL.out.rng a HAA.out)
       have hta : ∀ w : World, (Instr.typeAssert (.iface 3 (.int .i64 a)) 20 3 false).run Tryd.prog w = .ok (.int .i64 a) w := fun _ => by kernel_rfl
       go_wp2_with fail
       refine HLEN.out.mono ?_
       rintro _ w2 ⟨rfl, rfl⟩
       go_wp2_with fail
       refine HP.out.mono ?_
       rintro _ w3 ⟨rfl, ⟨v3, h3⟩, c3⟩
       have HI3 := Lib.hid (HI.out.heaped h3 c3)
       clear h3 c3 HP HLEN
       go_wp2_with (first | ((with_reducible refine gate_builtin (b := .append) (xs := #[.tmp 101, .tmp 103]) rfl ?_); (try (refine gate_guard (by rfl) ?_; dsimp only)); at_builtin; refine Kd.R_append (Kd.int .i64) (w0 := w) w.heap.size rfl (.tmp 101) (.tmp 103) 22 3 (.int .i64 0) 8 rfl Tryd.underlying22 info3 rfl (by decide) (by omega) (.slice B8 out.length d8) out a [.int .i64 a] (fun k => N ≤ k) (fun _ => False) rfl rfl ?aP (fun _ hk => hk.elim) ?aF ?aO ?aB ?aS ?aL ?_; (case aP => exact rfl); (case aF => exact fun k hk => Nat.le_trans HI3.out.sz hk); (case aO => exact HI3.out.o); (case aB => exact HI3.out.hs.bel); (case aS => exact HI3.out.hs.bel.size); (case aL => have := HHL.out; have := HALL.out; have := HN.out; omega); intro vo w7 ho hb7 hg hat; have HI7 := Lib.hid (HI3.out.appended ho hb7 hg hat); clear ho hb7 hg hat) | fail)
       obtain ⟨fin2, hfin2⟩ : ∃ fin2, fin2 = sweep (aheadB l) (relP use) a al L (popL (aheadB l) h) := ⟨_, rfl⟩
       have HF2 := Lib.hid hfin2
       rw [← hfin2] at HNX
       clear hfin2
       have HAP := Lib.hid (show 0 < al.length from List.length_pos_of_mem HAA.out)
       obtain ⟨g7, cap7, e7⟩ := HI7.out.acell HAP.out
       injection e7 with e7 _ ec7
       subst e7
       subst ec7
       have HGL := Lib.hid (show L.length = l.length from HK.out.len)
       obtain ⟨gl, capl, rfl⟩ := HI7.out.lcell (by have := HGL.out; have := HAR.out; omega)
       clear HI3 HI
       go_loopg [107] al.length (fun gk v107 wr2 => ∃ (j : Nat) (vh2 : Value) (L2 h2 : List Int), v107 = .int .i64 j ∧ gk = al.length - j ∧ Hid (j ≤ al.length ∧ L2.length = l.length ∧ h2.length ≤ 256 + j ∧ fin2 = sweep (aheadB l) (relP use) a (al.drop j) L2 h2) ∧ Hid (OI w wr2 hb N A c l (.slice (some ⟨g7, 0, none⟩) al.length d7) (.slice (some ⟨gl, 0, none⟩) L.length capl) vh2 vo al L2 h2 (out ++ [a])))
       case atStart => exact ⟨0, v3, L, _, rfl, by simp, Lib.hid ⟨Nat.zero_le _, HGL.out, by have := HPL.out; have := HHL.out; have := HALL.out; have := HN.out; omega, HF2.out⟩, HI7⟩
       case round =>
        clear HI7
        obtain ⟨j, vh2, L2, h2, rfl, rfl, HJ, HI2⟩ := hrel
        by_cases hj : j < al.length
        ·have hj' : (j : Int) < (al.length : Int) := by omega
         have hwj : wrap64 ((j : Int) + 1) = ((j + 1 : Nat) : Int) := by
          have := HN.out; have := HALL.out
          rw [← i64_w, IntWalk.i64_in _ (by omega)]; omega
         have HBR := Lib.hid (HAL.out.rng (at_ al j) (by rw [at_get al j hj]; exact List.getElem_mem hj))
         have HDJ := Lib.hid (drop_at al j hj)
         have qb := HI2.out.aread j hj
         obtain ⟨b, hbb⟩ : ∃ b, b = at_ al j := ⟨_, rfl⟩
         rw [← hbb] at HBR HDJ qb
         clear hbb
         have HA1 := Lib.hid (Kd.C_below HUP.out HI2.out.hs.bel)
         obtain ⟨ad, ad2, c0, rfl, u0, u1⟩ := use_at HA1.out a b HAR.out.1 (by have := HUL.out.1; have := HAR.out.2; omega) HBR.out.1 (by rw [HUL.out.2 a HAR.out.1 HAR.out.2]; exact HBR.out.2)
         obtain ⟨ad', ad3, c1, e, u2, u3⟩ := use_at HA1.out b a HBR.out.1 (by have := HUL.out.1; have := HBR.out.2; omega) HAR.out.1 (by rw [HUL.out.2 b HBR.out.1 HBR.out.2]; exact HAR.out.2)
         obtain rfl : ad = ad' := by injection e
         clear e HA1
         have i0 : (0 : Int) ≤ a := HAR.out.1
         have i1 : a < (use.length : Int) := by have := HUL.out.1; have := HAR.out.2; omega
         have i2 : (0 : Int) ≤ b := HBR.out.1
         have i3 : b < (use.length : Int) := by have := HUL.out.1; have := HBR.out.2; omega
         have i4 : b < ((rd_L6 use a).length : Int) := by rw [HUL.out.2 a HAR.out.1 HAR.out.2]; exact HBR.out.2
         have i5 : a < ((rd_L6 use b).length : Int) := by rw [HUL.out.2 b HBR.out.1 HBR.out.2]; exact HAR.out.2
         have HS2 := Lib.hid (show fin2 = if relP use a b = true then sweep (aheadB l) (relP use) a (al.drop (j + 1)) (L2.set b.toNat (wrap64 (rd L2 b - 1))) (if rd (L2.set b.toNat (wrap64 (rd L2 b - 1))) b = 0 then pushL (aheadB l) h2 b else h2) else sweep (aheadB l) (relP use) a (al.drop (j + 1)) L2 h2 by have := HJ.out.2.2.2; rw [HDJ.out, sweep] at this; exact this)
         cases hab : rdOf false (rd_L6 use a) b with
         | false =>
          rw [hab] at u1
          have HRP := Lib.hid (show relP use a b = false by unfold relP; rw [hab]; rfl)
          clear hab
          go_wp2_with fail
          go_roundg (al.length - (j + 1))
          case measure => omega
          case rel => exact ⟨j + 1, vh2, L2, h2, by first | rfl | rw [hwj], rfl, Lib.hid ⟨hj, HJ.out.2.1, by have := HJ.out.2.2.1; omega, by have := HS2.out; rw [if_neg (by rw [HRP.out]; decide)] at this; exact this⟩, HI2⟩
         | true =>
          rw [hab] at u1
          cases hba : rdOf false (rd_L6 use b) a with
          | true =>
           rw [hba] at u3
           have HRP := Lib.hid (show relP use a b = false by unfold relP; rw [hab, hba]; rfl)
           clear hab hba
           go_wp2_with fail
           go_roundg (al.length - (j + 1))
           case measure => omega
           case rel => exact ⟨j + 1, vh2, L2, h2, by first | rfl | rw [hwj], rfl, Lib.hid ⟨hj, HJ.out.2.1, by have := HJ.out.2.2.1; omega, by have := HS2.out; rw [if_neg (by rw [HRP.out]; decide)] at this; exact this⟩, HI2⟩
          | false =>
           rw [hba] at u3
           have HRP := Lib.hid (show relP use a b = true by unfold relP; rw [hab, hba]; rfl)
           clear hab hba
           have i6 : b < (L.length : Int) := by rw [HGL.out]; exact HBR.out.2
           obtain ⟨y0, y1⟩ := HI2.out.lread b HBR.out.1 (by rw [HJ.out.2.1]; exact HBR.out.2)
           have HPT := Lib.hid (HI2.out.put (b := b) (x := wrap64 (rd L2 b - 1)))
           obtain ⟨L3, hL3⟩ : ∃ L3, L3 = L2.set b.toNat (wrap64 (rd L2 b - 1)) := ⟨_, rfl⟩
           have HL3 := Lib.hid (show L3.length = l.length by rw [hL3, List.length_set]; exact HJ.out.2.1)
           have HR3 := Lib.hid (show wrap64 (rd L2 b - 1) = rd L3 b by rw [hL3, rd_set _ _ _ _ (by have := HJ.out.2.1; have := HBR.out; omega) HBR.out.1 HBR.out.1, if_pos rfl])
           have HS3 := Lib.hid (show fin2 = sweep (aheadB l) (relP use) a (al.drop (j + 1)) L3 (if rd L3 b = 0 then pushL (aheadB l) h2 b else h2) by have := HS2.out; rw [if_pos HRP.out, ← hL3] at this; exact this)
           rw [← hL3] at HPT
           clear hL3
           go_upto_region 31 with fail
           obtain ⟨w8, e8⟩ : ∃ w8, w8 = wr.setCell ⟨gl, b.toNat, none⟩ (.int .i64 (wrap64 (rd L2 b - 1))) := ⟨_, rfl⟩
           rw [← e8] at HPT
           rw [← e8]
           clear e8 y0 y1 u0 u1 u2 u3 qb
           obtain ⟨y0, y1⟩ := HPT.out.lread b HBR.out.1 (by rw [HL3.out]; exact HBR.out.2)
           by_cases hz : rd L3 b = 0
           ·have HF3 := Lib.hid (show fin2 = sweep (aheadB l) (relP use) a (al.drop (j + 1)) L3 (pushL (aheadB l) h2 b) by have := HS3.out; rw [if_pos hz] at this; exact this)
            rw [hz] at y0
            clear hz
            have HPU := Lib.hid (hpush_is w w8 hb _ A c l vh2 h2 b HPT.out.hs HBR.out (by have := HJ.out.2.2.1; have := HALL.out; have := HN.out; omega))
            go_wp2_with fail
            refine HPU.out.mono ?_
            rintro _ w9 ⟨rfl, ⟨v9, h9⟩, c9⟩
            have HI9 := Lib.hid (HPT.out.pushed h9 c9)
            clear h9 c9
            go_wp2_with fail
            go_roundg (al.length - (j + 1))
            case measure => omega
            case rel => exact ⟨j + 1, v9, L3, _, by first | rfl | rw [hwj], rfl, Lib.hid ⟨hj, HL3.out, by rw [pushL_len]; have := HJ.out.2.2.1; omega, HF3.out⟩, HI9⟩
           ·have HF3 := Lib.hid (show fin2 = sweep (aheadB l) (relP use) a (al.drop (j + 1)) L3 h2 by have := HS3.out; rw [if_neg hz] at this; exact this)
            have hzb : (rd L3 b == 0) = false := by simpa using hz
            clear hz
            go_wp2_with fail
            go_roundg (al.length - (j + 1))
            case measure => omega
            case rel => exact ⟨j + 1, vh2, L3, h2, by first | rfl | rw [hwj], rfl, Lib.hid ⟨hj, HL3.out, by have := HJ.out.2.2.1; omega, HF3.out⟩, HPT⟩
        ·have hj' : ¬ (j : Int) < (al.length : Int) := by omega
         have hje : al.drop j = [] := List.drop_eq_nil_of_le (by omega)
         have HFE := Lib.hid (show fin2 = (L2, h2) by have := HJ.out.2.2.2; rw [hje] at this; exact this)
         clear hje
         have HKN := Lib.hid (show KI (aheadB l) (relP use) l.length al L2 h2 (out ++ [a]) by have := HNX.out; rw [HFE.out] at this; exact this)
         go_wp2_with fail
         go_roundg (al.length - (out ++ [a]).length)
         case measure => have := HHL.out; have := HPH.out; simp; omega
         case rel => exact ⟨vh2, L2, h2, out ++ [a], rfl, HKN, HI2⟩
      ·have hp' : ¬ ((h.length : Nat) : Int) > 0 := by omega
       obtain rfl : h = [] := List.eq_nil_of_length_eq_zero (by omega)
       have HG := Lib.hid (HK.out.done HAC.out)
       clear hp
       go_wp2_with fail
       refine HLEN.out.mono ?_
       rintro _ w2 ⟨rfl, rfl⟩
       go_wp2_with fail
       go_ret
       exact ⟨_, out, rfl, Kd.R_mono HI.out.o (fun _ _ => trivial), HI.out.hs.bel, HG.out⟩
end Go.Proofs.YtccjclmjoegibaaDoor.Ce
