/- Of some places, each behind all that must be ahead of it, of those that may be next the first by a strict order: what counting and a heap give, in plain Lean. -/
import Derived.Test.YtccjclmjoegibaaDoorHp
import Derived.Test.YtccjclmjoegibaaDoorWMore
namespace Go.Proofs.YtccjclmjoegibaaDoor.Hp
open Go Go.RowKit Go.Proofs.YtccjclmjoegibaaDoorW.PrintWords Go.Proofs.YtccjclmjoegibaaDoorW.PrintLast Go.Proofs.YtccjclmjoegibaaDoorW.PrintMore

/-- Count up at b for each one of a list that must be ahead of b. -/
def inc (P : Int → Int → Bool) (b : Int) : List Int → List Int → List Int
  | [], L => L
  | a :: r, L => inc P b r (if P a b = true then L.set b.toNat (wrap64 (rd L b + 1)) else L)
def seed (lt P : Int → Int → Bool) (all : List Int) : List Int → List Int → List Int → List Int × List Int
  | [], L, h => (L, h)
  | b :: r, L, h => seed lt P all r (inc P b all L) (if rd (inc P b all L) b = 0 then pushL lt h b else h)
/-- a has been taken: count down at each one that it must be ahead of. -/
def sweep (lt P : Int → Int → Bool) (a : Int) : List Int → List Int → List Int → List Int × List Int
  | [], L, h => (L, h)
  | b :: r, L, h => if P a b = true then sweep lt P a r (L.set b.toNat (wrap64 (rd L b - 1))) (if rd (L.set b.toNat (wrap64 (rd L b - 1))) b = 0 then pushL lt h b else h) else sweep lt P a r L h

theorem rd_set (L : List Int) (b x c : Int) (hb : b.toNat < L.length) (h0 : 0 ≤ b) (hc : 0 ≤ c) : rd (L.set b.toNat x) c = if c = b then x else rd L c := by
  unfold rd
  by_cases e : c = b
  · subst e; simp [hb]
  · rw [if_neg e]
    have : b.toNat ≠ c.toNat := by omega
    simp [List.getD, List.getElem?_set_ne this]
theorem rd_nat (L : List Int) (b : Int) : rd L b = at_ L b.toNat := rfl
theorem w64s {x : Int} (h0 : -4611686018427387904 ≤ x) (h1 : x ≤ 4611686018427387904) : wrap64 x = x := by rw [← i64_w, IntWalk.i64_in _ (by omega)]

theorem inc_len (P : Int → Int → Bool) (b : Int) : ∀ (as L : List Int), (inc P b as L).length = L.length
  | [], L => rfl
  | a :: r, L => by
    rw [inc, inc_len P b r]
    split
    · simp
    · rfl
theorem inc_other (P : Int → Int → Bool) (b c : Int) (hb : 0 ≤ b) (hc : 0 ≤ c) (hne : c ≠ b) : ∀ (as L : List Int), b.toNat < L.length → rd (inc P b as L) c = rd L c
  | [], L, _ => rfl
  | a :: r, L, hL => by
    rw [inc, inc_other P b c hb hc hne r _ (by split <;> simpa using hL)]
    split
    · rw [rd_set _ _ _ _ hL hb hc, if_neg hne]
    · rfl
theorem inc_self (P : Int → Int → Bool) (b : Int) (hb : 0 ≤ b) : ∀ (as L : List Int), b.toNat < L.length → 0 ≤ rd L b → rd L b + as.length ≤ 1000000 → rd (inc P b as L) b = rd L b + (as.countP (fun a => P a b) : Nat)
  | [], L, _, _, _ => by simp [inc]
  | a :: r, L, hL, h0, hl => by
    have hlen : ((a :: r).length : Int) = (r.length : Int) + 1 := by simp
    rw [inc]
    by_cases hp : P a b = true
    · have hw : wrap64 (rd L b + 1) = rd L b + 1 := w64s (by omega) (by omega)
      have hs : rd (L.set b.toNat (rd L b + 1)) b = rd L b + 1 := by rw [rd_set _ _ _ _ hL hb hb, if_pos rfl]
      rw [if_pos hp, hw, inc_self P b hb r _ (by simpa using hL) (by rw [hs]; omega) (by rw [hs]; omega), hs, List.countP_cons, if_pos hp]
      omega
    · rw [if_neg hp, inc_self P b hb r _ hL h0 (by omega), List.countP_cons, if_neg hp]
      omega

/-- How many of all must be ahead of b and are not out yet. -/
def left_ (P : Int → Int → Bool) (all out : List Int) (b : Int) : Nat := all.countP (fun a => P a b && !out.contains a)
theorem countP_but {f g : Int → Bool} (a : Int) : ∀ (l : List Int), l.Nodup → a ∈ l → (∀ x ∈ l, x ≠ a → g x = f x) → g a = false → l.countP g + (if f a = true then 1 else 0) = l.countP f
  | [], _, h, _, _ => absurd h (by simp)
  | x :: r, hn, hm, he, hg => by
    rw [List.nodup_cons] at hn
    by_cases hx : x = a
    · subst hx
      have hr : r.countP g = r.countP f := List.countP_congr (fun y hy => by rw [he y (List.mem_cons_of_mem _ hy) (fun q => hn.1 (q ▸ hy))])
      rw [List.countP_cons, List.countP_cons, hr, hg]
      simp
    · have hm' : a ∈ r := by
        rcases List.mem_cons.1 hm with q | q
        · exact absurd q.symm hx
        · exact q
      have ih := countP_but a r hn.2 hm' (fun y hy => he y (List.mem_cons_of_mem _ hy)) hg
      rw [List.countP_cons, List.countP_cons, he x List.mem_cons_self hx]
      omega
theorem left_app (P : Int → Int → Bool) (all out : List Int) (a b : Int) (hn : all.Nodup) (ha : a ∈ all) (ho : a ∉ out) : left_ P all (out ++ [a]) b + (if P a b = true then 1 else 0) = left_ P all out b := by
  unfold left_
  have h1 := countP_but (f := fun x => P x b && !out.contains x) (g := fun x => P x b && !(out ++ [a]).contains x) a all hn ha (fun x _ hx => by simp [hx]) (by simp)
  have h2 : ((fun x => P x b && !out.contains x) a = true) ↔ P a b = true := by simp [ho]
  rw [← h1]
  by_cases hp : P a b = true
  · rw [if_pos hp, if_pos (h2.2 hp)]
  · rw [if_neg hp, if_neg (fun q => hp (h2.1 q))]
theorem left_nil (P : Int → Int → Bool) (all : List Int) (b : Int) : left_ P all [] b = all.countP (fun a => P a b) := by
  unfold left_
  exact List.countP_congr (fun x _ => by simp)
theorem left_zero (P : Int → Int → Bool) (all out : List Int) (b : Int) : left_ P all out b = 0 ↔ ∀ a ∈ all, P a b = true → a ∈ out := by
  unfold left_
  rw [List.countP_eq_zero]
  constructor
  · intro h a ha hp
    have := h a ha
    simp [hp] at this
    exact this
  · intro h a ha q
    simp at q
    exact q.2 (h a ha q.1)
theorem left_le (P : Int → Int → Bool) (all out : List Int) (b : Int) : left_ P all out b ≤ all.length := List.countP_le_length

/-- Each one of out stands behind all that must be ahead of it, and was the first of those that might be next. -/
def Picked (lt P : Int → Int → Bool) (all out : List Int) : Prop :=
  ∀ p x, out[p]? = some x → (∀ a ∈ all, P a x = true → a ∈ out.take p) ∧ ∀ y ∈ all, y ∉ out.take p → (∀ a ∈ all, P a y = true → a ∈ out.take p) → lt y x = false
structure KI (lt P : Int → Int → Bool) (n : Nat) (all L h out : List Int) : Prop where
  heap : Heap lt h h.length
  nodup : (out ++ h).Nodup
  sub : ∀ x ∈ out ++ h, x ∈ all
  cnt : ∀ b ∈ all, rd L b = (left_ P all out b : Nat)
  free : ∀ b ∈ all, (b ∈ out ++ h ↔ rd L b = 0)
  len : L.length = n
  pick : Picked lt P all out

/-- While out has come to hold one more. -/
structure SI (lt P : Int → Int → Bool) (n : Nat) (all : List Int) (a : Int) (out done rest L h : List Int) : Prop where
  heap : Heap lt h h.length
  nodup : ((out ++ [a]) ++ h).Nodup
  sub : ∀ x ∈ (out ++ [a]) ++ h, x ∈ all
  cd : ∀ b ∈ done, rd L b = (left_ P all (out ++ [a]) b : Nat)
  cr : ∀ b ∈ rest, rd L b = (left_ P all out b : Nat)
  free : ∀ b ∈ all, (b ∈ (out ++ [a]) ++ h ↔ rd L b = 0)
  len : L.length = n

structure Alls (n : Nat) (all : List Int) : Prop where
  nodup : all.Nodup
  rng : ∀ x ∈ all, 0 ≤ x ∧ x < n
  small : all.length ≤ 1000

theorem push_mem {lt : Int → Int → Bool} (O : Ord lt) (h : List Int) (x y : Int) (H : Heap lt h h.length) : y ∈ pushL lt h x ↔ y = x ∨ y ∈ h := by
  rw [(push_heap O h x H).2.mem_iff, List.mem_cons]
theorem push_heap' {lt : Int → Int → Bool} (O : Ord lt) (h : List Int) (x : Int) (H : Heap lt h h.length) : Heap lt (pushL lt h x) (pushL lt h x).length := by
  have := push_heap O h x H
  rw [this.2.length_eq]
  exact this.1
theorem push_nodup {lt : Int → Int → Bool} (O : Ord lt) (o h : List Int) (x : Int) (H : Heap lt h h.length) (hn : (o ++ h).Nodup) (hx : x ∉ o ++ h) : (o ++ pushL lt h x).Nodup := by
  have hp : (o ++ pushL lt h x).Perm (x :: (o ++ h)) := ((push_heap O h x H).2.append_left o).trans List.perm_middle
  exact hp.nodup_iff.2 (List.nodup_cons.2 ⟨hx, hn⟩)

theorem sweep_ok {lt P : Int → Int → Bool} (O : Ord lt) {n : Nat} {all : List Int} (A : Alls n all) {a : Int} {out : List Int} (ha : a ∈ all) (ho : a ∉ out) :
    ∀ (rest done L h : List Int), all = done ++ rest → SI lt P n all a out done rest L h → SI lt P n all a out all [] (sweep lt P a rest L h).1 (sweep lt P a rest L h).2
  | [], done, L, h, he, S => by
    have : all = done := by simpa using he
    subst this
    exact S
  | b :: r, done, L, h, he, S => by
    have hb : b ∈ all := by rw [he]; simp
    have hbr := A.rng b hb
    have hbL : b.toNat < L.length := by rw [S.len]; omega
    have he' : all = (done ++ [b]) ++ r := by rw [he]; simp
    have hnd := A.nodup
    rw [he] at hnd
    have hbd : b ∉ done := fun q => by
      have := (List.nodup_append.1 hnd).2.2 b q b (by simp)
      exact this rfl
    have hbr' : b ∉ r := by
      have := (List.nodup_append.1 hnd).2.1
      exact (List.nodup_cons.1 this).1
    have hc := S.cr b (by simp)
    have hl := left_app P all out a b A.nodup ha ho
    have hle := left_le P all out b
    have hsm := A.small
    have hdr : ∀ c ∈ done, 0 ≤ c := fun c hc => (A.rng c (by rw [he]; simp [hc])).1
    have hrr : ∀ c ∈ r, 0 ≤ c := fun c hc => (A.rng c (by rw [he]; simp [hc])).1
    rw [sweep]
    by_cases hp : P a b = true
    · rw [if_pos hp] at hl ⊢
      have hw : wrap64 (rd L b - 1) = rd L b - 1 := w64s (by omega) (by omega)
      rw [hw]
      have hs : ∀ c, 0 ≤ c → rd (L.set b.toNat (rd L b - 1)) c = if c = b then rd L b - 1 else rd L c := fun c h0 => rd_set _ _ _ _ hbL hbr.1 h0
      have hsb : rd (L.set b.toNat (rd L b - 1)) b = (left_ P all (out ++ [a]) b : Nat) := by rw [hs b hbr.1, if_pos rfl]; omega
      have hnot : b ∉ (out ++ [a]) ++ h := fun q => by have := (S.free b hb).1 q; omega
      have cd' : ∀ c ∈ done ++ [b], rd (L.set b.toNat (rd L b - 1)) c = (left_ P all (out ++ [a]) c : Nat) := fun c hcm => by
        rcases List.mem_append.1 hcm with q | q
        · rw [hs c (hdr c q), if_neg (fun (e : c = b) => hbd (e ▸ q))]; exact S.cd c q
        · rw [List.mem_singleton.1 q]; exact hsb
      have cr' : ∀ c ∈ r, rd (L.set b.toNat (rd L b - 1)) c = (left_ P all out c : Nat) := fun c hcm => by
        rw [hs c (hrr c hcm), if_neg (fun (e : c = b) => hbr' (e ▸ hcm))]; exact S.cr c (by simp [hcm])
      have hbase : ∀ c ∈ all, c ≠ b → (c ∈ (out ++ [a]) ++ h ↔ rd (L.set b.toNat (rd L b - 1)) c = 0) := fun c hcm hne => by
        rw [hs c (A.rng c hcm).1, if_neg hne]; exact S.free c hcm
      by_cases hz : rd (L.set b.toNat (rd L b - 1)) b = 0
      · rw [if_pos hz]
        refine sweep_ok O A ha ho r (done ++ [b]) _ _ he' ⟨push_heap' O h b S.heap, push_nodup O _ h b S.heap S.nodup hnot, fun x hx => ?_, cd', cr', fun c hcm => ?_, by simpa using S.len⟩
        · rcases List.mem_append.1 hx with q | q
          · exact S.sub x (List.mem_append_left _ q)
          · rcases (push_mem O h b x S.heap).1 q with q | q
            · rw [q]; exact hb
            · exact S.sub x (List.mem_append_right _ q)
        · by_cases e : c = b
          · subst e
            exact ⟨fun _ => hz, fun _ => List.mem_append_right _ ((push_mem O h c c S.heap).2 (.inl rfl))⟩
          · rw [← hbase c hcm e]
            constructor
            · intro q
              rcases List.mem_append.1 q with q | q
              · exact List.mem_append_left _ q
              · rcases (push_mem O h b c S.heap).1 q with q | q
                · exact absurd q e
                · exact List.mem_append_right _ q
            · intro q
              rcases List.mem_append.1 q with q | q
              · exact List.mem_append_left _ q
              · exact List.mem_append_right _ ((push_mem O h b c S.heap).2 (.inr q))
      · rw [if_neg hz]
        refine sweep_ok O A ha ho r (done ++ [b]) _ _ he' ⟨S.heap, S.nodup, S.sub, cd', cr', fun c hcm => ?_, by simpa using S.len⟩
        by_cases e : c = b
        · subst e
          exact ⟨fun q => absurd q hnot, fun q => absurd q hz⟩
        · exact hbase c hcm e
    · rw [if_neg hp] at hl ⊢
      refine sweep_ok O A ha ho r (done ++ [b]) _ _ he' ⟨S.heap, S.nodup, S.sub, fun c hcm => ?_, fun c hcm => S.cr c (by simp [hcm]), S.free, S.len⟩
      rcases List.mem_append.1 hcm with q | q
      · exact S.cd c q
      · rw [List.mem_singleton.1 q, hc]; omega

theorem nodup_len : ∀ (a b : List Int), a.Nodup → (∀ x ∈ a, x ∈ b) → a.length ≤ b.length
  | [], b, _, _ => Nat.zero_le _
  | x :: r, b, hn, hs => by
    rw [List.nodup_cons] at hn
    have hx : x ∈ b := hs x List.mem_cons_self
    have ih := nodup_len r (b.erase x) hn.2 (fun y hy => (List.mem_erase_of_ne (fun (e : y = x) => hn.1 (e ▸ hy))).2 (hs y (List.mem_cons_of_mem _ hy)))
    rw [List.length_erase_of_mem hx] at ih
    have := List.length_pos_of_mem hx
    simp
    omega
theorem KI.len_le {lt P : Int → Int → Bool} {n : Nat} {all L h out : List Int} (K : KI lt P n all L h out) : out.length + h.length ≤ all.length := by
  have h2 := nodup_len _ _ K.nodup K.sub
  simpa using h2
theorem KI.next {lt P : Int → Int → Bool} (O : Ord lt) {n : Nat} {all L h out : List Int} (A : Alls n all) (K : KI lt P n all L h out) (hp : 0 < h.length) :
    KI lt P n all (sweep lt P (at_ h 0) all L (popL lt h)).1 (sweep lt P (at_ h 0) all L (popL lt h)).2 (out ++ [at_ h 0]) := by
  obtain ⟨g1, g2, g3, _, _, g6⟩ := pop_heap O h hp K.heap
  have hm : at_ h 0 ∈ h := by rw [at_get h 0 hp]; exact List.getElem_mem hp
  have ha : at_ h 0 ∈ all := K.sub _ (List.mem_append_right _ hm)
  have ho : at_ h 0 ∉ out := fun q => (List.nodup_append.1 K.nodup).2.2 _ q _ hm rfl
  have hperm : ((out ++ [at_ h 0]) ++ popL lt h).Perm (out ++ h) := by rw [List.append_assoc]; exact List.Perm.append_left out g3
  have S0 : SI lt P n all (at_ h 0) out [] all L (popL lt h) := ⟨g1, hperm.nodup_iff.2 K.nodup, fun x hx => K.sub x (hperm.mem_iff.1 hx), fun b hb => absurd hb (by simp), K.cnt, fun b hb => by rw [hperm.mem_iff]; exact K.free b hb, K.len⟩
  have S := sweep_ok O A ha ho all [] L (popL lt h) rfl S0
  have hz : left_ P all out (at_ h 0) = 0 := by have h1 := K.cnt _ ha; have h2 := (K.free _ ha).1 (List.mem_append_right _ hm); omega
  refine ⟨S.heap, S.nodup, S.sub, S.cd, S.free, S.len, fun p x hx => ?_⟩
  by_cases hpl : p < out.length
  · rw [List.getElem?_append_left hpl] at hx
    have ht : (out ++ [at_ h 0]).take p = out.take p := by rw [List.take_append_of_le_length (by omega)]
    rw [ht]
    exact K.pick p x hx
  · have hpe : p = out.length := by
      have hlt : p < (out ++ [at_ h 0]).length := by
        rcases Nat.lt_or_ge p (out ++ [at_ h 0]).length with q | q
        · exact q
        · rw [List.getElem?_eq_none q] at hx; exact absurd hx (by simp)
      simp at hlt
      omega
    subst hpe
    simp at hx
    subst hx
    have ht : (out ++ [at_ h 0]).take out.length = out := by simp
    rw [ht]
    refine ⟨(left_zero P all out _).1 hz, fun y hy hyo hyp => ?_⟩
    have h1 := K.cnt y hy
    rw [(left_zero P all out y).2 hyp] at h1
    have h2 := (K.free y hy).2 (by omega)
    rcases List.mem_append.1 h2 with q | q
    · exact absurd q hyo
    · exact g6 y q

theorem seed_go {lt P : Int → Int → Bool} (O : Ord lt) {n : Nat} {all : List Int} (A : Alls n all) :
    ∀ (rest done L h : List Int), all = done ++ rest → L.length = n → Heap lt h h.length → h.Nodup → (∀ x ∈ h, x ∈ done) → (∀ b ∈ done, rd L b = (left_ P all [] b : Nat)) → (∀ b ∈ rest, rd L b = 0) → (∀ b ∈ done, (b ∈ h ↔ rd L b = 0)) →
      KI lt P n all (seed lt P all rest L h).1 (seed lt P all rest L h).2 []
  | [], done, L, h, he, hl, hh, hn, hs, hd, hr, hf => by
    have : all = done := by simpa using he
    subst this
    exact ⟨hh, by simpa [seed] using hn, by simpa [seed] using hs, hd, by simpa [seed] using hf, hl, fun p x hx => absurd hx (by simp)⟩
  | b :: r, done, L, h, he, hl, hh, hn, hs, hd, hr, hf => by
    have hb : b ∈ all := by rw [he]; simp
    have hbr := A.rng b hb
    have hbL : b.toNat < L.length := by rw [hl]; omega
    have he' : all = (done ++ [b]) ++ r := by rw [he]; simp
    have hnd := A.nodup
    rw [he] at hnd
    have hbd : b ∉ done := fun q => by
      have := (List.nodup_append.1 hnd).2.2 b q b (by simp)
      exact this rfl
    have hbr' : b ∉ r := by
      have := (List.nodup_append.1 hnd).2.1
      exact (List.nodup_cons.1 this).1
    have hsm := A.small
    have hdr : ∀ c ∈ done, 0 ≤ c := fun c hc => (A.rng c (by rw [he]; simp [hc])).1
    have hrr : ∀ c ∈ r, 0 ≤ c := fun c hc => (A.rng c (by rw [he]; simp [hc])).1
    have hz := hr b (by simp)
    have hself : rd (inc P b all L) b = (left_ P all [] b : Nat) := by rw [inc_self P b hbr.1 all L hbL (by omega) (by omega), hz, left_nil]; omega
    have hoth : ∀ c, 0 ≤ c → c ≠ b → rd (inc P b all L) c = rd L c := fun c h0 hne => inc_other P b c hbr.1 h0 hne all L hbL
    rw [seed]
    have hd' : ∀ c ∈ done ++ [b], rd (inc P b all L) c = (left_ P all [] c : Nat) := fun c hc => by
      rcases List.mem_append.1 hc with q | q
      · rw [hoth c (hdr c q) (fun (e : c = b) => hbd (e ▸ q))]; exact hd c q
      · rw [List.mem_singleton.1 q]; exact hself
    have hr' : ∀ c ∈ r, rd (inc P b all L) c = 0 := fun c hc => by
      rw [hoth c (hrr c hc) (fun (e : c = b) => hbr' (e ▸ hc))]; exact hr c (by simp [hc])
    have hnh : b ∉ h := fun q => hbd (hs b q)
    by_cases h0 : rd (inc P b all L) b = 0
    · rw [if_pos h0]
      refine seed_go O A r (done ++ [b]) _ _ he' (by rw [inc_len, hl]) (push_heap' O h b hh) ?_ (fun x hx => ?_) hd' hr' (fun c hc => ?_)
      · have := push_nodup O [] h b hh (by simpa using hn) (by simpa using hnh)
        simpa using this
      · rcases (push_mem O h b x hh).1 hx with q | q
        · rw [q]; simp
        · exact List.mem_append_left _ (hs x q)
      · rw [push_mem O h b c hh]
        by_cases e : c = b
        · subst e; exact ⟨fun _ => h0, fun _ => .inl rfl⟩
        · have hcd : c ∈ done := by
            rcases List.mem_append.1 hc with q | q
            · exact q
            · exact absurd (List.mem_singleton.1 q) e
          rw [hoth c (hdr c hcd) e, ← hf c hcd]
          exact ⟨fun q => q.elim (fun q => absurd q e) id, .inr⟩
    · rw [if_neg h0]
      refine seed_go O A r (done ++ [b]) _ _ he' (by rw [inc_len, hl]) hh hn (fun x hx => List.mem_append_left _ (hs x hx)) hd' hr' (fun c hc => ?_)
      by_cases e : c = b
      · subst e; exact ⟨fun q => absurd q hnh, fun q => absurd q h0⟩
      · have hcd : c ∈ done := by
          rcases List.mem_append.1 hc with q | q
          · exact q
          · exact absurd (List.mem_singleton.1 q) e
        rw [hoth c (hdr c hcd) e]
        exact hf c hcd
theorem seed_ok {lt P : Int → Int → Bool} (O : Ord lt) {n : Nat} {all : List Int} (A : Alls n all) : KI lt P n all (seed lt P all all (List.replicate n 0) []).1 (seed lt P all all (List.replicate n 0) []).2 [] := by
  refine seed_go O A all [] _ _ rfl (by simp) (fun k _ hk => absurd hk (by simp)) (by simp) (by simp) (by simp) (fun b hb => ?_) (by simp)
  have := A.rng b hb
  unfold rd
  simp [List.getD, List.getElem?_replicate]
  split <;> rfl

/-- What one comes to: all of them, once. -/
structure Good (lt P : Int → Int → Bool) (all out : List Int) : Prop where
  nodup : out.Nodup
  mem : ∀ x, x ∈ out ↔ x ∈ all
  pick : Picked lt P all out
/-- Nothing must be ahead of itself, at once or by way of others. -/
structure Acyc (P : Int → Int → Bool) : Prop where
  irr : ∀ a, P a a = false
  trans : ∀ a b c, P a b = true → P b c = true → P a c = true
theorem countP_lt {f g : Int → Bool} : ∀ (l : List Int), (∀ x ∈ l, f x = true → g x = true) → (∃ x ∈ l, f x = false ∧ g x = true) → l.countP f < l.countP g
  | [], _, h => by obtain ⟨x, hx, _⟩ := h; exact absurd hx (by simp)
  | y :: r, hs, h => by
    have hle : r.countP f ≤ r.countP g := List.countP_mono_left (fun x hx hf => hs x (List.mem_cons_of_mem _ hx) hf)
    obtain ⟨x, hx, h1, h2⟩ := h
    rw [List.countP_cons, List.countP_cons]
    rcases List.mem_cons.1 hx with rfl | q
    · rw [h1, h2]; simp; omega
    · have ih := countP_lt r (fun x hx => hs x (List.mem_cons_of_mem _ hx)) ⟨x, q, h1, h2⟩
      have hy := hs y List.mem_cons_self
      cases hf : f y <;> cases hg : g y <;> simp [hf, hg] at hy ⊢ <;> omega
theorem KI.done {lt P : Int → Int → Bool} {n : Nat} {all L out : List Int} (C : Acyc P) (K : KI lt P n all L [] out) : Good lt P all out := by
  have hno : ∀ (m : Nat) (b : Int), b ∈ all → b ∉ out → left_ P all out b = m → False := by
    intro m
    induction m using Nat.strongRecOn with
    | _ m ih =>
      intro b hb hbo hm
      have hfree := K.free b hb
      rw [K.cnt b hb] at hfree
      have hpos : left_ P all out b ≠ 0 := fun q => by
        have := hfree.2 (by omega)
        simp at this
        exact hbo this
      have hex : ∃ a ∈ all, P a b = true ∧ a ∉ out := by
        refine Classical.byContradiction fun hc => hpos ((left_zero P all out b).2 (fun a ha hp => ?_))
        exact Classical.byContradiction fun hn => hc ⟨a, ha, hp, hn⟩
      obtain ⟨a, ha, hp, hao⟩ := hex
      have hlt : left_ P all out a < left_ P all out b := by
        unfold left_
        refine countP_lt all (fun x _ hx => ?_) ⟨a, ha, ?_, ?_⟩
        · simp at hx ⊢
          exact ⟨C.trans _ _ _ hx.1 hp, hx.2⟩
        · simp [C.irr a]
        · simp [hp, hao]
      exact ih _ (by omega) a ha hao rfl
  refine ⟨by simpa using K.nodup, fun x => ⟨fun hx => K.sub x (by simpa using hx), fun hx => ?_⟩, K.pick⟩
  exact Classical.byContradiction fun hn => hno _ x hx hn rfl
end Go.Proofs.YtccjclmjoegibaaDoor.Hp
