/- What lies in memory while the ready parts of one scope are put in order. -/
import Derived.Test.YtccjclmjoegibaaDoorHz
import Derived.Test.YtccjclmjoegibaaDoorPk
namespace Go.Proofs.YtccjclmjoegibaaDoor.Ce
open Go.RowKit Go.Maps Go.Proofs.YtccjclmjoegibaaDoor Go.Proofs.YtccjclmjoegibaaDoorW.PrintWords Go.Proofs.YtccjclmjoegibaaDoorW.PrintLast Go.Proofs.YtccjclmjoegibaaDoorW.PrintMore PCloserOrders Hp
set_option linter.unusedVariables false
set_option linter.unusedSimpArgs false

/-- The ready parts of a scope, of the first i. -/
def allF (l : List S33) (s : Int) : Nat → List Int
  | 0 => []
  | i + 1 => if (rd_T33 l (i : Int)).f2 = true ∧ (rd_T33 l (i : Int)).f0 = s then allF l s i ++ [(i : Int)] else allF l s i
theorem allF_mem (l : List S33) (s : Int) (x : Int) : ∀ i, x ∈ allF l s i ↔ 0 ≤ x ∧ x < i ∧ (rd_T33 l x).f2 = true ∧ (rd_T33 l x).f0 = s
  | 0 => by simp [allF]; omega
  | i + 1 => by
    rw [allF]
    by_cases h : (rd_T33 l (i : Int)).f2 = true ∧ (rd_T33 l (i : Int)).f0 = s
    · rw [if_pos h, List.mem_append, allF_mem l s x i, List.mem_singleton]
      constructor
      · rintro (⟨h1, h2, h3⟩ | rfl)
        · exact ⟨h1, by omega, h3⟩
        · exact ⟨by omega, by omega, h⟩
      · rintro ⟨h1, h2, h3⟩
        by_cases e : x = i
        · exact .inr e
        · exact .inl ⟨h1, by omega, h3⟩
    · rw [if_neg h, allF_mem l s x i]
      constructor
      · rintro ⟨h1, h2, h3⟩; exact ⟨h1, by omega, h3⟩
      · rintro ⟨h1, h2, h3⟩
        refine ⟨h1, ?_, h3⟩
        by_cases e : x = i
        · subst e; exact absurd h3 h
        · omega
theorem allF_len (l : List S33) (s : Int) : ∀ i, (allF l s i).length ≤ i
  | 0 => Nat.le_refl _
  | i + 1 => by
    have := allF_len l s i
    rw [allF]
    split <;> simp <;> omega
theorem allF_nodup (l : List S33) (s : Int) : ∀ i, (allF l s i).Nodup
  | 0 => List.nodup_nil
  | i + 1 => by
    have := allF_nodup l s i
    rw [allF]
    split
    · rw [List.nodup_append]
      refine ⟨this, by simp, fun x hx y hy => ?_⟩
      rw [allF_mem] at hx
      rw [List.mem_singleton.1 hy]
      omega
    · exact this
theorem allF_alls (l : List S33) (s : Int) (hl : l.length ≤ 256) : Alls l.length (allF l s l.length) :=
  ⟨allF_nodup l s _, fun x hx => by have := (allF_mem l s x _).1 hx; omega, by have := allF_len l s l.length; omega⟩
/-- a uses b, at once or by way of others, and does not go round with it. -/
def relP (use : List (List Bool)) (a b : Int) : Bool := rdOf false (rd_L6 use a) b && !rdOf false (rd_L6 use b) a

def okV (N : Nat) (vo : Value) (k : Nat) : Prop := N ≤ k ∧ some k ≠ vo.ownBlock
structure OI (w wr : World) (hb N : Nat) (A : Option Addr) (c : Nat) (l : List S33) (va vl vh vo : Value) (all L h out : List Int) : Prop where
  hs : HS w wr hb (okV N vo) A c l vh h
  a : Kd.R (Kd.int .i64) 3 wr w.heap.size (fun k => k < N) va all
  lf : Kd.R (Kd.int .i64) 3 wr w.heap.size (fun k => k < N ∧ some k ≠ va.ownBlock) vl L
  o : Kd.R (Kd.int .i64) 3 wr w.heap.size (fun k => N ≤ k) vo out
  hbN : hb < N
  sz : N ≤ wr.heap.size
section
variable {w wr : World} {hb N : Nat} {A : Option Addr} {c : Nat} {l : List S33} {va vl vh vo : Value} {all L h out : List Int}
theorem OI.below {w2 : World} (H : OI w wr hb N A c l va vl vh vo all L h out) (hc : Below wr.heap.size wr w2) : OI w w2 hb N A c l va vl vh vo all L h out :=
  ⟨H.hs.below hc, Kd.R_below H.a hc, Kd.R_below H.lf hc, Kd.R_below H.o hc, H.hbN, Nat.le_trans H.sz hc.size⟩
theorem OI.olt (H : OI w wr hb N A c l va vl vh vo all L h out) : ∀ k, vo.ownBlock = some k → k < wr.heap.size ∧ N ≤ k := fun k hk => ⟨Kd.R_lt H.o k hk, H.o.1 k hk⟩
theorem OI.heaped {w2 : World} {v' : Value} {h' : List Int} (H : OI w wr hb N A c l va vl vh vo all L h out) (hs : HS w w2 hb (okV N vo) A c l v' h') (hc : Chg (fun k => k = hb ∨ okV N vo k) wr w2) : OI w w2 hb N A c l va vl v' vo all L h' out := by
  refine ⟨hs, ?_, ?_, ?_, H.hbN, Nat.le_trans H.sz hc.size⟩
  · have h1 := Kd.R_types H.a H.hs.blk (by decide)
    exact Kd.R_mono (Kd.R_step h1 (fun k ho hlt => hc.block k hlt (fun q => q.elim (fun q => ho.2 q) (fun q => by have := q.1; have := ho.1; omega)))) (fun k q => q.1)
  · have h1 := Kd.R_types H.lf H.hs.blk (by decide)
    exact Kd.R_mono (Kd.R_step h1 (fun k ho hlt => hc.block k hlt (fun q => q.elim (fun q => ho.2 q) (fun q => by have := q.1; have := ho.1.1; omega)))) (fun k q => q.1)
  · have h1 := Kd.R_tight rfl H.o
    have h2 := Kd.R_step h1 (fun k ho hlt => hc.block k hlt (fun q => q.elim (fun q => by have := (H.olt k ho.symm).2; have := H.hbN; omega) (fun q => q.2 ho)))
    exact Kd.R_mono h2 (fun k q => (H.olt k q.symm).2)
theorem OI.pushed {w2 : World} {v' : Value} {h' : List Int} (H : OI w wr hb N A c l va vl vh vo all L h out) (hs : HS w w2 hb (fun k => okV N vo k ∨ wr.heap.size ≤ k) A c l v' h') (hc : Chg (fun k => k = hb ∨ okV N vo k) wr w2) : OI w w2 hb N A c l va vl v' vo all L h' out :=
  H.heaped ⟨hs.blk, Kd.R_mono hs.row (fun k q => q.elim id (fun q => ⟨Nat.le_trans H.sz q, fun e => by have := (H.olt k e.symm).1; omega⟩)), hs.bel, hs.hb, hs.parts, hs.rng⟩ hc
theorem OI.appended {w7 : World} {vo' : Value} {out' : List Int} (H : OI w wr hb N A c l va vl vh vo all L h out) (hr : Kd.R (Kd.int .i64) 3 w7 w.heap.size (fun k => N ≤ k) vo' out') (hb7 : Below w.heap.size w w7) (hg : wr.grownBy w7 vo.ownBlock) (hat : vo'.ownBlock = vo.ownBlock ∨ ∃ b, vo'.ownBlock = some b ∧ wr.heap.size ≤ b) : OI w w7 hb N A c l va vl vh vo' all L h out' := by
  have hno : ∀ k, k < N → some k ≠ vo.ownBlock := fun k hk e => by have := (H.olt k e.symm).2; omega
  refine ⟨⟨(hg.block hb (blk_lt H.hs.blk) (hno hb H.hbN)).trans H.hs.blk, ?_, hb7, H.hs.hb, H.hs.parts, H.hs.rng⟩, Kd.R_grown H.a hg hno, Kd.R_grown H.lf hg (fun k hk => hno k hk.1), hr, H.hbN, Nat.le_trans H.sz hg.size⟩
  have h1 := Kd.R_bound H.hs.row
  have h2 := Kd.R_step h1 (fun k ho hlt => hg.block k hlt ho.1.2)
  refine Kd.R_mono h2 (fun k q => ⟨q.1.1, fun e => ?_⟩)
  rcases hat with hat | ⟨b, hb1, hb2⟩
  · exact q.1.2 (e.trans hat)
  · rw [hb1] at e
    injection e with e
    have := q.2.2.1
    omega
theorem OI.put {gl n cap : Nat} {b x : Int} (H : OI w wr hb N A c l va (.slice (some ⟨gl, 0, none⟩) n cap) vh vo all L h out) : OI w (wr.setCell ⟨gl, b.toNat, none⟩ (.int .i64 x)) hb N A c l va (.slice (some ⟨gl, 0, none⟩) n cap) vh vo all (L.set b.toNat x) h out := by
  have hgl := H.lf.1 gl rfl
  obtain ⟨cs, hcs⟩ := Kd.R_typed H.lf gl rfl
  have hne : hb ≠ gl := fun e => by
    rw [← e, H.hs.blk] at hcs
    injection hcs with hcs
    injection hcs with _ h2 _
    exact absurd h2 (by decide)
  have hc : Chg (· = gl) wr (wr.setCell ⟨gl, b.toNat, none⟩ (.int .i64 x)) := (Chg.refl (· = gl) wr).setCell (p := ⟨gl, b.toNat, none⟩) rfl _
  have hbase := Kd.R_base H.lf gl rfl
  refine ⟨⟨blk_chg H.hs.blk hc hne, Kd.R_far H.hs.row (p := ⟨gl, b.toNat, none⟩) (fun k hk e => by have := hk.1; have := hgl.1; have : k = gl := e; omega) _, Chg.below H.hs.bel hc (fun k e => by omega) H.hs.bel.size, H.hs.hb, H.hs.parts, H.hs.rng⟩, ?_, Kd.R_putn H.lf b x, Kd.R_far H.o (p := ⟨gl, b.toNat, none⟩) (fun k hk e => by have := hgl.1; have : k = gl := e; omega) _, H.hbN, Nat.le_trans H.sz hc.size⟩
  have h1 := Kd.R_tight rfl H.a
  have h2 := Kd.R_far h1 (p := ⟨gl, b.toNat, none⟩) (fun k hk e => hgl.2 (by rw [← hk]; exact congrArg some (show gl = k from (show k = gl from e).symm))) (.int .i64 x)
  exact Kd.R_mono h2 (fun k q => H.a.1 k q.symm)
theorem OI.acell (H : OI w wr hb N A c l va vl vh vo all L h out) (hp : 0 < all.length) : ∃ g cap, va = .slice (some ⟨g, 0, none⟩) all.length cap := by
  obtain ⟨g, cap, e, _⟩ := Kd.R_form H.a hp
  exact ⟨g, cap, e⟩
theorem OI.aread {g cap n : Nat} (H : OI w wr hb N A c l (.slice (some ⟨g, 0, none⟩) n cap) vl vh vo all L h out) (j : Nat) (hj : j < all.length) : wr.cell? ⟨g, j, none⟩ = some (.int .i64 (at_ all j)) := by
  have hn := (Kd.R_reads' H.a).1
  exact (Kd.R_celln (0 : Int) H.a (j : Int) (by omega) (by omega)).1
theorem OI.lcell (H : OI w wr hb N A c l va vl vh vo all L h out) (hp : 0 < L.length) : ∃ g cap, vl = .slice (some ⟨g, 0, none⟩) L.length cap := by
  obtain ⟨g, cap, e, _⟩ := Kd.R_form H.lf hp
  exact ⟨g, cap, e⟩
theorem OI.lread {g cap n : Nat} (H : OI w wr hb N A c l va (.slice (some ⟨g, 0, none⟩) n cap) vh vo all L h out) (b : Int) (h0 : 0 ≤ b) (hb : b < L.length) : wr.cell? ⟨g, b.toNat, none⟩ = some (.int .i64 (rd L b)) ∧ wr.frozen? ⟨g, b.toNat, none⟩ = false := by
  have hn := (Kd.R_reads' H.lf).1
  exact Kd.R_celln (0 : Int) H.lf b h0 (by omega)
end
theorem OI.init {w wr w5 : World} {A : Option Addr} {c : Nat} {l : List S33} {va vl : Value} {all L : List Int} (hp : Kd.C k33 w A l.length l) (hb : Below w.heap.size w wr) (ha : Kd.R (Kd.int .i64) 3 wr w.heap.size (fun _ => True) va all) (hb5 : Below wr.heap.size wr w5) (hl : Kd.R (Kd.int .i64) 3 w5 wr.heap.size (fun _ => True) vl L) :
    OI w (w5.alloc (.cells #[.slice none 0 0, .func (.func 51) #[.slice A l.length c] #[]] 76)) w5.heap.size (w5.heap.size + 1) A c l va vl (.slice none 0 0) (.slice none 0 0) all L [] [] := by
  have hal : Below w5.heap.size w5 (w5.alloc (.cells #[.slice none 0 0, .func (.func 51) #[.slice A l.length c] #[]] 76)) := (Below.refl _ _).alloc (Nat.le_refl _) _
  have hw5 := below_step hb hb5
  refine ⟨⟨blk_new _ _, Kd.R_nil _ _ _ _ _, below_step hw5 hal, hw5.size, hp, fun x hx => absurd hx (by simp)⟩, ?_, ?_, Kd.R_nil _ _ _ _ _, Nat.lt_succ_self _, by rw [World.size_alloc]; exact Nat.le_refl _⟩
  · have h1 := Kd.R_mono (Kd.R_bound ha) (ok' := fun k => k < w5.heap.size + 1) (fun k q => by have := q.2.2.1; have := hb5.size; omega)
    exact Kd.R_below (Kd.R_below h1 hb5) hal
  · have hva : ∀ k, va.ownBlock = some k → k < wr.heap.size := fun k hk => Kd.R_lt ha k hk
    have h1 := Kd.R_mono (Kd.R_bound hl) (ok' := fun k => k < w5.heap.size + 1 ∧ some k ≠ va.ownBlock) (fun k q => ⟨by have := q.2.2.1; omega, fun e => by have := hva k e.symm; have := q.2.1; omega⟩)
    exact Kd.R_lower (Kd.R_below h1 hal) hb.size
theorem use_at {w : World} {U : Option Addr} {use : List (List Bool)} (hu : Kd.C (Kd.slice 4 Kd.bool) w U use.length use) (a b : Int) (a0 : 0 ≤ a) (a1 : a < use.length) (b0 : 0 ≤ b) (b1 : b < (rd_L6 use a).length) :
    ∃ ad ad2 c0, U = some ad ∧ w.cell? (ad.add a.toNat) = some (.slice (some ad2) (rd_L6 use a).length c0) ∧ w.cell? (ad2.add b.toNat) = some (.bool (rdOf false (rd_L6 use a) b)) := by
  obtain ⟨ad, A0, c0, e, h1, h2, h3⟩ := at_L6 hu a a0 a1
  obtain ⟨ad2, e2, h4⟩ := Kd.at_bool h3 b b0 b1
  subst e2
  exact ⟨ad, ad2, c0, e, h1, h4⟩
theorem drop_at (l : List Int) (j : Nat) (hj : j < l.length) : l.drop j = at_ l j :: l.drop (j + 1) := by
  rw [List.drop_eq_getElem_cons hj, at_get l j hj]
theorem upL_len (lt : Int → Int → Bool) : ∀ (j : Nat) (h : List Int), (upL lt h j).length = h.length := by
  intro j
  induction j using Nat.strongRecOn with
  | _ j ih =>
    intro h
    unfold upL
    split
    · rfl
    · split
      · rw [ih (par j) (par_lt (by omega)), swap_len]
      · rfl
theorem pushL_len (lt : Int → Int → Bool) (h : List Int) (x : Int) : (pushL lt h x).length = h.length + 1 := by
  unfold pushL
  rw [upL_len]
  simp
end Go.Proofs.YtccjclmjoegibaaDoor.Ce
