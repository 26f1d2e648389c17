/- What stands of a cell while a law's loop calls it. -/
import Derived.Test.YtchbammjcnhkiaaDoorCn
import Derived.Test.YtchbammjcnhkiaaDoorOa
namespace Go.Proofs.YtchbammjcnhkiaaDoor.Ce
open Go.RowKit Go.Maps Go.Proofs.YtchbammjcnhkiaaDoor Go.Proofs.YtchbammjcnhkiaaDoorW.PrintWords Go.Proofs.YtchbammjcnhkiaaDoorW.PrintLast Go.Proofs.YtchbammjcnhkiaaDoorW.PrintMore PCellPlays
structure LInv (w wr : World) (b : Nat) (s : Cel) (l : List S80) (m : List S64) : Prop where
  hb : w.heap.size ≤ b
  own : Owns wr b w.heap.size s l m
  well : Well s
  bel : Below w.heap.size w wr
theorem LInv.below {w wr w3 : World} {b : Nat} {s : Cel} {l : List S80} {m : List S64} (h : LInv w wr b s l m) (hb : Below wr.heap.size wr w3) : LInv w w3 b s l m := ⟨h.hb, h.own.below hb, h.well, below_step h.bel hb⟩
theorem LInv.alloc {w wr : World} {b : Nat} {s : Cel} {l : List S80} {m : List S64} (h : LInv w wr b s l m) (o : Obj) : LInv w (wr.alloc o) b s l m := h.below ((Below.refl _ _).alloc (Nat.le_refl _) o)
theorem LInv.drewN {w wr : World} {b : Nat} {s : Cel} {l : List S80} {m : List S64} (h : LInv w wr b s l m) (n : Nat) : LInv w (wr.drewN n) b s l m := h.below (pw_below_drewN (Below.refl _ _) n)
theorem LInv.turn {w wr w3 : World} {b : Nat} {s s' : Cel} {l l' : List S80} {m m' : List S64} (h : LInv w wr b s l m) (hc : Chg (· = b) wr w3) (ho : Owns w3 b w.heap.size s' l' m') (hw : Well s') : LInv w w3 b s' l' m' :=
  ⟨h.hb, ho, hw, Chg.below h.bel hc (fun i hi => by have := h.hb; omega) h.bel.size⟩
theorem lbegin {w wr : World} {b : Nat} {s : Cel} {l : List S80} {m : List S64} (h : LInv w wr b s l m) (task t : Int) :
    ∃ r e s' l' m', BeginRel s task t r e s' ∧ (e ≠ 0 → l' = l ∧ m' = m) ∧ (e = 0 → l' = [] ∧ m' = []) ∧ BeginC wr b task t r e (fun w' => LInv w w' b s' l' m' ∧ Chg (· = b) wr w') := by
  obtain ⟨r, e, s', l', m', h1, h2, h2', h3⟩ := begin_o wr b w.heap.size s l m task t h.own h.well
  refine ⟨r, e, s', l', m', h1, h2, h2', h3.mono ?_⟩
  rintro _ w' ⟨rfl, hc, ho⟩
  refine ⟨rfl, h.turn hc ho ?_, hc⟩
  rcases h1.2 with ⟨_, _, rfl⟩ | ⟨_, _, _, hn, ha, hg, _, rfl⟩
  · exact h.well
  · exact h.well.begun hn ha hg
theorem lend {w wr : World} {b : Nat} {s : Cel} {l : List S80} {m : List S64} (h : LInv w wr b s l m) (task k : Int) (A B : Option Addr) (c d : Nat) (vl : List S80) (fl : List S64) (t : Int) (hp : Put wr A B c d vl fl) :
    ∃ e s' l' m', e = endE s task k vl fl t ∧ ((e ≠ 0 ∧ s' = s ∧ l' = l ∧ m' = m) ∨ (e = 0 ∧ (0 ≤ task ∧ task < 128) ∧ (s.state = 2 ∧ s.task = task) ∧ rightB k vl fl = true ∧ nowB s t = true ∧ s' = endS s k t ∧ l' = vl ∧ m' = fl)) ∧ EndC wr b task k A B c d vl fl t e (fun w' => LInv w w' b s' l' m' ∧ Chg (· = b) wr w') := by
  obtain ⟨e, s', l', m', h0, h1, h3⟩ := end_o wr b w.heap.size s l m task k A B c d vl fl t h.own h.bel.size h.well hp
  refine ⟨e, s', l', m', h0, h1, h3.mono ?_⟩
  rintro _ w' ⟨rfl, hc, ho⟩
  refine ⟨rfl, h.turn hc ho ?_, hc⟩
  rcases h1 with ⟨_, rfl, _⟩ | ⟨_, _, hs, _, hn, rfl, _⟩
  · exact h.well
  · exact h.well.ended hn hs.1
theorem lreset {w wr : World} {b : Nat} {s : Cel} {l : List S80} {m : List S64} (h : LInv w wr b s l m) (t : Int) :
    ∃ e s' l' m', e = resetE s t ∧ ((e ≠ 0 ∧ s' = s ∧ l' = l ∧ m' = m) ∨ (e = 0 ∧ nowB s t = true ∧ (s.state ≠ 2 ∧ s.state ≠ 5) ∧ s.again = true ∧ s' = idled s t ∧ l' = [] ∧ m' = [])) ∧ ResetC wr b t e (fun w' => LInv w w' b s' l' m' ∧ Chg (· = b) wr w') := by
  obtain ⟨e, s', l', m', h0, h1, h3⟩ := reset_o wr b w.heap.size s l m t h.own
  refine ⟨e, s', l', m', h0, h1, h3.mono ?_⟩
  rintro _ w' ⟨rfl, hc, ho⟩
  refine ⟨rfl, h.turn hc ho ?_, hc⟩
  rcases h1 with ⟨_, rfl, _⟩ | ⟨_, hn, _, _, rfl, _⟩
  · exact h.well
  · exact h.well.idled hn
theorem lclose {w wr : World} {b : Nat} {s : Cel} {l : List S80} {m : List S64} (h : LInv w wr b s l m) :
    ∃ e s', e = closeE s ∧ ((e ≠ 0 ∧ s' = s) ∨ (e = 0 ∧ (s.state ≠ 2 ∧ s.state ≠ 5) ∧ s' = closedC s)) ∧ CloseC wr b e (fun w' => LInv w w' b s' l m ∧ Chg (· = b) wr w') := by
  obtain ⟨e, s', h0, h1, h3⟩ := close_o wr b w.heap.size s l m h.own
  refine ⟨e, s', h0, h1, h3.mono ?_⟩
  rintro _ w' ⟨rfl, hc, ho⟩
  refine ⟨rfl, h.turn hc ho ?_, hc⟩
  rcases h1 with ⟨_, rfl⟩ | ⟨_, _, rfl⟩
  · exact h.well
  · exact h.well.closed
theorem ltold {w wr : World} {b : Nat} {s : Cel} {l : List S80} {m : List S64} (h : LInv w wr b s l m) : Calls Tryd.prog 15 #[.pointer (some ⟨b, 0, none⟩)] wr fun e w' => e = .returned (.agg #[.int .i64 s.state, .int .i64 s.gen, .int .i64 s.task, .int .i64 s.fails, .int .i64 s.next]) ∧ LInv w w' b s l m ∧ Below wr.heap.size wr w' := by
  refine (told_o wr b w.heap.size s l m h.own h.well).mono ?_
  rintro _ w' ⟨rfl, hb, _⟩
  exact ⟨rfl, h.below hb, hb⟩
theorem ltold_g {w wr : World} {b : Nat} {s : Cel} {l : List S80} {m : List S64} (h : LInv w wr b s l m) {g : Int} (hg : s.gen = g) : Calls Tryd.prog 15 #[.pointer (some ⟨b, 0, none⟩)] wr fun e w' => e = .returned (.agg #[.int .i64 s.state, .int .i64 g, .int .i64 s.task, .int .i64 s.fails, .int .i64 s.next]) ∧ LInv w w' b s l m ∧ Below wr.heap.size wr w' := hg ▸ ltold h
theorem ask_run {s : Cel} {t : Int} (h : askB s t = 1) : s.state ≠ 2 := by
  intro h2
  unfold askB at h
  split at h
  · unfold meet at h
    rw [if_neg (show ¬ s.state = 1 by omega), if_pos h2] at h
    exact absurd h (by decide)
  · exact absurd h (by decide)
theorem endS_st (s : Cel) (k t : Int) : ((endS s k t).state == 2) = false := by
  unfold endS
  repeat' split
  all_goals rfl
theorem endS_gen (s : Cel) (k t : Int) : (endS s k t).gen = s.gen := by
  unfold endS
  repeat' split
  all_goals rfl
/-- Which act it is. -/
def amongB (k : Int) : Int := wrap64 (Int.tmod (IntKind.u64.wrap k) (IntKind.u64.wrap 5))
theorem among_is (k : Int) (w : World) : Calls Tryd.prog 9 #[.int .i64 k, .int .i64 5] w fun e w' => e = .returned (.int .i64 (amongB k)) ∧ Drawn0 w w' := by
  refine onceweblaw11_among.calls k 5 (amongB k) w ?_
  unfold onceweblaw11_among.f
  rw [if_neg (by decide)]
  rfl
theorem among_be (k : Int) (w : World) {r : Int} (h : amongB k = r) : Calls Tryd.prog 9 #[.int .i64 k, .int .i64 5] w fun e w' => e = .returned (.int .i64 r) ∧ Drawn0 w w' := h ▸ among_is k w
theorem among_cases (k : Int) : amongB k = 0 ∨ amongB k = 1 ∨ amongB k = 2 ∨ amongB k = 3 ∨ amongB k = 4 := by
  have h5 : IntKind.u64.wrap 5 = 5 := by decide
  have h0 : 0 ≤ IntKind.u64.wrap k := by
    show 0 ≤ k % (2 ^ 64)
    exact Int.emod_nonneg _ (by decide)
  unfold amongB
  rw [h5, Int.tmod_eq_emod_of_nonneg h0]
  have h1 := Int.emod_nonneg (IntKind.u64.wrap k) (show (5 : Int) ≠ 0 by decide)
  have h2 := Int.emod_lt_of_pos (IntKind.u64.wrap k) (show (0 : Int) < 5 by decide)
  generalize IntKind.u64.wrap k % 5 = q at h1 h2
  rw [← i64_w, IntWalk.i64_in _ (by omega)]
  omega
end Go.Proofs.YtchbammjcnhkiaaDoor.Ce
