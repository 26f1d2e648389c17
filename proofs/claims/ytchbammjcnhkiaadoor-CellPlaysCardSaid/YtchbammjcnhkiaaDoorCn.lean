/- All that may be called of a cell, with what it owns; an outcome's copy. -/
import Derived.Test.YtchbammjcnhkiaaDoorCm
import Derived.Test.YtchbammjcnhkiaaDoorQf
namespace Go.Proofs.YtchbammjcnhkiaaDoor.Ce
open Go.RowKit Go.Maps Go.Proofs.YtchbammjcnhkiaaDoor Go.Proofs.YtchbammjcnhkiaaDoorW.PrintWords Go.Proofs.YtchbammjcnhkiaaDoorW.PrintLast Go.Proofs.YtchbammjcnhkiaaDoorW.PrintMore PCellPlays
theorem copy_out (w : World) (k : Int) (A B : Option Addr) (c d : Nat) (l : List S80) (m : List S64) (h : Put w A B c d l m) :
    Calls Tryd.prog 12 #[.agg #[.int .i64 k, .slice A l.length c, .slice B m.length d]] w fun e w' => ∃ A' B' c' d', e = .returned (.agg #[.int .i64 k, .slice A' l.length c', .slice B' m.length d']) ∧ Put w' A' B' c' d' l m ∧ Kd.R k80 80 w' w.heap.size (fun _ => True) (.slice A' l.length c') l ∧ Kd.R k64 64 w' w.heap.size (fun _ => True) (.slice B' m.length d') m ∧ Below w.heap.size w w' := by
  have h1 := h.s1
  have h2 := h.s2
  have hf : oncewebbase_CopyOut.f k l m = some (k, l, m) := by
    have e1 : oncewebbase_CopyValue.f l = some l := by
      unfold oncewebbase_CopyValue.f
      rw [Option.bind_some, if_pos (by simp; omega), List.nil_append]
    have e2 : oncewebbase_CopyFail.f m = some m := by
      unfold oncewebbase_CopyFail.f
      rw [Option.bind_some, if_pos (by simp; omega), List.nil_append]
    unfold oncewebbase_CopyOut.f
    rw [e1, e2]
    rfl
  refine (oncewebbase_CopyOut.calls k A c l B d m k l m w h.r1 h.c1 h.r2 h.c2 hf).mono ?_
  rintro _ w' ⟨u, v, rfl, hu, hv, hb⟩
  obtain ⟨A', c', rfl⟩ := Kd.R_slice hu
  obtain ⟨B', d', rfl⟩ := Kd.R_slice hv
  have hru := Kd.R_reads' hu
  have hrv := Kd.R_reads' hv
  exact ⟨A', B', c', d', rfl, ⟨hru.2.2, by have := hru.2.1; omega, h1, hrv.2.2, by have := hrv.2.1; omega, h2, h.laid.below hb⟩, hu, hv, hb⟩
theorem Owns.at_ {w : World} {b base : Nat} {s : Cel} {l : List S80} {m : List S64} (h : Owns w b base s l m) : ∃ u v, At w b s u v := ⟨_, _, h.choose_spec.choose_spec.1⟩
theorem Owns.lt {w : World} {b base : Nat} {s : Cel} {l : List S80} {m : List S64} (h : Owns w b base s l m) : b < w.heap.size := by
  obtain ⟨u, v, h1, _⟩ := h
  exact blk_lt h1
theorem Owns.below {w w' : World} {b base : Nat} {s : Cel} {l : List S80} {m : List S64} (h : Owns w b base s l m) (hb : Below w.heap.size w w') : Owns w' b base s l m := by
  obtain ⟨u, v, h1, h2, h3⟩ := h
  exact ⟨u, v, blk_below h1 hb, Kd.R_below h2 hb, Kd.R_below h3 hb⟩
theorem Owns.drewN {w : World} {b base : Nat} {s : Cel} {l : List S80} {m : List S64} (h : Owns w b base s l m) (n : Nat) : Owns (w.drewN n) b base s l m := by
  obtain ⟨u, v, h1, h2, h3⟩ := h
  exact ⟨u, v, h1.drewN n, Kd.R_drewN h2 n, Kd.R_drewN h3 n⟩
theorem Owns.lower {w : World} {b base base' : Nat} {s : Cel} {l : List S80} {m : List S64} (h : Owns w b base s l m) (hb : base' ≤ base) : Owns w b base' s l m := by
  obtain ⟨u, v, h1, h2, h3⟩ := h
  exact ⟨u, v, h1, Kd.R_lower h2 hb, Kd.R_lower h3 hb⟩
theorem Owns.turned {w w' : World} {b base : Nat} {s s' : Cel} {l : List S80} {m : List S64} (h : Owns w b base s l m) (hc : Chg (· = b) w w') (ha : ∀ u v, At w b s u v → At w' b s' u v) : Owns w' b base s' l m := by
  obtain ⟨u, v, h1, h2, h3⟩ := h
  exact Owns.chg h2 h3 hc (ha u v h1)
theorem Owns.nil {w : World} {b base : Nat} {s : Cel} (h : At w b s (.slice none 0 0) (.slice none 0 0)) : Owns w b base s [] [] := ⟨_, _, h, Kd.R_nil _ _ _ _ _, Kd.R_nil _ _ _ _ _⟩
/-- What stands of a cell. -/
structure Well (s : Cel) : Prop where
  pol : polOk s.tries s.base s.factor s.cap
  st : s.state = 1 ∨ s.state = 2 ∨ s.state = 3 ∨ s.state = 4 ∨ s.state = 5
  g0 : 0 ≤ s.gen
  g1 : s.gen ≤ 1048576
  f0 : 0 ≤ s.fails
  f1 : s.fails ≤ max 1 s.tries
  l0 : 0 ≤ s.last
  l1 : s.last ≤ 1099511627776
  idle : s.state = 1 → s.fails = 0
  run : s.state = 2 → s.fails < max 1 s.tries
theorem Well.fails {s : Cel} (h : Well s) : s.fails < 1000 := by
  have h1 := h.f1
  have h2 := h.pol
  unfold polOk at h2
  omega
theorem Well.pols {s : Cel} (h : Well s) (hm : s.fails < s.tries) : Pol s := by
  have h1 := h.f0
  rcases h.pol with ⟨h2, _⟩ | ⟨_, ⟨h3, _⟩, ⟨h5, h6⟩, h7, h8⟩
  · omega
  · exact ⟨h3, h7, h8, by omega, h6⟩
def beginE (s : Cel) (task t : Int) : Int := if 0 ≤ task ∧ task < 128 then (if nowB s t = true then (if askB s t = 1 then (if s.gen < 1048576 then 0 else 111) else 7) else 1) else 1
def BeginRel (s : Cel) (task t r e : Int) (s' : Cel) : Prop :=
  e = beginE s task t ∧ ((e ≠ 0 ∧ r = 0 ∧ s' = s) ∨ (e = 0 ∧ 0 ≤ task ∧ task < 128 ∧ nowB s t = true ∧ askB s t = 1 ∧ s.gen < 1048576 ∧ r = s.gen + 1 ∧ s' = begunC s task t))
theorem begin_o (w : World) (b base : Nat) (s : Cel) (l : List S80) (m : List S64) (task t : Int) (h : Owns w b base s l m) (hw : Well s) :
    ∃ r e s' l' m', BeginRel s task t r e s' ∧ (e ≠ 0 → l' = l ∧ m' = m) ∧ (e = 0 → l' = [] ∧ m' = []) ∧ BeginC w b task t r e (fun w' => Chg (· = b) w w' ∧ Owns w' b base s' l' m') := by
  obtain ⟨u, v, ha⟩ := h.at_
  unfold BeginRel beginE
  by_cases h0 : 0 ≤ task ∧ task < 128
  · by_cases hn : nowB s t = true
    · by_cases hk : askB s t = 1
      · by_cases hg : s.gen < 1048576
        · refine ⟨s.gen + 1, 0, begunC s task t, [], [], ⟨by rw [if_pos h0, if_pos hn, if_pos hk, if_pos hg], .inr ⟨rfl, h0.1, h0.2, hn, hk, hg, rfl, rfl⟩⟩, fun h => absurd rfl h, fun _ => ⟨rfl, rfl⟩, ?_⟩
          refine (begin_ok w b s u v task t ha h0.1 h0.2 hn hk hg hw.g0).mono ?_
          rintro _ w' ⟨rfl, h1, h2⟩
          exact ⟨rfl, h2, Owns.nil h1⟩
        · refine ⟨0, 111, s, l, m, ⟨by rw [if_pos h0, if_pos hn, if_pos hk, if_neg hg], .inl ⟨by decide, rfl, rfl⟩⟩, fun _ => ⟨rfl, rfl⟩, fun h => absurd h (by decide), ?_⟩
          refine (begin_spent w b s u v task t ha h0.1 h0.2 hn hk (by omega)).mono ?_
          rintro _ w' ⟨rfl, n, rfl⟩
          exact ⟨rfl, (Chg.refl _ w).drewN n, h.drewN n⟩
      · refine ⟨0, 7, s, l, m, ⟨by rw [if_pos h0, if_pos hn, if_neg hk], .inl ⟨by decide, rfl, rfl⟩⟩, fun _ => ⟨rfl, rfl⟩, fun h => absurd h (by decide), ?_⟩
        refine (begin_state w b s u v task t ha h0.1 h0.2 hn hk).mono ?_
        rintro _ w' ⟨rfl, n, rfl⟩
        exact ⟨rfl, (Chg.refl _ w).drewN n, h.drewN n⟩
    · refine ⟨0, 1, s, l, m, ⟨by rw [if_pos h0, if_neg hn], .inl ⟨by decide, rfl, rfl⟩⟩, fun _ => ⟨rfl, rfl⟩, fun h => absurd h (by decide), ?_⟩
      refine (begin_range w b s u v task t ha h0.1 h0.2 (by simpa using hn)).mono ?_
      rintro _ w' ⟨rfl, rfl⟩
      exact ⟨rfl, Chg.refl _ _, h⟩
  · refine ⟨0, 1, s, l, m, ⟨by rw [if_neg h0], .inl ⟨by decide, rfl, rfl⟩⟩, fun _ => ⟨rfl, rfl⟩, fun h => absurd h (by decide), ?_⟩
    refine (begin_low w b task t h0).mono ?_
    rintro _ w' ⟨rfl, rfl⟩
    exact ⟨rfl, Chg.refl _ _, h⟩
def endE (s : Cel) (task k : Int) (l : List S80) (m : List S64) (t : Int) : Int :=
  if 0 ≤ task ∧ task < 128 then (if s.state = 2 ∧ s.task = task then (if rightB k l m = true then (if nowB s t = true then 0 else 1) else 110) else 7) else 1
def endS (s : Cel) (k t : Int) : Cel := if k = 1 then readyC s t else if mayB (failC s k t) = true then againC s k t else failC s k t
theorem end_o (w : World) (b base : Nat) (s : Cel) (l : List S80) (m : List S64) (task k : Int) (A B : Option Addr) (c d : Nat) (vl : List S80) (fl : List S64) (t : Int) (h : Owns w b base s l m) (hbase : base ≤ w.heap.size) (hw : Well s) (hp : Put w A B c d vl fl) :
    ∃ e s' l' m', e = endE s task k vl fl t ∧ ((e ≠ 0 ∧ s' = s ∧ l' = l ∧ m' = m) ∨ (e = 0 ∧ (0 ≤ task ∧ task < 128) ∧ (s.state = 2 ∧ s.task = task) ∧ rightB k vl fl = true ∧ nowB s t = true ∧ s' = endS s k t ∧ l' = vl ∧ m' = fl)) ∧ EndC w b task k A B c d vl fl t e (fun w' => Chg (· = b) w w' ∧ Owns w' b base s' l' m') := by
  obtain ⟨u, v, ha⟩ := h.at_
  unfold endE
  by_cases h0 : 0 ≤ task ∧ task < 128
  · by_cases hs : s.state = 2 ∧ s.task = task
    · by_cases hr : rightB k vl fl = true
      · by_cases hn : nowB s t = true
        · refine ⟨0, endS s k t, vl, fl, by rw [if_pos h0, if_pos hs, if_pos hr, if_pos hn], .inr ⟨rfl, h0, hs, hr, hn, rfl, rfl, rfl⟩, ?_⟩
          unfold endS
          by_cases hk : k = 1
          · subst hk
            rw [if_pos rfl]
            refine (end_ready w b s u v task A B c d vl fl t ha hp h0.1 h0.2 hs.1 hs.2 hr hn).mono ?_
            rintro _ w' ⟨rfl, h1, h2⟩
            exact ⟨rfl, h1, h2.lower hbase⟩
          · rw [if_neg hk]
            by_cases hm : mayB (failC s k t) = true
            · rw [if_pos hm]
              have hp2 : Pol s := by
                refine hw.pols ?_
                unfold mayB failC at hm
                simp at hm
                omega
              refine (end_again w b s u v task k A B c d vl fl t ha hp h0.1 h0.2 hs.1 hs.2 hk hr hn hw.f0 hw.fails hm hp2).mono ?_
              rintro _ w' ⟨rfl, h1, h2⟩
              exact ⟨rfl, h1, h2.lower hbase⟩
            · rw [if_neg hm]
              refine (end_fail w b s u v task k A B c d vl fl t ha hp h0.1 h0.2 hs.1 hs.2 hk hr hn hw.f0 hw.fails (by simpa using hm)).mono ?_
              rintro _ w' ⟨rfl, h1, h2⟩
              exact ⟨rfl, h1, h2.lower hbase⟩
        · refine ⟨1, s, l, m, by rw [if_pos h0, if_pos hs, if_pos hr, if_neg hn], .inl ⟨by decide, rfl, rfl, rfl⟩, ?_⟩
          refine (end_late w b s u v task k A B c d vl fl t ha hp h0.1 h0.2 hs.1 hs.2 hr (by simpa using hn)).mono ?_
          rintro _ w' ⟨rfl, hb⟩
          exact ⟨rfl, Chg.of_below hb, h.below hb⟩
      · refine ⟨110, s, l, m, by rw [if_pos h0, if_pos hs, if_neg hr], .inl ⟨by decide, rfl, rfl, rfl⟩, ?_⟩
        refine (end_bad w b s u v task k A B c d vl fl t ha hp h0.1 h0.2 hs.1 hs.2 (by simpa using hr)).mono ?_
        rintro _ w' ⟨rfl, hb⟩
        exact ⟨rfl, Chg.of_below hb, h.below hb⟩
    · refine ⟨7, s, l, m, by rw [if_pos h0, if_neg hs], .inl ⟨by decide, rfl, rfl, rfl⟩, ?_⟩
      refine (end_state w b s u v task k A B c d vl fl t ha h0.1 h0.2 hs).mono ?_
      rintro _ w' ⟨rfl, hb⟩
      exact ⟨rfl, Chg.of_below hb, h.below hb⟩
  · refine ⟨1, s, l, m, by rw [if_neg h0], .inl ⟨by decide, rfl, rfl, rfl⟩, ?_⟩
    refine (end_low w b task k A B c d vl fl t h0).mono ?_
    rintro _ w' ⟨rfl, hb⟩
    exact ⟨rfl, Chg.of_below hb, h.below hb⟩
abbrev ResetC (w : World) (b : Nat) (t e : Int) (Q : World → Prop) : Prop := Calls Tryd.prog 13 #[.pointer (some ⟨b, 0, none⟩), .int .i64 t] w fun x w' => x = .returned (.int .i64 e) ∧ Q w'
def resetE (s : Cel) (t : Int) : Int := if nowB s t = true then (if (s.state ≠ 2 ∧ s.state ≠ 5) ∧ s.again = true then 0 else 7) else 1
theorem reset_o (w : World) (b base : Nat) (s : Cel) (l : List S80) (m : List S64) (t : Int) (h : Owns w b base s l m) :
    ∃ e s' l' m', e = resetE s t ∧ ((e ≠ 0 ∧ s' = s ∧ l' = l ∧ m' = m) ∨ (e = 0 ∧ nowB s t = true ∧ (s.state ≠ 2 ∧ s.state ≠ 5) ∧ s.again = true ∧ s' = idled s t ∧ l' = [] ∧ m' = [])) ∧ ResetC w b t e (fun w' => Chg (· = b) w w' ∧ Owns w' b base s' l' m') := by
  obtain ⟨u, v, ha⟩ := h.at_
  unfold resetE
  by_cases hn : nowB s t = true
  · by_cases hs : s.state ≠ 2 ∧ s.state ≠ 5
    · by_cases hg : s.again = true
      · refine ⟨0, idled s t, [], [], by rw [if_pos hn, if_pos ⟨hs, hg⟩], .inr ⟨rfl, hn, hs, hg, rfl, rfl, rfl⟩, ?_⟩
        refine (reset_ok w b s u v t ha hn hs.1 hs.2 hg).mono ?_
        rintro _ w' ⟨rfl, h1, h2⟩
        exact ⟨rfl, h2, Owns.nil h1⟩
      · refine ⟨7, s, l, m, by rw [if_pos hn, if_neg (fun k => hg k.2)], .inl ⟨by decide, rfl, rfl, rfl⟩, ?_⟩
        refine (reset_once w b s u v t ha hn hs.1 hs.2 (by simpa using hg)).mono ?_
        rintro _ w' ⟨rfl, rfl⟩
        exact ⟨rfl, Chg.refl _ _, h⟩
    · refine ⟨7, s, l, m, by rw [if_pos hn, if_neg (fun k => hs k.1)], .inl ⟨by decide, rfl, rfl, rfl⟩, ?_⟩
      refine (reset_no w b s u v t ha hn (by omega)).mono ?_
      rintro _ w' ⟨rfl, rfl⟩
      exact ⟨rfl, Chg.refl _ _, h⟩
  · refine ⟨1, s, l, m, by rw [if_neg hn], .inl ⟨by decide, rfl, rfl, rfl⟩, ?_⟩
    refine (reset_range w b s u v t ha (by simpa using hn)).mono ?_
    rintro _ w' ⟨rfl, rfl⟩
    exact ⟨rfl, Chg.refl _ _, h⟩
abbrev CloseC (w : World) (b : Nat) (e : Int) (Q : World → Prop) : Prop := Calls Tryd.prog 14 #[.pointer (some ⟨b, 0, none⟩)] w fun x w' => x = .returned (.int .i64 e) ∧ Q w'
def closeE (s : Cel) : Int := if s.state ≠ 2 ∧ s.state ≠ 5 then 0 else 7
def closedC (s : Cel) : Cel := { s with state := 5, next := 0 }
theorem close_o (w : World) (b base : Nat) (s : Cel) (l : List S80) (m : List S64) (h : Owns w b base s l m) :
    ∃ e s', e = closeE s ∧ ((e ≠ 0 ∧ s' = s) ∨ (e = 0 ∧ (s.state ≠ 2 ∧ s.state ≠ 5) ∧ s' = closedC s)) ∧ CloseC w b e (fun w' => Chg (· = b) w w' ∧ Owns w' b base s' l m) := by
  obtain ⟨u, v, ha, hu, hv⟩ := h
  unfold closeE
  by_cases hs : s.state ≠ 2 ∧ s.state ≠ 5
  · refine ⟨0, closedC s, by rw [if_pos hs], .inr ⟨rfl, hs, rfl⟩, ?_⟩
    refine (close_ok w b s u v ha hs.1 hs.2).mono ?_
    rintro _ w' ⟨rfl, h1, h2⟩
    exact ⟨rfl, h2, Owns.chg hu hv h2 h1⟩
  · refine ⟨7, s, by rw [if_neg hs], .inl ⟨by decide, rfl⟩, ?_⟩
    refine (close_no w b s u v ha (by omega)).mono ?_
    rintro _ w' ⟨rfl, rfl⟩
    exact ⟨rfl, Chg.refl _ _, ⟨u, v, ha, hu, hv⟩⟩
theorem told_o (w : World) (b base : Nat) (s : Cel) (l : List S80) (m : List S64) (h : Owns w b base s l m) (hw : Well s) : Calls Tryd.prog 15 #[.pointer (some ⟨b, 0, none⟩)] w fun e w' => e = .returned (.agg #[.int .i64 s.state, .int .i64 s.gen, .int .i64 s.task, .int .i64 s.fails, .int .i64 s.next]) ∧ Below w.heap.size w w' ∧ Owns w' b base s l m := by
  obtain ⟨u, v, ha⟩ := h.at_
  refine (told_any w b s u v ha (by have := hw.st; omega)).mono ?_
  rintro _ w' ⟨rfl, hb⟩
  exact ⟨rfl, hb, h.below hb⟩
theorem Well.begun {s : Cel} (h : Well s) {task t : Int} (hn : nowB s t = true) (ha : askB s t = 1) (hg : s.gen < 1048576) : Well (begunC s task t) := by
  have hk := now_ok hn
  have hf := h.f0
  have hf1 := h.f1
  have hg0 := h.g0
  refine ⟨h.pol, .inr (.inl rfl), ?_, ?_, hf, hf1, hk.1, hk.2, fun e => absurd (show (2 : Int) = 1 from e) (by decide), fun _ => ?_⟩
  · show 0 ≤ s.gen + 1; omega
  · show s.gen + 1 ≤ 1048576; omega
  show s.fails < max 1 s.tries
  unfold askB at ha
  rw [if_pos hk] at ha
  unfold meet at ha
  by_cases h1 : s.state = 1
  · have := h.idle h1; omega
  · rw [if_neg h1] at ha
    repeat' split at ha
    all_goals first | omega | skip
    rename_i hm
    have hm := hm.1
    unfold mayB at hm
    simp at hm
    omega
theorem Well.ended {s : Cel} (h : Well s) {k t : Int} (hn : nowB s t = true) (hs : s.state = 2) : Well (endS s k t) := by
  have hk := now_ok hn
  have hf := h.f0
  have hf1 := h.f1
  have hr := h.run hs
  unfold endS
  split
  · exact ⟨h.pol, .inr (.inr (.inl rfl)), h.g0, h.g1, hf, hf1, hk.1, hk.2, fun e => absurd (show (3 : Int) = 1 from e) (by decide), fun e => absurd (show (3 : Int) = 2 from e) (by decide)⟩
  · split
    · exact ⟨h.pol, .inr (.inr (.inr (.inl rfl))), h.g0, h.g1, by show 0 ≤ s.fails + 1; omega, by show s.fails + 1 ≤ max 1 s.tries; omega, hk.1, hk.2, fun e => absurd (show (4 : Int) = 1 from e) (by decide), fun e => absurd (show (4 : Int) = 2 from e) (by decide)⟩
    · exact ⟨h.pol, .inr (.inr (.inr (.inl rfl))), h.g0, h.g1, by show 0 ≤ s.fails + 1; omega, by show s.fails + 1 ≤ max 1 s.tries; omega, hk.1, hk.2, fun e => absurd (show (4 : Int) = 1 from e) (by decide), fun e => absurd (show (4 : Int) = 2 from e) (by decide)⟩
theorem Well.idled {s : Cel} (h : Well s) {t : Int} (hn : nowB s t = true) : Well (idled s t) := by
  have hk := now_ok hn
  exact ⟨h.pol, .inl rfl, h.g0, h.g1, by show (0 : Int) ≤ 0; omega, by show (0 : Int) ≤ max 1 s.tries; omega, hk.1, hk.2, fun _ => rfl, fun e => absurd (show (1 : Int) = 2 from e) (by decide)⟩
theorem Well.closed {s : Cel} (h : Well s) : Well (closedC s) :=
  ⟨h.pol, .inr (.inr (.inr (.inr rfl))), h.g0, h.g1, h.f0, h.f1, h.l0, h.l1, fun e => absurd (show (5 : Int) = 1 from e) (by decide), fun e => absurd (show (5 : Int) = 2 from e) (by decide)⟩
theorem Well.fresh {a : Bool} {tr ba fa ca : Int} (h : polOk tr ba fa ca) : Well (freshC a tr ba fa ca) :=
  ⟨h, .inl rfl, Int.le_refl _, show (0 : Int) ≤ 1048576 by decide, Int.le_refl _, by show (0 : Int) ≤ max 1 tr; omega, Int.le_refl _, show (0 : Int) ≤ 1099511627776 by decide, fun _ => rfl, fun e => absurd (show (1 : Int) = 2 from e) (by decide)⟩
end Go.Proofs.YtchbammjcnhkiaaDoor.Ce
