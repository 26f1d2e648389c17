/- CellStays walked: whatever the acts, it tells true. -/
import Derived.Test.YtchbammjcnhkiaaDoorCs
import Derived.Deep.RegionHeld3
import Derived.Deep.DeepCutAuto
import Derived.Deep.CutBlock
namespace Go.Proofs.YtchbammjcnhkiaaDoor.Ce
open Go.RowKit Go.Maps Go.Proofs.YtchbammjcnhkiaaDoor Go.Proofs.YtchbammjcnhkiaaDoorW.PrintWords Go.Proofs.YtchbammjcnhkiaaDoorW.PrintLast Go.Proofs.YtchbammjcnhkiaaDoorW.PrintMore PCellPlays
attribute [local go_sem] max2_int min2_int max_two min_two max_three min_three max_four min_four
/-- A cell that stays as it is. -/
def StaysB (s : Cel) (tr : Int) : Prop := s.state = 3 ∨ (s.state = 4 ∧ (s.kind = 3 ∨ tr ≤ s.fails))
theorem StaysB.may {s : Cel} {tr : Int} (h : StaysB s tr) (ht : s.tries = tr) : mayB s = false := by
  unfold mayB
  rcases h with h | ⟨h1, h2 | h2⟩
  · rw [h]; rfl
  · rw [h2]; simp
  · have : ¬ s.fails < s.tries := by omega
    simp [this]
theorem StaysB.ask {s : Cel} {tr : Int} (h : StaysB s tr) (ht : s.tries = tr) (t : Int) : askB s t = if okAt t then 3 else 0 := by
  unfold askB meet
  rw [h.may ht]
  rcases h with h | ⟨h, _⟩
  · rw [h]; rfl
  · rw [h]; rfl
theorem StaysB.not2 {s : Cel} {tr : Int} (h : StaysB s tr) : s.state ≠ 2 := by
  rcases h with h | ⟨h, _⟩ <;> omega
/-- What lies beside the cell in a round. -/
structure Fr (w w' : World) (b T O B : Nat) (s : Cel) (Ao Bo : Option Addr) (co od : Nat) (ol : List S80) (om : List S64) (bc : Array Value) (ag : Bool) (tr ba fa ca : Int) : Prop where
  t : w'.heap[T]? = some (.cells #[.int .i64 s.state, .int .i64 s.gen, .int .i64 s.task, .int .i64 s.fails, .int .i64 s.next] 48 (0, 0))
  o : w'.heap[O]? = some (.cells #[.int .i64 s.kind, .slice Ao ol.length co, .slice Bo om.length od] 37 (0, 0))
  x : w'.heap[B]? = some (.cells bc 39 (0, 0))
  n : NBk w w' b ag tr ba fa ca
  hT : T ≠ b
  hO : O ≠ b
  hB : B ≠ b
  u : Kd.R k80 80 w' w.heap.size (fun k => k ≠ b) (.slice Ao ol.length co) ol
  v : Kd.R k64 64 w' w.heap.size (fun k => k ≠ b) (.slice Bo om.length od) om
theorem Fr.chg {w w' w3 : World} {b T O B : Nat} {s : Cel} {Ao Bo : Option Addr} {co od : Nat} {ol : List S80} {om : List S64} {bc : Array Value} {ag : Bool} {tr ba fa ca : Int} (h : Fr w w' b T O B s Ao Bo co od ol om bc ag tr ba fa ca) (hc : Chg (· = b) w' w3) : Fr w w3 b T O B s Ao Bo co od ol om bc ag tr ba fa ca :=
  ⟨blk_chg h.t hc h.hT, blk_chg h.o hc h.hO, blk_chg h.x hc h.hB, h.n.chg hc, h.hT, h.hO, h.hB, Kd.R_step h.u (fun k ho hlt => hc.block k hlt ho), Kd.R_step h.v (fun k ho hlt => hc.block k hlt ho)⟩
theorem Fr.below {w w' w3 : World} {b T O B : Nat} {s : Cel} {Ao Bo : Option Addr} {co od : Nat} {ol : List S80} {om : List S64} {bc : Array Value} {ag : Bool} {tr ba fa ca : Int} (h : Fr w w' b T O B s Ao Bo co od ol om bc ag tr ba fa ca) (hb : Below w'.heap.size w' w3) : Fr w w3 b T O B s Ao Bo co od ol om bc ag tr ba fa ca :=
  h.chg (Chg.of_below hb)
theorem endS_tries (s : Cel) (k t : Int) : (endS s k t).tries = s.tries := by
  unfold endS
  repeat' split
  all_goals rfl
theorem outSz (s : Cel) {l : List S80} {m : List S64} (h : Sz l m) : Sz (outL s l) (outF s m) := by
  unfold outL outF
  split
  · exact ⟨by decide, by decide⟩
  · exact h
/-- What is read where a round ends: what was told, and what is told now. -/
structure Rd (w w' : World) (b T O B P : Nat) (s : Cel) (vl : List S80) (fl : List S64) (Ao Bo A2 B2 : Option Addr) (co od c2 d2 : Nat) (ol : List S80) (om : List S64) (bc : Array Value) (ag : Bool) (tr ba fa ca : Int) : Prop where
  i : LInv w w' b s vl fl
  f : Fr w w' b T O B s Ao Bo co od ol om bc ag tr ba fa ca
  p : w'.heap[P]? = some (.cells #[.int .i64 s.kind, .slice A2 ol.length c2, .slice B2 om.length d2] 37 (0, 0))
  u : Kd.R k80 80 w' w.heap.size (fun k => k ≠ b) (.slice A2 ol.length c2) ol
  v : Kd.R k64 64 w' w.heap.size (fun k => k ≠ b) (.slice B2 om.length d2) om
theorem Rd.below {w w' w3 : World} {b T O B P : Nat} {s : Cel} {vl : List S80} {fl : List S64} {Ao Bo A2 B2 : Option Addr} {co od c2 d2 : Nat} {ol : List S80} {om : List S64} {bc : Array Value} {ag : Bool} {tr ba fa ca : Int} (h : Rd w w' b T O B P s vl fl Ao Bo A2 B2 co od c2 d2 ol om bc ag tr ba fa ca) (hb : Below w'.heap.size w' w3) : Rd w w3 b T O B P s vl fl Ao Bo A2 B2 co od c2 d2 ol om bc ag tr ba fa ca :=
  ⟨h.i.below hb, h.f.below hb, blk_below h.p hb, Kd.R_below h.u hb, Kd.R_below h.v hb⟩
theorem Rd.same {w w' : World} {b T O B P : Nat} {s : Cel} {vl : List S80} {fl : List S64} {Ao Bo A2 B2 : Option Addr} {co od c2 d2 : Nat} {ol : List S80} {om : List S64} {bc : Array Value} {ag : Bool} {tr ba fa ca : Int} (h : Rd w w' b T O B P s vl fl Ao Bo A2 B2 co od c2 d2 ol om bc ag tr ba fa ca) (hz : Sz ol om) :
    Calls Tryd.prog 17 #[.agg #[.int .i64 s.kind, .slice A2 ol.length c2, .slice B2 om.length d2], .agg #[.int .i64 s.kind, .slice Ao ol.length co, .slice Bo om.length od]] w' fun e w3 => e = .returned (.bool true) ∧ Below w'.heap.size w' w3 :=
  same_out w' s.kind A2 B2 Ao Bo c2 d2 co od ol om hz (Kd.R_reads' h.u).2.2 (Kd.R_reads' h.u).2.1 (Kd.R_reads' h.v).2.2 (Kd.R_reads' h.v).2.1 (Kd.R_reads' h.f.u).2.2 (Kd.R_reads' h.f.u).2.1 (Kd.R_reads' h.f.v).2.2 (Kd.R_reads' h.f.v).2.1
theorem Rd.asked {w w' : World} {b T O B P : Nat} {s : Cel} {vl : List S80} {fl : List S64} {Ao Bo A2 B2 : Option Addr} {co od c2 d2 : Nat} {ol : List S80} {om : List S64} {bc : Array Value} {ag : Bool} {tr ba fa ca : Int} (h : Rd w w' b T O B P s vl fl Ao Bo A2 B2 co od c2 d2 ol om bc ag tr ba fa ca) {t r : Int} (hr : askB s t = r) :
    Calls Tryd.prog 18 #[.pointer (some ⟨b, 0, none⟩), .int .i64 t] w' fun e w3 => e = .returned (.int .i64 r) ∧ ∃ n, w3 = w'.drewN n := by
  obtain ⟨u, v, ha⟩ := h.i.own.at_
  exact ask_is w' b s u v t ha hr
theorem Rd.facts {w w' : World} {b T O B P : Nat} {s : Cel} {vl : List S80} {fl : List S64} {Ao Bo A2 B2 : Option Addr} {co od c2 d2 : Nat} {ol : List S80} {om : List S64} {a : ActV} {Bv Bf : Option Addr} {cv cf : Nat} {ag : Bool} {tr ba fa ca : Int} (h : Rd w w' b T O B P s vl fl Ao Bo A2 B2 co od c2 d2 ol om #[.int .i64 a.kind, .int .i64 a.task, .int .i64 a.time, .int .i64 a.ok, .slice Bv a.vl.length cv, .slice Bf a.fl.length cf] ag tr ba fa ca) :
    w'.cell? ⟨T, 0, none⟩ = some (.int .i64 s.state) ∧ w'.cell? ⟨T, 1, none⟩ = some (.int .i64 s.gen) ∧ w'.cell? ⟨T, 2, none⟩ = some (.int .i64 s.task) ∧ w'.cell? ⟨T, 3, none⟩ = some (.int .i64 s.fails) ∧ w'.cell? ⟨T, 4, none⟩ = some (.int .i64 s.next) ∧ w'.cell? ⟨O, 0, none⟩ = some (.int .i64 s.kind) ∧ w'.cell? ⟨O, 1, none⟩ = some (.slice Ao ol.length co) ∧ w'.cell? ⟨O, 2, none⟩ = some (.slice Bo om.length od) ∧ w'.cell? ⟨P, 0, none⟩ = some (.int .i64 s.kind) ∧ w'.cell? ⟨P, 1, none⟩ = some (.slice A2 ol.length c2) ∧ w'.cell? ⟨P, 2, none⟩ = some (.slice B2 om.length d2) ∧ w'.cell? ⟨B, 2, none⟩ = some (.int .i64 a.time) :=
  ⟨(blk_cell h.f.t 0).trans rfl, (blk_cell h.f.t 1).trans rfl, (blk_cell h.f.t 2).trans rfl, (blk_cell h.f.t 3).trans rfl, (blk_cell h.f.t 4).trans rfl, (blk_cell h.f.o 0).trans rfl, (blk_cell h.f.o 1).trans rfl, (blk_cell h.f.o 2).trans rfl, (blk_cell h.p 0).trans rfl, (blk_cell h.p 1).trans rfl, (blk_cell h.p 2).trans rfl, (blk_cell h.f.x 2).trans rfl⟩
structure SInv (w w' : World) (b : Nat) (s : Cel) (l : List S80) (m : List S64) (tr : Int) : Prop where
  i : LInv w w' b s l m
  z : Sz l m
  t : s.tries = tr
set_option maxHeartbeats 8000000 in
set_option maxRecDepth 100000 in
theorem walk_stays (w : World) (ag : Bool) (tr ba fa ca : Int) (A : Option Addr) (l : List ActV) (c : Nat) (hc : l.length ≤ c) (hr : Kd.C kact w A l.length l) (hok : ∀ x ∈ l, actOk x) (hla : Laid w) :
    Calls Tryd.prog 5 #[.agg #[.bool ag, .int .i64 tr, .int .i64 ba, .int .i64 fa, .int .i64 ca], .slice A l.length c] w fun e w' => e = .returned (.bool true) ∧ Below w.heap.size w w' := by
  have HR := Lib.hid hr
  have HOK := Lib.hid hok
  have HLA := Lib.hid hla
  have HM := Lib.hid (And.intro hr.2.1 hc)
  clear hr hok hla hc
  go_enter Tryd.func5, Tryd.ntmps5
  go_wp2_with fail
  refine (works_is _ (HLA.out.below ((Below.refl _ _).alloc (Nat.le_refl _) _))).mono ?_
  rintro _ w1 ⟨rfl, hb1⟩
  have kb := blk_below (blk_new w _) hb1
  have HN1 := Lib.hid kb
  have hw1 : w.heap.size < w1.heap.size := blk_lt kb
  have n0 := (blk_cell kb 0).trans rfl
  have n1 := (blk_cell kb 1).trans rfl
  have n2 := (blk_cell kb 2).trans rfl
  have n3 := (blk_cell kb 3).trans rfl
  have n4 := (blk_cell kb 4).trans rfl
  have HB1 := Lib.hid (below_via hb1)
  clear hb1 kb
  go_wp2_with fail
  by_cases hp : polOk tr ba fa ca
  rotate_left
  · refine (new_bad _ ag tr ba fa ca hp).mono ?_
    rintro _ w2 ⟨rfl, hb2⟩
    have HB2 := Lib.hid (below_step HB1.out hb2)
    clear hb2
    go_wp2_with fail
    go_ret
    exact ⟨rfl, HB2.out⟩
  refine (new_good _ ag tr ba fa ca hp).mono ?_
  rintro _ w2 ⟨b, rfl, h2, hb2, hbb⟩
  have HI := Lib.hid (show LInv w w2 b (freshC ag tr ba fa ca) [] [] from ⟨Nat.le_trans HB1.out.size hbb, Owns.nil h2, Well.fresh hp, below_step HB1.out hb2⟩)
  have HN := Lib.hid (show NBk w w2 b ag tr ba fa ca from ⟨Nat.lt_of_lt_of_le hw1 hbb, blk_below HN1.out hb2⟩)
  have HPO := Lib.hid hp
  clear h2 hb2 hbb n0 n1 n2 n3 n4 hp hw1 HN1
  go_wp2_with fail
  go_loopg [7] l.length (fun gk v7 wr => ∃ (i : Nat) (s : Cel) (vl : List S80) (fl : List S64), v7 = .int .i64 i ∧ gk = l.length - i ∧ i ≤ l.length ∧ Hid (LInv w wr b s vl fl) ∧ Hid (Sz vl fl ∧ s.tries = tr) ∧ Hid (NBk w wr b ag tr ba fa ca))
  case atStart => exact ⟨0, freshC ag tr ba fa ca, [], [], rfl, by simp, by omega, HI, Lib.hid ⟨⟨by decide, by decide⟩, rfl⟩, HN⟩
  case round =>
    clear HI HN
    obtain ⟨i, s, vl, fl, rfl, rfl, hil, HI, HZ, HN⟩ := hrel
    by_cases hlt : i < l.length
    rotate_left
    · have hlt' : ¬ (i : Int) < (l.length : Int) := by omega
      go_wp2_with fail
      go_ret
      exact ⟨rfl, HI.out.bel⟩
    have hlt' : (i : Int) < (l.length : Int) := by omega
    go_wp2_with fail
    refine (ltold HI.out).mono ?_
    rintro _ w3 ⟨rfl, h3, hb3⟩
    have HI3 := Lib.hid h3
    have HN3 := Lib.hid (HN.out.below hb3)
    clear h3 hb3 HI HN
    go_wp2_with fail
    have HX : ∃ w4 T, w4 = w3.alloc (.cells #[.int .i64 s.state, .int .i64 s.gen, .int .i64 s.task, .int .i64 s.fails, .int .i64 s.next] 48) ∧ T = w3.heap.size ∧ LInv w w4 b s vl fl ∧ w4.heap[T]? = some (.cells #[.int .i64 s.state, .int .i64 s.gen, .int .i64 s.task, .int .i64 s.fails, .int .i64 s.next] 48 (0, 0)) ∧ T ≠ b ∧ NBk w w4 b ag tr ba fa ca :=
      ⟨_, _, rfl, rfl, HI3.out.alloc _, blk_new w3 _, by have := HI3.out.own.lt; omega, HN3.out.below ((Below.refl _ _).alloc (Nat.le_refl _) _)⟩
    obtain ⟨w4, T, e4, eT, hI4, hT, hTb, hn4⟩ := HX
    rw [← e4, ← eT]
    have HI4 := Lib.hid hI4
    have HT := Lib.hid hT
    have HTB := Lib.hid hTb
    have HN4 := Lib.hid hn4
    clear e4 eT hI4 hT hTb hn4 HI3 HN3
    refine (outcome_o HI4.out HZ.out.1).mono ?_
    rintro _ w5 ⟨Ao, Bo, co, od, rfl, ht5, h5, hb5⟩
    have HTD := Lib.hid (And.intro (row_apart (w := w) (b := b) ht5.u HI4.out.own.lt HI4.out.bel.size) (row_apart (w := w) (b := b) ht5.v HI4.out.own.lt HI4.out.bel.size))
    have HI5 := Lib.hid h5
    have HT5 := Lib.hid (blk_below HT.out hb5)
    have HN5 := Lib.hid (HN4.out.below hb5)
    clear ht5 h5 hb5 HI4 HT HN4
    go_upto_region 11 with fail
    have HX : ∃ w6 O, w6 = w5.alloc (.cells #[.int .i64 s.kind, .slice Ao (outL s vl).length co, .slice Bo (outF s fl).length od] 37) ∧ O = w5.heap.size ∧ LInv w w6 b s vl fl ∧ w6.heap[T]? = some (.cells #[.int .i64 s.state, .int .i64 s.gen, .int .i64 s.task, .int .i64 s.fails, .int .i64 s.next] 48 (0, 0)) ∧ w6.heap[O]? = some (.cells #[.int .i64 s.kind, .slice Ao (outL s vl).length co, .slice Bo (outF s fl).length od] 37 (0, 0)) ∧ O ≠ b ∧ NBk w w6 b ag tr ba fa ca ∧ Kd.R k80 80 w6 w.heap.size (fun k => k ≠ b) (.slice Ao (outL s vl).length co) (outL s vl) ∧ Kd.R k64 64 w6 w.heap.size (fun k => k ≠ b) (.slice Bo (outF s fl).length od) (outF s fl) :=
      ⟨_, _, rfl, rfl, HI5.out.alloc _, blk_alloc HT5.out _, blk_new w5 _, by have := HI5.out.own.lt; omega, HN5.out.below ((Below.refl _ _).alloc (Nat.le_refl _) _), Kd.R_below HTD.out.1 ((Below.refl _ _).alloc (Nat.le_refl _) _), Kd.R_below HTD.out.2 ((Below.refl _ _).alloc (Nat.le_refl _) _)⟩
    obtain ⟨w6, O, e6, eO, hI6, hT6, hO6, hOb, hn6, hu6, hv6⟩ := HX
    rw [← e6, ← eO]
    have HI6 := Lib.hid hI6
    have HT6 := Lib.hid hT6
    have HO6 := Lib.hid hO6
    have HOB := Lib.hid hOb
    have HN6 := Lib.hid hn6
    have HUV6 := Lib.hid (And.intro hu6 hv6)
    clear e6 eO hI6 hT6 hO6 hOb hn6 hu6 hv6 HI5 HT5 HN5 HTD
    go_cut [11] (fun v11 wx => wx = w6 ∧ ∃ st : Bool, v11 = .bool st ∧ Hid (st = true → StaysB s tr))
    case first =>
      have t0 := (blk_cell HT6.out 0).trans rfl
      have t3 := (blk_cell HT6.out 3).trans rfl
      have o0 := (blk_cell HO6.out 0).trans rfl
      have n1 := (blk_cell HN6.out.2 1).trans rfl
      by_cases h3 : s.state = 3
      · have b3 : (s.state == 3) = true := by simpa using h3
        go_wp2_with fail
        go_meet
        case rel => exact ⟨rfl, true, rfl, Lib.hid (fun _ => .inl h3)⟩
      have b3 : (s.state == 3) = false := by simpa using h3
      by_cases h4 : s.state = 4
      rotate_left
      · have b4 : (s.state == 4) = false := by simpa using h4
        go_wp2_with fail
        go_meet
        case rel => exact ⟨rfl, false, rfl, Lib.hid (fun h => absurd h (by decide))⟩
      have b4 : (s.state == 4) = true := by simpa using h4
      by_cases h5 : s.kind = 3
      · have b5 : (s.kind == 3) = true := by simpa using h5
        go_wp2_with fail
        go_meet
        case rel => exact ⟨rfl, true, rfl, Lib.hid (fun _ => .inr ⟨h4, .inl h5⟩)⟩
      have b5 : (s.kind == 3) = false := by simpa using h5
      by_cases h6 : tr ≤ s.fails
      · go_wp2_with fail
        go_meet
        case rel => exact ⟨rfl, true, rfl, Lib.hid (fun _ => .inr ⟨h4, .inr h6⟩)⟩
      · go_wp2_with fail
        go_meet
        case rel => exact ⟨rfl, false, rfl, Lib.hid (fun h => absurd h (by decide))⟩
    case rest =>
    obtain ⟨rfl, st, rfl, HST⟩ := hcut
    obtain ⟨ad, Bv, cv, Bf, cf, rfl, p0, p1, p2, p3, p4, p5, hv1, hv2, hv3⟩ := act_at (Kd.C_below HR.out HI6.out.bel) HOK.out i hlt
    generalize l[i] = a at p0 p1 p2 p3 p4 p5 hv1 hv2 hv3
    have HP := Lib.hid (show Put wc Bv Bf cv cf a.vl a.fl from ⟨hv1.2, hv1.1, hv3.1, hv2.2, hv2.1, hv3.2, HLA.out.below HI6.out.bel⟩)
    have hwi : wrap64 ((i : Int) + 1) = ((i + 1 : Nat) : Int) := by
      have h9 : l.length ≤ maxLen := HM.out.1
      simp only [maxLen] at h9
      rw [← i64_w, IntWalk.i64_in _ (by omega)]; omega
    clear hv1 hv2 hv3
    go_wp2_with fail
    generalize hkr : amongB a.kind = kr
    have hk5 := hkr ▸ among_cases a.kind
    refine (among_be a.kind _ hkr).mono ?_
    rintro _ w7 ⟨rfl, m, rfl⟩
    clear hkr p0 p1 p2 p3 p4 p5
    have HX : ∃ w8 B, w8 = (wc.alloc (.cells #[.int .i64 a.kind, .int .i64 a.task, .int .i64 a.time, .int .i64 a.ok, .slice Bv a.vl.length cv, .slice Bf a.fl.length cf] 39)).drewN m ∧ B = wc.heap.size ∧ LInv w w8 b s vl fl ∧ w8.heap[B]? = some (.cells #[.int .i64 a.kind, .int .i64 a.task, .int .i64 a.time, .int .i64 a.ok, .slice Bv a.vl.length cv, .slice Bf a.fl.length cf] 39 (0, 0)) ∧ B ≠ b ∧ Put w8 Bv Bf cv cf a.vl a.fl ∧ Fr w w8 b T O B s Ao Bo co od (outL s vl) (outF s fl) #[.int .i64 a.kind, .int .i64 a.task, .int .i64 a.time, .int .i64 a.ok, .slice Bv a.vl.length cv, .slice Bf a.fl.length cf] ag tr ba fa ca :=
      ⟨_, _, rfl, rfl, (HI6.out.alloc _).drewN m, blk_new wc _, by have := HI6.out.own.lt; omega, HP.out.below (pw_below_drewN ((Below.refl _ _).alloc (Nat.le_refl _) _) m), ⟨blk_alloc HT6.out _, blk_alloc HO6.out _, blk_new wc _, HN6.out.below (pw_below_drewN ((Below.refl _ _).alloc (Nat.le_refl _) _) m), HTB.out, HOB.out, by have := HI6.out.own.lt; omega, Kd.R_below HUV6.out.1 (pw_below_drewN ((Below.refl _ _).alloc (Nat.le_refl _) _) m), Kd.R_below HUV6.out.2 (pw_below_drewN ((Below.refl _ _).alloc (Nat.le_refl _) _) m)⟩⟩
    obtain ⟨w4, B, e4, eB, hI4, hbx, hBb, hp4, hn4⟩ := HX
    rw [← e4, ← eB]
    have HI4 := Lib.hid hI4
    have HBX := Lib.hid hbx
    have HBB := Lib.hid hBb
    have HP4 := Lib.hid hp4
    have HN4 := Lib.hid hn4
    clear e4 eB hI4 hBb hp4 hn4 HI6 HP HT6 HO6 HN6 HUV6 HOB HTB
    have q0 := (blk_cell hbx 0).trans rfl
    have q1 := (blk_cell hbx 1).trans rfl
    have q2 := (blk_cell hbx 2).trans rfl
    have q3 := (blk_cell hbx 3).trans rfl
    have q4 := (blk_cell hbx 4).trans rfl
    have q5 := (blk_cell hbx 5).trans rfl
    have hBl := blk_lt hbx
    clear hbx
    have HAZ := Lib.hid (show Sz a.vl a.fl from ⟨HP4.out.s1, HP4.out.s2⟩)
    go_upto_block 2 with fail
    go_cut [] (fun wx => ∃ (s' : Cel) (vl' : List S80) (fl' : List S64), Hid (LInv w wx b s' vl' fl') ∧ Hid (Sz vl' fl' ∧ s'.tries = tr) ∧ Hid (Fr w wx b T O B s Ao Bo co od (outL s vl) (outF s fl) #[.int .i64 a.kind, .int .i64 a.task, .int .i64 a.time, .int .i64 a.ok, .slice Bv a.vl.length cv, .slice Bf a.fl.length cf] ag tr ba fa ca) ∧ Hid (st = true → s' = s ∧ vl' = vl ∧ fl' = fl))
    case first =>
      rcases hk5 with rfl | rfl | rfl | rfl | rfl
      case inl =>
        obtain ⟨r, e, s', vl', fl', hrel, hl1, hl2, hcall⟩ := lbegin HI4.out a.task a.time
        have HC := Lib.hid hcall
        have HR' := Lib.hid (show (Sz vl' fl' ∧ s'.tries = tr) ∧ (st = true → s' = s ∧ vl' = vl ∧ fl' = fl) from by
          rcases hrel.2 with ⟨he, _, rfl⟩ | ⟨he, _, _, _, hak, _, _, rfl⟩
          · obtain ⟨rfl, rfl⟩ := hl1 he
            exact ⟨HZ.out, fun _ => ⟨rfl, rfl, rfl⟩⟩
          · obtain ⟨rfl, rfl⟩ := hl2 he
            exact ⟨⟨⟨by decide, by decide⟩, HZ.out.2⟩, fun hs => by
              rw [(HST.out hs).ask HZ.out.2] at hak
              split at hak <;> exact absurd hak (by decide)⟩)
        clear hcall hl1 hl2 hrel
        go_wp2_with fail
        refine HC.out.mono ?_
        rintro _ w5 ⟨rfl, hI5, hc5⟩
        have HI5 := Lib.hid hI5
        have HN5 := Lib.hid (HN4.out.chg hc5)
        clear HC hI5 hc5 q0 q1 q2 q3 q4 q5
        go_wp2_with fail
        go_meet
        case rel => exact ⟨s', vl', fl', HI5, Lib.hid HR'.out.1, HN5, Lib.hid HR'.out.2⟩
      case inr.inl =>
        have HI4d := Lib.hid (HI4.out.drewN 1)
        have HP4d := Lib.hid (HP4.out.below (pw_below_drewN (Below.refl _ _) 1))
        have HN4d := Lib.hid (HN4.out.below (pw_below_drewN (Below.refl _ _) 1))
        clear q0
        go_wp2_with fail
        go_region_held3 (fun w' => w'.cell? ⟨B, 1, none⟩ = some (.int .i64 a.task) ∧ w'.cell? ⟨B, 2, none⟩ = some (.int .i64 a.time) ∧ w'.cell? ⟨B, 3, none⟩ = some (.int .i64 a.ok) ∧ w'.cell? ⟨B, 4, none⟩ = some (.slice Bv a.vl.length cv) ∧ w'.cell? ⟨B, 5, none⟩ = some (.slice Bf a.fl.length cf)) (first | exact ⟨f1, f2, f3, f4, f5⟩ | exact ⟨r1, r2, r3, r4, r5⟩ | exact ⟨q1, q2, q3, q4, q5⟩) (first | (go_at_call 12; refine (copy_out _ a.ok Bv Bf cv cf a.vl a.fl HP4d.out).mono ?_; rintro _ w5 ⟨A', B', c', d', rfl, hp5, -, -, hb5⟩; have HP5 := Lib.hid hp5; have HI5 := Lib.hid (HI4d.out.below hb5); have HN5 := Lib.hid (HN4d.out.below hb5); have HBX5 := Lib.hid (blk_below (w := w4.drew) HBX.out hb5); clear hp5 hb5; have r1 := (blk_cell HBX5.out 1).trans rfl; have r2 := (blk_cell HBX5.out 2).trans rfl; have r3 := (blk_cell HBX5.out 3).trans rfl; have r4 := (blk_cell HBX5.out 4).trans rfl; have r5 := (blk_cell HBX5.out 5).trans rfl) | (go_at_call 11; obtain ⟨e, s', vl', fl', -, hrel, hcall⟩ := lend HI5.out a.task a.ok A' B' c' d' a.vl a.fl a.time HP5.out; refine hcall.mono ?_; rintro _ w6 ⟨rfl, hI6, hc6⟩; have HREL := Lib.hid hrel; have HI6 := Lib.hid hI6; have HN6 := Lib.hid (HN5.out.chg hc6); have HBX6 := Lib.hid (blk_chg HBX5.out hc6 HBB.out); clear hrel hI6 hc6 hcall; have f1 := (blk_cell HBX6.out 1).trans rfl; have f2 := (blk_cell HBX6.out 2).trans rfl; have f3 := (blk_cell HBX6.out 3).trans rfl; have f4 := (blk_cell HBX6.out 4).trans rfl; have f5 := (blk_cell HBX6.out 5).trans rfl) | fail)
        clear q1 q2 q3 q4 q5 r1 r2 r3 r4 r5
        clear f1 f2 f3 f4 f5
        have HR' := Lib.hid (show (Sz vl' fl' ∧ s'.tries = tr) ∧ (st = true → s' = s ∧ vl' = vl ∧ fl' = fl) from by
          rcases HREL.out with ⟨_, rfl, rfl, rfl⟩ | ⟨_, _, h3, _, _, rfl, rfl, rfl⟩
          · exact ⟨HZ.out, fun _ => ⟨rfl, rfl, rfl⟩⟩
          · exact ⟨⟨HAZ.out, (endS_tries _ _ _).trans HZ.out.2⟩, fun hs => absurd h3.1 (HST.out hs).not2⟩)
        clear HREL
        go_wp2_with fail
        go_meet
        case rel => exact ⟨s', vl', fl', HI6, Lib.hid HR'.out.1, HN6, Lib.hid HR'.out.2⟩
      case inr.inr.inl =>
        obtain ⟨e, s', vl', fl', -, hrel, hcall⟩ := lreset HI4.out a.time
        have HC := Lib.hid hcall
        have HR' := Lib.hid (show (Sz vl' fl' ∧ s'.tries = tr) ∧ ((e ≠ 0 ∧ s' = s ∧ vl' = vl ∧ fl' = fl) ∨ e = 0) from by
          rcases hrel with ⟨he, rfl, rfl, rfl⟩ | ⟨he, _, _, _, rfl, rfl, rfl⟩
          · exact ⟨HZ.out, .inl ⟨he, rfl, rfl, rfl⟩⟩
          · exact ⟨⟨⟨by decide, by decide⟩, HZ.out.2⟩, .inr he⟩)
        clear hcall hrel
        go_wp2_with fail
        refine HC.out.mono ?_
        rintro _ w5 ⟨rfl, hI5, hc5⟩
        have HI5 := Lib.hid hI5
        have HN5 := Lib.hid (HN4.out.chg hc5)
        clear HC hI5 hc5 q0 q1 q2 q3 q4 q5
        have HZ' := Lib.hid HR'.out.1
        rcases HR'.out.2 with ⟨he, h9⟩ | rfl
        · have heb : (e == 0) = false := by simpa using he
          have HS9 := Lib.hid h9
          clear he h9 HR'
          go_wp2_with fail
          go_meet
          case rel => exact ⟨s', vl', fl', HI5, HZ', HN5, Lib.hid (fun _ => HS9.out)⟩
        · clear HR'
          go_wp2_with fail
          go_roundg (l.length - (i + 1))
          case measure => omega
          case rel => exact ⟨i + 1, s', vl', fl', by first | rfl | rw [hwi], rfl, by omega, HI5, HZ', Lib.hid HN5.out.n⟩
      case inr.inr.inr.inl =>
        obtain ⟨e, s', -, hrel, hcall⟩ := lclose HI4.out
        have HC := Lib.hid hcall
        have HR' := Lib.hid (show (Sz vl fl ∧ s'.tries = tr) ∧ ((e ≠ 0 ∧ s' = s) ∨ e = 0) from by
          rcases hrel with ⟨he, rfl⟩ | ⟨he, _, rfl⟩
          · exact ⟨HZ.out, .inl ⟨he, rfl⟩⟩
          · exact ⟨HZ.out, .inr he⟩)
        clear hcall hrel
        go_wp2_with fail
        refine HC.out.mono ?_
        rintro _ w5 ⟨rfl, hI5, hc5⟩
        have HI5 := Lib.hid hI5
        have HN5 := Lib.hid (HN4.out.chg hc5)
        clear HC hI5 hc5 q0 q1 q2 q3 q4 q5
        have HZ' := Lib.hid HR'.out.1
        rcases HR'.out.2 with ⟨he, h9⟩ | rfl
        · have heb : (e == 0) = false := by simpa using he
          have HS9 := Lib.hid h9
          clear he h9 HR'
          go_wp2_with fail
          go_meet
          case rel => exact ⟨s', vl, fl, HI5, HZ', HN5, Lib.hid (fun _ => ⟨HS9.out, rfl, rfl⟩)⟩
        · clear HR'
          go_wp2_with fail
          go_roundg (l.length - (i + 1))
          case measure => omega
          case rel => exact ⟨i + 1, s', vl, fl, by first | rfl | rw [hwi], rfl, by omega, HI5, HZ', Lib.hid HN5.out.n⟩
      case inr.inr.inr.inr =>
        clear q0 q1 q2 q3 q4 q5
        go_wp2_with fail
        go_meet
        case rel => exact ⟨s, vl, fl, HI4, HZ, HN4, Lib.hid (fun _ => ⟨rfl, rfl, rfl⟩)⟩
    case rest =>
    clear HI4 HP4 HN4 HBX q0 q1 q2 q3 q4 q5 hBl hk5
    obtain ⟨s', vl', fl', HI9, HZ9, HF9, HS9⟩ := hcut
    cases st with
    | false =>
      go_wp2_with fail
      go_roundg (l.length - (i + 1))
      case measure => omega
      case rel => exact ⟨i + 1, s', vl', fl', by first | rfl | rw [hwi], rfl, by omega, HI9, HZ9, Lib.hid HF9.out.n⟩
    | true =>
      obtain ⟨rfl, rfl, rfl⟩ := HS9.out rfl
      have HASK := Lib.hid ((HST.out rfl).ask HZ.out.2 a.time)
      clear HS9 HST
      go_wp2_with fail
      refine (outcome_o HI9.out HZ9.out.1).mono ?_
      rintro _ w5 ⟨A2, B2, c2, d2, rfl, ht5, h5, hb5⟩
      have HTD := Lib.hid (And.intro (row_apart (w := w) (b := b) ht5.u HI9.out.own.lt HI9.out.bel.size) (row_apart (w := w) (b := b) ht5.v HI9.out.own.lt HI9.out.bel.size))
      have HI5 := Lib.hid h5
      have HF5 := Lib.hid (HF9.out.below hb5)
      clear ht5 h5 hb5 HI9 HF9
      go_upto_region 24 with fail
      have HX : ∃ w6 P, w6 = w5.alloc (.cells #[.int .i64 s'.kind, .slice A2 (outL s' vl').length c2, .slice B2 (outF s' fl').length d2] 37) ∧ P = w5.heap.size ∧ Rd w w6 b T O B P s' vl' fl' Ao Bo A2 B2 co od c2 d2 (outL s' vl') (outF s' fl') #[.int .i64 a.kind, .int .i64 a.task, .int .i64 a.time, .int .i64 a.ok, .slice Bv a.vl.length cv, .slice Bf a.fl.length cf] ag tr ba fa ca :=
        ⟨_, _, rfl, rfl, ⟨HI5.out.alloc _, HF5.out.below ((Below.refl _ _).alloc (Nat.le_refl _) _), blk_new w5 _, Kd.R_below HTD.out.1 ((Below.refl _ _).alloc (Nat.le_refl _) _), Kd.R_below HTD.out.2 ((Below.refl _ _).alloc (Nat.le_refl _) _)⟩⟩
      obtain ⟨w6, P, e6, eP, hr6⟩ := HX
      rw [← e6, ← eP]
      have HR6 := Lib.hid (hr6.below (Below.refl w6.heap.size w6).drew)
      clear e6 eP hr6 HI5 HF5 HTD
      have HSZ := Lib.hid (outSz s' HZ.out.1)
      by_cases ha0 : 0 ≤ a.time
      rotate_left
      · clear HASK
        refine start_ (n := 27) (S := (fun w' => w'.cell? ⟨T, 0, none⟩ = some (.int .i64 s'.state) ∧ w'.cell? ⟨T, 1, none⟩ = some (.int .i64 s'.gen) ∧ w'.cell? ⟨T, 2, none⟩ = some (.int .i64 s'.task) ∧ w'.cell? ⟨T, 3, none⟩ = some (.int .i64 s'.fails) ∧ w'.cell? ⟨T, 4, none⟩ = some (.int .i64 s'.next) ∧ w'.cell? ⟨O, 0, none⟩ = some (.int .i64 s'.kind) ∧ w'.cell? ⟨O, 1, none⟩ = some (.slice Ao (outL s' vl').length co) ∧ w'.cell? ⟨O, 2, none⟩ = some (.slice Bo (outF s' fl').length od) ∧ w'.cell? ⟨P, 0, none⟩ = some (.int .i64 s'.kind) ∧ w'.cell? ⟨P, 1, none⟩ = some (.slice A2 (outL s' vl').length c2) ∧ w'.cell? ⟨P, 2, none⟩ = some (.slice B2 (outF s' fl').length d2) ∧ w'.cell? ⟨B, 2, none⟩ = some (.int .i64 a.time))) (ds := []) #[false, false, false, false, false, false, false, false, false, false, false, false, false, false, false, false, false, false, false, false, false, false, false, false, false, false, false] (by kernel_rfl) rfl rfl HR6.out.facts (fun hHeld => ?_)
        refine pure_ (i := 0) (N := some 106) (v := ?_) (a' := ?_) #[true, false, false, false, false, false, false, false, false, false, false, false, false, false, false, false, false, false, false, false, false, false, false, false, false, false, false] rfl rfl (by kernel_rfl) (fun _ _ _ h => h) (Or.inl ⟨by rfl, ?_⟩) ?_ ?_
        rotate_left
        · intro w'
          go_simp
          try with_reducible rfl
        rotate_left
        · simp only [Act.put, List.setIfInBounds_toArray, List.set_cons_zero, List.set_cons_succ]
          rfl
        refine take_ (i := 2) (N := some 108) (v := ?_) (a' := ?_) #[true, false, true, false, false, false, false, false, false, false, false, false, false, false, false, false, false, false, false, false, false, false, false, false, false, false, false] rfl rfl (by kernel_rfl) (fun _ _ _ h => h) (Or.inl ⟨by rfl, ?_⟩) hHeld ?_ ?_
        rotate_left
        · rintro w' ⟨s0, s1, s2, s3, s4, s5, s6, s7, s8, s9, s10, s11⟩
          go_simp
          try with_reducible rfl
        rotate_left
        · simp only [Act.put, List.setIfInBounds_toArray, List.set_cons_zero, List.set_cons_succ]
          rfl
        refine one_ (i := 1) (N := some 107) #[true, true, true, false, false, false, false, false, false, false, false, false, false, false, false, false, false, false, false, false, false, false, false, false, false, false, false] rfl rfl (by kernel_rfl) (by decide) (fun K hK => ?_)
        refine goes_ Tryd.func15 (by kernel_rfl) rfl #[.pointer (some ⟨b, 0, none⟩)] (by rfl) rfl rfl (by (try simp only [List.map_toArray, List.map_cons, List.map_nil]); first | done | rfl) ?_
        refine (ltold HR6.out.i).mono ?_
        rintro e w7 ⟨rfl, h7, hb7⟩
        refine ⟨_, rfl, ?_⟩
        have HR7 := Lib.hid (HR6.out.below hb7)
        clear h7 hb7
        refine hK.out _ _ HR7.out.facts (fun hHeld => ?_)
        clear hK K
        refine norm_ (a' := ?_) ?_ ?_
        rotate_left
        · show Act.put _ (some 107) _ = _
          simp only [Act.put, List.setIfInBounds_toArray, List.set_cons_zero, List.set_cons_succ]
          rfl
        refine pure_ (i := 3) (N := some 109) (v := ?_) (a' := ?_) #[true, true, true, true, false, false, false, false, false, false, false, false, false, false, false, false, false, false, false, false, false, false, false, false, false, false, false] rfl rfl (by kernel_rfl) (fun _ _ _ h => h) (Or.inl ⟨by rfl, ?_⟩) ?_ ?_
        rotate_left
        · intro w'
          go_simp
          try with_reducible rfl
        rotate_left
        · simp only [Act.put, List.setIfInBounds_toArray, List.set_cons_zero, List.set_cons_succ]
          rfl
        refine pure_ (i := 4) (N := some 110) (v := ?_) (a' := ?_) #[true, true, true, true, true, false, false, false, false, false, false, false, false, false, false, false, false, false, false, false, false, false, false, false, false, false, false] rfl rfl (by kernel_rfl) (fun _ _ _ h => h) (Or.inl ⟨by rfl, ?_⟩) ?_ ?_
        rotate_left
        · intro w'
          go_simp
          try with_reducible rfl
        rotate_left
        · simp only [Act.put, List.setIfInBounds_toArray, List.set_cons_zero, List.set_cons_succ]
          rfl
        refine take_ (i := 5) (N := some 111) (v := ?_) (a' := ?_) #[true, true, true, true, true, true, false, false, false, false, false, false, false, false, false, false, false, false, false, false, false, false, false, false, false, false, false] rfl rfl (by kernel_rfl) (fun _ _ _ h => h) (Or.inl ⟨by rfl, ?_⟩) hHeld ?_ ?_
        rotate_left
        · rintro w' ⟨s0, s1, s2, s3, s4, s5, s6, s7, s8, s9, s10, s11⟩
          go_simp
          try with_reducible rfl
        rotate_left
        · simp only [Act.put, List.setIfInBounds_toArray, List.set_cons_zero, List.set_cons_succ]
          rfl
        refine take_ (i := 6) (N := some 112) (v := ?_) (a' := ?_) #[true, true, true, true, true, true, true, false, false, false, false, false, false, false, false, false, false, false, false, false, false, false, false, false, false, false, false] rfl rfl (by kernel_rfl) (fun _ _ _ h => h) (Or.inl ⟨by rfl, ?_⟩) hHeld ?_ ?_
        rotate_left
        · rintro w' ⟨s0, s1, s2, s3, s4, s5, s6, s7, s8, s9, s10, s11⟩
          go_simp
          try with_reducible rfl
        rotate_left
        · simp only [Act.put, List.setIfInBounds_toArray, List.set_cons_zero, List.set_cons_succ]
          rfl
        refine one_ (i := 7) (N := some 113) #[true, true, true, true, true, true, true, true, false, false, false, false, false, false, false, false, false, false, false, false, false, false, false, false, false, false, false] rfl rfl (by kernel_rfl) (by decide) (fun K hK => ?_)
        refine goes_ Tryd.func17 (by kernel_rfl) rfl #[.agg #[.int .i64 s'.kind, .slice A2 (outL s' vl').length c2, .slice B2 (outF s' fl').length d2], .agg #[.int .i64 s'.kind, .slice Ao (outL s' vl').length co, .slice Bo (outF s' fl').length od]] (by rfl) rfl rfl (by (try simp only [List.map_toArray, List.map_cons, List.map_nil]); first | done | rfl) ?_
        refine (HR7.out.same HSZ.out).mono ?_
        rintro e w8 ⟨rfl, hb8⟩
        refine ⟨_, rfl, ?_⟩
        have HR8 := Lib.hid (HR7.out.below hb8)
        clear hb8
        refine hK.out _ _ HR8.out.facts (fun hHeld => ?_)
        clear hK K
        refine norm_ (a' := ?_) ?_ ?_
        rotate_left
        · show Act.put _ (some 113) _ = _
          simp only [Act.put, List.setIfInBounds_toArray, List.set_cons_zero, List.set_cons_succ]
          rfl
        refine pure_ (i := 8) (N := some 114) (v := ?_) (a' := ?_) #[true, true, true, true, true, true, true, true, true, false, false, false, false, false, false, false, false, false, false, false, false, false, false, false, false, false, false] rfl rfl (by kernel_rfl) (fun _ _ _ h => h) (Or.inl ⟨by rfl, ?_⟩) ?_ ?_
        rotate_left
        · intro w'
          go_simp
          try with_reducible rfl
        rotate_left
        · simp only [Act.put, List.setIfInBounds_toArray, List.set_cons_zero, List.set_cons_succ]
          rfl
        refine pure_ (i := 9) (N := some 115) (v := ?_) (a' := ?_) #[true, true, true, true, true, true, true, true, true, true, false, false, false, false, false, false, false, false, false, false, false, false, false, false, false, false, false] rfl rfl (by kernel_rfl) (fun _ _ _ h => h) (Or.inl ⟨by rfl, ?_⟩) ?_ ?_
        rotate_left
        · intro w'
          go_simp
          try with_reducible rfl
        rotate_left
        · simp only [Act.put, List.setIfInBounds_toArray, List.set_cons_zero, List.set_cons_succ]
          rfl
        refine pure_ (i := 10) (N := some 116) (v := ?_) (a' := ?_) #[true, true, true, true, true, true, true, true, true, true, true, false, false, false, false, false, false, false, false, false, false, false, false, false, false, false, false] rfl rfl (by kernel_rfl) (fun _ _ _ h => h) (Or.inl ⟨by rfl, ?_⟩) ?_ ?_
        rotate_left
        · intro w'
          go_simp
          try with_reducible rfl
        rotate_left
        · simp only [Act.put, List.setIfInBounds_toArray, List.set_cons_zero, List.set_cons_succ]
          rfl
        refine pure_ (i := 11) (N := some 117) (v := ?_) (a' := ?_) #[true, true, true, true, true, true, true, true, true, true, true, true, false, false, false, false, false, false, false, false, false, false, false, false, false, false, false] rfl rfl (by kernel_rfl) (fun _ _ _ h => h) (Or.inl ⟨by rfl, ?_⟩) ?_ ?_
        rotate_left
        · intro w'
          go_simp
          try with_reducible rfl
        rotate_left
        · simp only [Act.put, List.setIfInBounds_toArray, List.set_cons_zero, List.set_cons_succ]
          rfl
        refine take_ (i := 12) (N := some 118) (v := ?_) (a' := ?_) #[true, true, true, true, true, true, true, true, true, true, true, true, true, false, false, false, false, false, false, false, false, false, false, false, false, false, false] rfl rfl (by kernel_rfl) (fun _ _ _ h => h) (Or.inl ⟨by rfl, ?_⟩) hHeld ?_ ?_
        rotate_left
        · rintro w' ⟨s0, s1, s2, s3, s4, s5, s6, s7, s8, s9, s10, s11⟩
          go_simp
          try with_reducible rfl
        rotate_left
        · simp only [Act.put, List.setIfInBounds_toArray, List.set_cons_zero, List.set_cons_succ]
          rfl
        refine pure_ (i := 13) (N := some 119) (v := ?_) (a' := ?_) #[true, true, true, true, true, true, true, true, true, true, true, true, true, true, false, false, false, false, false, false, false, false, false, false, false, false, false] rfl rfl (by kernel_rfl) (fun _ _ _ h => h) (Or.inl ⟨by rfl, ?_⟩) ?_ ?_
        rotate_left
        · intro w'
          go_simp
          try with_reducible rfl
        rotate_left
        · simp only [Act.put, List.setIfInBounds_toArray, List.set_cons_zero, List.set_cons_succ]
          rfl
        refine pure_ (i := 14) (N := some 120) (v := ?_) (a' := ?_) #[true, true, true, true, true, true, true, true, true, true, true, true, true, true, true, false, false, false, false, false, false, false, false, false, false, false, false] rfl rfl (by kernel_rfl) (fun _ _ _ h => h) (Or.inl ⟨by rfl, ?_⟩) ?_ ?_
        rotate_left
        · intro w'
          go_simp
          try with_reducible rfl
        rotate_left
        · simp only [Act.put, List.setIfInBounds_toArray, List.set_cons_zero, List.set_cons_succ]
          rfl
        refine pure_ (i := 15) (N := some 121) (v := undef) (a' := ?_) #[true, true, true, true, true, true, true, true, true, true, true, true, true, true, true, true, false, false, false, false, false, false, false, false, false, false, false] rfl rfl (by kernel_rfl) (fun _ _ _ h => h) (Or.inr ⟨by rfl, rfl⟩) ?_ ?_
        rotate_left
        · simp only [Act.put, List.setIfInBounds_toArray, List.set_cons_zero, List.set_cons_succ]
          rfl
        refine pure_ (i := 16) (N := some 122) (v := undef) (a' := ?_) #[true, true, true, true, true, true, true, true, true, true, true, true, true, true, true, true, true, false, false, false, false, false, false, false, false, false, false] rfl rfl (by kernel_rfl) (fun _ _ _ h => h) (Or.inr ⟨by rfl, rfl⟩) ?_ ?_
        rotate_left
        · simp only [Act.put, List.setIfInBounds_toArray, List.set_cons_zero, List.set_cons_succ]
          rfl
        refine pure_ (i := 17) (N := some 123) (v := undef) (a' := ?_) #[true, true, true, true, true, true, true, true, true, true, true, true, true, true, true, true, true, true, false, false, false, false, false, false, false, false, false] rfl rfl (by kernel_rfl) (fun _ _ _ h => h) (Or.inr ⟨by rfl, rfl⟩) ?_ ?_
        rotate_left
        · simp only [Act.put, List.setIfInBounds_toArray, List.set_cons_zero, List.set_cons_succ]
          rfl
        refine pure_ (i := 18) (N := some 124) (v := ?_) (a' := ?_) #[true, true, true, true, true, true, true, true, true, true, true, true, true, true, true, true, true, true, true, false, false, false, false, false, false, false, false] rfl rfl (by kernel_rfl) (fun _ _ _ h => h) (Or.inl ⟨by rfl, ?_⟩) ?_ ?_
        rotate_left
        · intro w'
          go_simp
          try with_reducible rfl
        rotate_left
        · simp only [Act.put, List.setIfInBounds_toArray, List.set_cons_zero, List.set_cons_succ]
          rfl
        refine pure_ (i := 19) (N := some 125) (v := ?_) (a' := ?_) #[true, true, true, true, true, true, true, true, true, true, true, true, true, true, true, true, true, true, true, true, false, false, false, false, false, false, false] rfl rfl (by kernel_rfl) (fun _ _ _ h => h) (Or.inl ⟨by rfl, ?_⟩) ?_ ?_
        rotate_left
        · intro w'
          go_simp
          try with_reducible rfl
        rotate_left
        · simp only [Act.put, List.setIfInBounds_toArray, List.set_cons_zero, List.set_cons_succ]
          rfl
        refine pure_ (i := 20) (N := some 126) (v := undef) (a' := ?_) #[true, true, true, true, true, true, true, true, true, true, true, true, true, true, true, true, true, true, true, true, true, false, false, false, false, false, false] rfl rfl (by kernel_rfl) (fun _ _ _ h => h) (Or.inr ⟨by rfl, rfl⟩) ?_ ?_
        rotate_left
        · simp only [Act.put, List.setIfInBounds_toArray, List.set_cons_zero, List.set_cons_succ]
          rfl
        refine pure_ (i := 21) (N := some 127) (v := undef) (a' := ?_) #[true, true, true, true, true, true, true, true, true, true, true, true, true, true, true, true, true, true, true, true, true, true, false, false, false, false, false] rfl rfl (by kernel_rfl) (fun _ _ _ h => h) (Or.inr ⟨by rfl, rfl⟩) ?_ ?_
        rotate_left
        · simp only [Act.put, List.setIfInBounds_toArray, List.set_cons_zero, List.set_cons_succ]
          rfl
        refine pure_ (i := 22) (N := some 128) (v := undef) (a' := ?_) #[true, true, true, true, true, true, true, true, true, true, true, true, true, true, true, true, true, true, true, true, true, true, true, false, false, false, false] rfl rfl (by kernel_rfl) (fun _ _ _ h => h) (Or.inr ⟨by rfl, rfl⟩) ?_ ?_
        rotate_left
        · simp only [Act.put, List.setIfInBounds_toArray, List.set_cons_zero, List.set_cons_succ]
          rfl
        refine pure_ (i := 23) (N := some 129) (v := undef) (a' := ?_) #[true, true, true, true, true, true, true, true, true, true, true, true, true, true, true, true, true, true, true, true, true, true, true, true, false, false, false] rfl rfl (by kernel_rfl) (fun _ _ _ h => h) (Or.inr ⟨by rfl, rfl⟩) ?_ ?_
        rotate_left
        · simp only [Act.put, List.setIfInBounds_toArray, List.set_cons_zero, List.set_cons_succ]
          rfl
        refine pure_ (i := 24) (N := some 130) (v := undef) (a' := ?_) #[true, true, true, true, true, true, true, true, true, true, true, true, true, true, true, true, true, true, true, true, true, true, true, true, true, false, false] rfl rfl (by kernel_rfl) (fun _ _ _ h => h) (Or.inr ⟨by rfl, rfl⟩) ?_ ?_
        rotate_left
        · simp only [Act.put, List.setIfInBounds_toArray, List.set_cons_zero, List.set_cons_succ]
          rfl
        refine pure_ (i := 25) (N := some 131) (v := ?_) (a' := ?_) #[true, true, true, true, true, true, true, true, true, true, true, true, true, true, true, true, true, true, true, true, true, true, true, true, true, true, false] rfl rfl (by kernel_rfl) (fun _ _ _ h => h) (Or.inl ⟨by rfl, ?_⟩) ?_ ?_
        rotate_left
        · intro w'
          go_simp
          try with_reducible rfl
        rotate_left
        · simp only [Act.put, List.setIfInBounds_toArray, List.set_cons_zero, List.set_cons_succ]
          rfl
        refine pure_ (i := 26) (N := some 132) (v := ?_) (a' := ?_) #[true, true, true, true, true, true, true, true, true, true, true, true, true, true, true, true, true, true, true, true, true, true, true, true, true, true, true] rfl rfl (by kernel_rfl) (fun _ _ _ h => h) (Or.inl ⟨by rfl, ?_⟩) ?_ ?_
        rotate_left
        · intro w'
          go_simp
          try with_reducible rfl
        rotate_left
        · simp only [Act.put, List.setIfInBounds_toArray, List.set_cons_zero, List.set_cons_succ]
          rfl
        refine done_ (by kernel_rfl) ?_
        go_wp2_with fail
        go_roundg (l.length - (i + 1))
        case measure => omega
        case rel => exact ⟨i + 1, s', vl', fl', by first | rfl | rw [hwi], rfl, by omega, Lib.hid HR8.out.i, HZ9, Lib.hid HR8.out.f.n⟩
      by_cases ha1 : a.time ≤ 1099511627776
      rotate_left
      · clear HASK
        refine start_ (n := 27) (S := (fun w' => w'.cell? ⟨T, 0, none⟩ = some (.int .i64 s'.state) ∧ w'.cell? ⟨T, 1, none⟩ = some (.int .i64 s'.gen) ∧ w'.cell? ⟨T, 2, none⟩ = some (.int .i64 s'.task) ∧ w'.cell? ⟨T, 3, none⟩ = some (.int .i64 s'.fails) ∧ w'.cell? ⟨T, 4, none⟩ = some (.int .i64 s'.next) ∧ w'.cell? ⟨O, 0, none⟩ = some (.int .i64 s'.kind) ∧ w'.cell? ⟨O, 1, none⟩ = some (.slice Ao (outL s' vl').length co) ∧ w'.cell? ⟨O, 2, none⟩ = some (.slice Bo (outF s' fl').length od) ∧ w'.cell? ⟨P, 0, none⟩ = some (.int .i64 s'.kind) ∧ w'.cell? ⟨P, 1, none⟩ = some (.slice A2 (outL s' vl').length c2) ∧ w'.cell? ⟨P, 2, none⟩ = some (.slice B2 (outF s' fl').length d2) ∧ w'.cell? ⟨B, 2, none⟩ = some (.int .i64 a.time))) (ds := []) #[false, false, false, false, false, false, false, false, false, false, false, false, false, false, false, false, false, false, false, false, false, false, false, false, false, false, false] (by kernel_rfl) rfl rfl HR6.out.facts (fun hHeld => ?_)
        refine pure_ (i := 0) (N := some 106) (v := ?_) (a' := ?_) #[true, false, false, false, false, false, false, false, false, false, false, false, false, false, false, false, false, false, false, false, false, false, false, false, false, false, false] rfl rfl (by kernel_rfl) (fun _ _ _ h => h) (Or.inl ⟨by rfl, ?_⟩) ?_ ?_
        rotate_left
        · intro w'
          go_simp
          try with_reducible rfl
        rotate_left
        · simp only [Act.put, List.setIfInBounds_toArray, List.set_cons_zero, List.set_cons_succ]
          rfl
        refine take_ (i := 2) (N := some 108) (v := ?_) (a' := ?_) #[true, false, true, false, false, false, false, false, false, false, false, false, false, false, false, false, false, false, false, false, false, false, false, false, false, false, false] rfl rfl (by kernel_rfl) (fun _ _ _ h => h) (Or.inl ⟨by rfl, ?_⟩) hHeld ?_ ?_
        rotate_left
        · rintro w' ⟨s0, s1, s2, s3, s4, s5, s6, s7, s8, s9, s10, s11⟩
          go_simp
          try with_reducible rfl
        rotate_left
        · simp only [Act.put, List.setIfInBounds_toArray, List.set_cons_zero, List.set_cons_succ]
          rfl
        refine one_ (i := 1) (N := some 107) #[true, true, true, false, false, false, false, false, false, false, false, false, false, false, false, false, false, false, false, false, false, false, false, false, false, false, false] rfl rfl (by kernel_rfl) (by decide) (fun K hK => ?_)
        refine goes_ Tryd.func15 (by kernel_rfl) rfl #[.pointer (some ⟨b, 0, none⟩)] (by rfl) rfl rfl (by (try simp only [List.map_toArray, List.map_cons, List.map_nil]); first | done | rfl) ?_
        refine (ltold HR6.out.i).mono ?_
        rintro e w7 ⟨rfl, h7, hb7⟩
        refine ⟨_, rfl, ?_⟩
        have HR7 := Lib.hid (HR6.out.below hb7)
        clear h7 hb7
        refine hK.out _ _ HR7.out.facts (fun hHeld => ?_)
        clear hK K
        refine norm_ (a' := ?_) ?_ ?_
        rotate_left
        · show Act.put _ (some 107) _ = _
          simp only [Act.put, List.setIfInBounds_toArray, List.set_cons_zero, List.set_cons_succ]
          rfl
        refine pure_ (i := 3) (N := some 109) (v := ?_) (a' := ?_) #[true, true, true, true, false, false, false, false, false, false, false, false, false, false, false, false, false, false, false, false, false, false, false, false, false, false, false] rfl rfl (by kernel_rfl) (fun _ _ _ h => h) (Or.inl ⟨by rfl, ?_⟩) ?_ ?_
        rotate_left
        · intro w'
          go_simp
          try with_reducible rfl
        rotate_left
        · simp only [Act.put, List.setIfInBounds_toArray, List.set_cons_zero, List.set_cons_succ]
          rfl
        refine pure_ (i := 4) (N := some 110) (v := ?_) (a' := ?_) #[true, true, true, true, true, false, false, false, false, false, false, false, false, false, false, false, false, false, false, false, false, false, false, false, false, false, false] rfl rfl (by kernel_rfl) (fun _ _ _ h => h) (Or.inl ⟨by rfl, ?_⟩) ?_ ?_
        rotate_left
        · intro w'
          go_simp
          try with_reducible rfl
        rotate_left
        · simp only [Act.put, List.setIfInBounds_toArray, List.set_cons_zero, List.set_cons_succ]
          rfl
        refine take_ (i := 5) (N := some 111) (v := ?_) (a' := ?_) #[true, true, true, true, true, true, false, false, false, false, false, false, false, false, false, false, false, false, false, false, false, false, false, false, false, false, false] rfl rfl (by kernel_rfl) (fun _ _ _ h => h) (Or.inl ⟨by rfl, ?_⟩) hHeld ?_ ?_
        rotate_left
        · rintro w' ⟨s0, s1, s2, s3, s4, s5, s6, s7, s8, s9, s10, s11⟩
          go_simp
          try with_reducible rfl
        rotate_left
        · simp only [Act.put, List.setIfInBounds_toArray, List.set_cons_zero, List.set_cons_succ]
          rfl
        refine take_ (i := 6) (N := some 112) (v := ?_) (a' := ?_) #[true, true, true, true, true, true, true, false, false, false, false, false, false, false, false, false, false, false, false, false, false, false, false, false, false, false, false] rfl rfl (by kernel_rfl) (fun _ _ _ h => h) (Or.inl ⟨by rfl, ?_⟩) hHeld ?_ ?_
        rotate_left
        · rintro w' ⟨s0, s1, s2, s3, s4, s5, s6, s7, s8, s9, s10, s11⟩
          go_simp
          try with_reducible rfl
        rotate_left
        · simp only [Act.put, List.setIfInBounds_toArray, List.set_cons_zero, List.set_cons_succ]
          rfl
        refine one_ (i := 7) (N := some 113) #[true, true, true, true, true, true, true, true, false, false, false, false, false, false, false, false, false, false, false, false, false, false, false, false, false, false, false] rfl rfl (by kernel_rfl) (by decide) (fun K hK => ?_)
        refine goes_ Tryd.func17 (by kernel_rfl) rfl #[.agg #[.int .i64 s'.kind, .slice A2 (outL s' vl').length c2, .slice B2 (outF s' fl').length d2], .agg #[.int .i64 s'.kind, .slice Ao (outL s' vl').length co, .slice Bo (outF s' fl').length od]] (by rfl) rfl rfl (by (try simp only [List.map_toArray, List.map_cons, List.map_nil]); first | done | rfl) ?_
        refine (HR7.out.same HSZ.out).mono ?_
        rintro e w8 ⟨rfl, hb8⟩
        refine ⟨_, rfl, ?_⟩
        have HR8 := Lib.hid (HR7.out.below hb8)
        clear hb8
        refine hK.out _ _ HR8.out.facts (fun hHeld => ?_)
        clear hK K
        refine norm_ (a' := ?_) ?_ ?_
        rotate_left
        · show Act.put _ (some 113) _ = _
          simp only [Act.put, List.setIfInBounds_toArray, List.set_cons_zero, List.set_cons_succ]
          rfl
        refine pure_ (i := 8) (N := some 114) (v := ?_) (a' := ?_) #[true, true, true, true, true, true, true, true, true, false, false, false, false, false, false, false, false, false, false, false, false, false, false, false, false, false, false] rfl rfl (by kernel_rfl) (fun _ _ _ h => h) (Or.inl ⟨by rfl, ?_⟩) ?_ ?_
        rotate_left
        · intro w'
          go_simp
          try with_reducible rfl
        rotate_left
        · simp only [Act.put, List.setIfInBounds_toArray, List.set_cons_zero, List.set_cons_succ]
          rfl
        refine pure_ (i := 9) (N := some 115) (v := ?_) (a' := ?_) #[true, true, true, true, true, true, true, true, true, true, false, false, false, false, false, false, false, false, false, false, false, false, false, false, false, false, false] rfl rfl (by kernel_rfl) (fun _ _ _ h => h) (Or.inl ⟨by rfl, ?_⟩) ?_ ?_
        rotate_left
        · intro w'
          go_simp
          try with_reducible rfl
        rotate_left
        · simp only [Act.put, List.setIfInBounds_toArray, List.set_cons_zero, List.set_cons_succ]
          rfl
        refine pure_ (i := 10) (N := some 116) (v := ?_) (a' := ?_) #[true, true, true, true, true, true, true, true, true, true, true, false, false, false, false, false, false, false, false, false, false, false, false, false, false, false, false] rfl rfl (by kernel_rfl) (fun _ _ _ h => h) (Or.inl ⟨by rfl, ?_⟩) ?_ ?_
        rotate_left
        · intro w'
          go_simp
          try with_reducible rfl
        rotate_left
        · simp only [Act.put, List.setIfInBounds_toArray, List.set_cons_zero, List.set_cons_succ]
          rfl
        refine pure_ (i := 11) (N := some 117) (v := ?_) (a' := ?_) #[true, true, true, true, true, true, true, true, true, true, true, true, false, false, false, false, false, false, false, false, false, false, false, false, false, false, false] rfl rfl (by kernel_rfl) (fun _ _ _ h => h) (Or.inl ⟨by rfl, ?_⟩) ?_ ?_
        rotate_left
        · intro w'
          go_simp
          try with_reducible rfl
        rotate_left
        · simp only [Act.put, List.setIfInBounds_toArray, List.set_cons_zero, List.set_cons_succ]
          rfl
        refine take_ (i := 12) (N := some 118) (v := ?_) (a' := ?_) #[true, true, true, true, true, true, true, true, true, true, true, true, true, false, false, false, false, false, false, false, false, false, false, false, false, false, false] rfl rfl (by kernel_rfl) (fun _ _ _ h => h) (Or.inl ⟨by rfl, ?_⟩) hHeld ?_ ?_
        rotate_left
        · rintro w' ⟨s0, s1, s2, s3, s4, s5, s6, s7, s8, s9, s10, s11⟩
          go_simp
          try with_reducible rfl
        rotate_left
        · simp only [Act.put, List.setIfInBounds_toArray, List.set_cons_zero, List.set_cons_succ]
          rfl
        refine pure_ (i := 13) (N := some 119) (v := ?_) (a' := ?_) #[true, true, true, true, true, true, true, true, true, true, true, true, true, true, false, false, false, false, false, false, false, false, false, false, false, false, false] rfl rfl (by kernel_rfl) (fun _ _ _ h => h) (Or.inl ⟨by rfl, ?_⟩) ?_ ?_
        rotate_left
        · intro w'
          go_simp
          try with_reducible rfl
        rotate_left
        · simp only [Act.put, List.setIfInBounds_toArray, List.set_cons_zero, List.set_cons_succ]
          rfl
        refine pure_ (i := 14) (N := some 120) (v := ?_) (a' := ?_) #[true, true, true, true, true, true, true, true, true, true, true, true, true, true, true, false, false, false, false, false, false, false, false, false, false, false, false] rfl rfl (by kernel_rfl) (fun _ _ _ h => h) (Or.inl ⟨by rfl, ?_⟩) ?_ ?_
        rotate_left
        · intro w'
          go_simp
          try with_reducible rfl
        rotate_left
        · simp only [Act.put, List.setIfInBounds_toArray, List.set_cons_zero, List.set_cons_succ]
          rfl
        refine pure_ (i := 15) (N := some 121) (v := ?_) (a' := ?_) #[true, true, true, true, true, true, true, true, true, true, true, true, true, true, true, true, false, false, false, false, false, false, false, false, false, false, false] rfl rfl (by kernel_rfl) (fun _ _ _ h => h) (Or.inl ⟨by rfl, ?_⟩) ?_ ?_
        rotate_left
        · intro w'
          go_simp
          try with_reducible rfl
        rotate_left
        · simp only [Act.put, List.setIfInBounds_toArray, List.set_cons_zero, List.set_cons_succ]
          rfl
        refine take_ (i := 16) (N := some 122) (v := ?_) (a' := ?_) #[true, true, true, true, true, true, true, true, true, true, true, true, true, true, true, true, true, false, false, false, false, false, false, false, false, false, false] rfl rfl (by kernel_rfl) (fun _ _ _ h => h) (Or.inl ⟨by rfl, ?_⟩) hHeld ?_ ?_
        rotate_left
        · rintro w' ⟨s0, s1, s2, s3, s4, s5, s6, s7, s8, s9, s10, s11⟩
          go_simp
          try with_reducible rfl
        rotate_left
        · simp only [Act.put, List.setIfInBounds_toArray, List.set_cons_zero, List.set_cons_succ]
          rfl
        refine pure_ (i := 17) (N := some 123) (v := ?_) (a' := ?_) #[true, true, true, true, true, true, true, true, true, true, true, true, true, true, true, true, true, true, false, false, false, false, false, false, false, false, false] rfl rfl (by kernel_rfl) (fun _ _ _ h => h) (Or.inl ⟨by rfl, ?_⟩) ?_ ?_
        rotate_left
        · intro w'
          go_simp
          try with_reducible rfl
        rotate_left
        · simp only [Act.put, List.setIfInBounds_toArray, List.set_cons_zero, List.set_cons_succ]
          rfl
        refine pure_ (i := 18) (N := some 124) (v := ?_) (a' := ?_) #[true, true, true, true, true, true, true, true, true, true, true, true, true, true, true, true, true, true, true, false, false, false, false, false, false, false, false] rfl rfl (by kernel_rfl) (fun _ _ _ h => h) (Or.inl ⟨by rfl, ?_⟩) ?_ ?_
        rotate_left
        · intro w'
          go_simp
          try with_reducible rfl
        rotate_left
        · simp only [Act.put, List.setIfInBounds_toArray, List.set_cons_zero, List.set_cons_succ]
          rfl
        refine pure_ (i := 19) (N := some 125) (v := ?_) (a' := ?_) #[true, true, true, true, true, true, true, true, true, true, true, true, true, true, true, true, true, true, true, true, false, false, false, false, false, false, false] rfl rfl (by kernel_rfl) (fun _ _ _ h => h) (Or.inl ⟨by rfl, ?_⟩) ?_ ?_
        rotate_left
        · intro w'
          go_simp
          try with_reducible rfl
        rotate_left
        · simp only [Act.put, List.setIfInBounds_toArray, List.set_cons_zero, List.set_cons_succ]
          rfl
        refine pure_ (i := 20) (N := some 126) (v := undef) (a' := ?_) #[true, true, true, true, true, true, true, true, true, true, true, true, true, true, true, true, true, true, true, true, true, false, false, false, false, false, false] rfl rfl (by kernel_rfl) (fun _ _ _ h => h) (Or.inr ⟨by rfl, rfl⟩) ?_ ?_
        rotate_left
        · simp only [Act.put, List.setIfInBounds_toArray, List.set_cons_zero, List.set_cons_succ]
          rfl
        refine pure_ (i := 21) (N := some 127) (v := undef) (a' := ?_) #[true, true, true, true, true, true, true, true, true, true, true, true, true, true, true, true, true, true, true, true, true, true, false, false, false, false, false] rfl rfl (by kernel_rfl) (fun _ _ _ h => h) (Or.inr ⟨by rfl, rfl⟩) ?_ ?_
        rotate_left
        · simp only [Act.put, List.setIfInBounds_toArray, List.set_cons_zero, List.set_cons_succ]
          rfl
        refine pure_ (i := 22) (N := some 128) (v := undef) (a' := ?_) #[true, true, true, true, true, true, true, true, true, true, true, true, true, true, true, true, true, true, true, true, true, true, true, false, false, false, false] rfl rfl (by kernel_rfl) (fun _ _ _ h => h) (Or.inr ⟨by rfl, rfl⟩) ?_ ?_
        rotate_left
        · simp only [Act.put, List.setIfInBounds_toArray, List.set_cons_zero, List.set_cons_succ]
          rfl
        refine pure_ (i := 23) (N := some 129) (v := undef) (a' := ?_) #[true, true, true, true, true, true, true, true, true, true, true, true, true, true, true, true, true, true, true, true, true, true, true, true, false, false, false] rfl rfl (by kernel_rfl) (fun _ _ _ h => h) (Or.inr ⟨by rfl, rfl⟩) ?_ ?_
        rotate_left
        · simp only [Act.put, List.setIfInBounds_toArray, List.set_cons_zero, List.set_cons_succ]
          rfl
        refine pure_ (i := 24) (N := some 130) (v := undef) (a' := ?_) #[true, true, true, true, true, true, true, true, true, true, true, true, true, true, true, true, true, true, true, true, true, true, true, true, true, false, false] rfl rfl (by kernel_rfl) (fun _ _ _ h => h) (Or.inr ⟨by rfl, rfl⟩) ?_ ?_
        rotate_left
        · simp only [Act.put, List.setIfInBounds_toArray, List.set_cons_zero, List.set_cons_succ]
          rfl
        refine pure_ (i := 25) (N := some 131) (v := ?_) (a' := ?_) #[true, true, true, true, true, true, true, true, true, true, true, true, true, true, true, true, true, true, true, true, true, true, true, true, true, true, false] rfl rfl (by kernel_rfl) (fun _ _ _ h => h) (Or.inl ⟨by rfl, ?_⟩) ?_ ?_
        rotate_left
        · intro w'
          go_simp
          try with_reducible rfl
        rotate_left
        · simp only [Act.put, List.setIfInBounds_toArray, List.set_cons_zero, List.set_cons_succ]
          rfl
        refine pure_ (i := 26) (N := some 132) (v := ?_) (a' := ?_) #[true, true, true, true, true, true, true, true, true, true, true, true, true, true, true, true, true, true, true, true, true, true, true, true, true, true, true] rfl rfl (by kernel_rfl) (fun _ _ _ h => h) (Or.inl ⟨by rfl, ?_⟩) ?_ ?_
        rotate_left
        · intro w'
          go_simp
          try with_reducible rfl
        rotate_left
        · simp only [Act.put, List.setIfInBounds_toArray, List.set_cons_zero, List.set_cons_succ]
          rfl
        refine done_ (by kernel_rfl) ?_
        go_wp2_with fail
        go_roundg (l.length - (i + 1))
        case measure => omega
        case rel => exact ⟨i + 1, s', vl', fl', by first | rfl | rw [hwi], rfl, by omega, Lib.hid HR8.out.i, HZ9, Lib.hid HR8.out.f.n⟩
      have HASK := Lib.hid (show askB s' a.time = 3 by rw [HASK.out, if_pos ⟨ha0, ha1⟩])
      obtain ⟨g0, g1, g2, g3, g4, g5, g6, g7, g8, g9, g10, g11⟩ := HR6.out.facts
      first | (go_region_held3 (fun w' => w'.cell? ⟨T, 0, none⟩ = some (.int .i64 s'.state) ∧ w'.cell? ⟨T, 1, none⟩ = some (.int .i64 s'.gen) ∧ w'.cell? ⟨T, 2, none⟩ = some (.int .i64 s'.task) ∧ w'.cell? ⟨T, 3, none⟩ = some (.int .i64 s'.fails) ∧ w'.cell? ⟨T, 4, none⟩ = some (.int .i64 s'.next) ∧ w'.cell? ⟨O, 0, none⟩ = some (.int .i64 s'.kind) ∧ w'.cell? ⟨O, 1, none⟩ = some (.slice Ao (outL s' vl').length co) ∧ w'.cell? ⟨O, 2, none⟩ = some (.slice Bo (outF s' fl').length od) ∧ w'.cell? ⟨P, 0, none⟩ = some (.int .i64 s'.kind) ∧ w'.cell? ⟨P, 1, none⟩ = some (.slice A2 (outL s' vl').length c2) ∧ w'.cell? ⟨P, 2, none⟩ = some (.slice B2 (outF s' fl').length d2) ∧ w'.cell? ⟨B, 2, none⟩ = some (.int .i64 a.time)) (first | exact ⟨f0, f1, f2, f3, f4, f5, f6, f7, f8, f9, f10, f11⟩ | exact ⟨e0, e1, e2, e3, e4, e5, e6, e7, e8, e9, e10, e11⟩ | exact ⟨d0, d1, d2, d3, d4, d5, d6, d7, d8, d9, d10, d11⟩ | exact ⟨g0, g1, g2, g3, g4, g5, g6, g7, g8, g9, g10, g11⟩) (first | (go_at_call 15; refine (ltold HR6.out.i).mono ?_; rintro _ w7 ⟨rfl, h7, hb7⟩; have HR7 := Lib.hid (HR6.out.below hb7); clear h7 hb7; obtain ⟨d0, d1, d2, d3, d4, d5, d6, d7, d8, d9, d10, d11⟩ := HR7.out.facts) | (go_at_call 17; refine (HR7.out.same HSZ.out).mono ?_; rintro _ w8 ⟨rfl, hb8⟩; have HR8 := Lib.hid (HR7.out.below hb8); clear hb8; obtain ⟨e0, e1, e2, e3, e4, e5, e6, e7, e8, e9, e10, e11⟩ := HR8.out.facts) | (go_at_call 18; refine (HR8.out.asked HASK.out).mono ?_; rintro _ w9 ⟨rfl, n9, rfl⟩; have HR9 := Lib.hid (HR8.out.below (pw_below_drewN (Below.refl _ _) n9)); obtain ⟨f0, f1, f2, f3, f4, f5, f6, f7, f8, f9, f10, f11⟩ := HR9.out.facts) | fail)) | fail
      all_goals
        go_wp2_with fail
        go_roundg (l.length - (i + 1))
        case measure => omega
        case rel => exact ⟨i + 1, s', vl', fl', by first | rfl | rw [hwi], rfl, by omega, Lib.hid HR9.out.i, HZ9, Lib.hid HR9.out.f.n⟩
end Go.Proofs.YtchbammjcnhkiaaDoor.Ce
