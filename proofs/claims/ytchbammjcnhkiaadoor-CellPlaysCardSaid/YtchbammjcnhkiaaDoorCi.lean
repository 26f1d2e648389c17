/- fail.Check; an outcome of one's own. -/
import Derived.Test.YtchbammjcnhkiaaDoorCh
import Derived.Deep.RegionHeld3
import Derived.Lib.SliceRun
namespace Go.Proofs.YtchbammjcnhkiaaDoor.Ce
open Go.RowKit Go.Maps Go.Proofs.YtchbammjcnhkiaaDoor Go.Proofs.YtchbammjcnhkiaaDoorW.PrintWords Go.Proofs.YtchbammjcnhkiaaDoorW.PrintLast Go.Proofs.YtchbammjcnhkiaaDoorW.PrintMore PCellPlays
attribute [local go_sem] max2_int min2_int max_two min_two max_three min_three
def fErr (l : List S64) : Int := if l.length ≤ 1024 then (if fWhole l then 0 else 5) else 3
theorem fcheck_is (w : World) (A : Option Addr) (c : Nat) (l : List S64) (hr : Kd.C k64 w A l.length l) (hc : l.length ≤ c) (hla : Laid w) :
    Calls Tryd.prog 43 #[.slice A l.length c] w fun e w' => e = .returned (.int .i64 (fErr l)) ∧ Below w.heap.size w w' := by
  have hm : l.length ≤ maxLen := hr.2.1
  by_cases hl : l.length ≤ 1024
  · have HW := Lib.hid (begins_is w A c l hr hc hl hla)
    have hl' : ¬ (1024 : Int) < (l.length : Int) := by omega
    have HV := Lib.hid (show fErr l = if fWhole l then 0 else 5 by unfold fErr; rw [if_pos hl])
    clear hr hc hla
    cases hv : fWhole l with
    | true =>
      rw [hv] at HW
      go_enter Tryd.func43, Tryd.ntmps43
      go_wp2_with (go_at_call 56; refine HW.out.mono ?_; rintro _ w1 ⟨v, rfl, hb⟩; have HB := Lib.hid hb; clear hb)
      go_ret
      exact ⟨by rw [HV.out, hv]; rfl, HB.out⟩
    | false =>
      rw [hv] at HW
      go_enter Tryd.func43, Tryd.ntmps43
      go_wp2_with (go_at_call 56; refine HW.out.mono ?_; rintro _ w1 ⟨v, rfl, hb⟩; have HB := Lib.hid hb; clear hb)
      go_ret
      exact ⟨by rw [HV.out, hv]; rfl, HB.out⟩
  · have hl' : (1024 : Int) < (l.length : Int) := by omega
    have HV := Lib.hid (show fErr l = 3 by unfold fErr; rw [if_neg hl])
    clear hr hc hl hla
    go_enter Tryd.func43, Tryd.ntmps43
    go_wp2_with fail
    go_ret
    exact ⟨by rw [HV.out]; rfl, Below.refl _ _⟩
set_option maxRecDepth 100000 in
theorem clone80_is (w : World) (A : Option Addr) (c : Nat) (l : List S80) (hr : Kd.C k80 w A l.length l) (hl : l.length * 40 ≤ 140737488355328) :
    Calls Tryd.prog 44 #[.slice A l.length c] w fun e w' => ∃ v, e = .returned v ∧ Kd.R k80 80 w' w.heap.size (fun _ => True) v l ∧ Below w.heap.size w w' := by
  have hnil := fun w => Lib.run_eql_slice_nil (P := Tryd.prog) w 33 80 A l.length c 0 0 Tryd.underlying33
  cases A with
  | none =>
    have h0 : l.length = 0 := by
      rcases Nat.eq_zero_or_pos l.length with h | h
      · exact h
      · obtain ⟨ad, h, _⟩ := hr.2.2 h
        cases h
    obtain rfl := List.eq_nil_of_length_eq_zero h0
    clear hr hl h0
    simp only [Option.isNone, List.length_nil] at hnil
    rw [List.length_nil]
    go_enter Tryd.func44, Tryd.ntmps44
    go_wp2_with fail
    go_ret
    exact ⟨_, rfl, Kd.R_nil _ _ _ _ _, Below.refl _ _⟩
  | some ad =>
    have HR := Lib.hid hr
    have HL := Lib.hid hl
    clear hr hl
    simp only [Option.isNone] at hnil
    go_enter Tryd.func44, Tryd.ntmps44
    go_wp2_with (first | ((with_reducible refine gate_dst (N := 5) rfl ?_); refine Kd.R_lit k80 (w0 := w) w.heap.size 80 rfl (N := 5) rfl (xs := ([] : List S80)) (inner := []) (ok := fun _ => True) (okp := fun _ => True) (by first | (go_simp; done) | (go_simp; rfl)) (Reps.none _ _) (fun _ hk => hk) trivial (Below.refl _ _) (Nat.le_refl _) (by simp) ?_; intro v1 w1 ho hb hg hn; have HO := Lib.hid ho; have HB := Lib.hid hb; clear ho hb hg hn) | ((with_reducible refine gate_builtin (b := .append) (xs := #[.tmp 5, .tmp 6]) rfl ?_); at_builtin; refine Kd.R_append_rows k80 (w0 := w) w.heap.size rfl (.tmp 5) (.tmp 6) 33 80 (.agg #[(.int .i64 0), (.int .i64 0), (.int .i64 0), (.string ⟨#[]⟩)]) 40 rfl Tryd.underlying33 info80 rfl (by decide) (by omega) v1 [] l _ _ _ (fun _ => True) (fun _ => False) rfl rfl HO.out (Kd.C_below HR.out HB.out) (fun _ _ h => h) (fun _ h => h.elim) (fun _ _ => trivial) HB.out HB.out.size (by have := HL.out; simp; omega) ?_; intro v2 w2 ho hb hg hat; have HO2 := Lib.hid ho; have HB2 := Lib.hid hb; clear ho hb hg hat))
    rw [List.nil_append] at HO2
    go_ret
    exact ⟨_, rfl, HO2.out, HB2.out⟩
set_option maxRecDepth 100000 in
theorem clone64_is (w : World) (A : Option Addr) (c : Nat) (l : List S64) (hr : Kd.C k64 w A l.length l) (hl : l.length * 32 ≤ 140737488355328) :
    Calls Tryd.prog 45 #[.slice A l.length c] w fun e w' => ∃ v, e = .returned v ∧ Kd.R k64 64 w' w.heap.size (fun _ => True) v l ∧ Below w.heap.size w w' := by
  have hnil := fun w => Lib.run_eql_slice_nil (P := Tryd.prog) w 35 64 A l.length c 0 0 Tryd.underlying35
  cases A with
  | none =>
    have h0 : l.length = 0 := by
      rcases Nat.eq_zero_or_pos l.length with h | h
      · exact h
      · obtain ⟨ad, h, _⟩ := hr.2.2 h
        cases h
    obtain rfl := List.eq_nil_of_length_eq_zero h0
    clear hr hl h0
    simp only [Option.isNone, List.length_nil] at hnil
    rw [List.length_nil]
    go_enter Tryd.func45, Tryd.ntmps45
    go_wp2_with fail
    go_ret
    exact ⟨_, rfl, Kd.R_nil _ _ _ _ _, Below.refl _ _⟩
  | some ad =>
    have HR := Lib.hid hr
    have HL := Lib.hid hl
    clear hr hl
    simp only [Option.isNone] at hnil
    go_enter Tryd.func45, Tryd.ntmps45
    go_wp2_with (first | ((with_reducible refine gate_dst (N := 5) rfl ?_); refine Kd.R_lit k64 (w0 := w) w.heap.size 64 rfl (N := 5) rfl (xs := ([] : List S64)) (inner := []) (ok := fun _ => True) (okp := fun _ => True) (by first | (go_simp; done) | (go_simp; rfl)) (Reps.none _ _) (fun _ hk => hk) trivial (Below.refl _ _) (Nat.le_refl _) (by simp) ?_; intro v1 w1 ho hb hg hn; have HO := Lib.hid ho; have HB := Lib.hid hb; clear ho hb hg hn) | ((with_reducible refine gate_builtin (b := .append) (xs := #[.tmp 5, .tmp 6]) rfl ?_); at_builtin; refine Kd.R_append_rows k64 (w0 := w) w.heap.size rfl (.tmp 5) (.tmp 6) 35 64 (.agg #[(.int .i64 0), (.int .i64 0), (.string ⟨#[]⟩)]) 32 rfl Tryd.underlying35 info64 rfl (by decide) (by omega) v1 [] l _ _ _ (fun _ => True) (fun _ => False) rfl rfl HO.out (Kd.C_below HR.out HB.out) (fun _ _ h => h) (fun _ h => h.elim) (fun _ _ => trivial) HB.out HB.out.size (by have := HL.out; simp; omega) ?_; intro v2 w2 ho hb hg hat; have HO2 := Lib.hid ho; have HB2 := Lib.hid hb; clear ho hb hg hat))
    rw [List.nil_append] at HO2
    go_ret
    exact ⟨_, rfl, HO2.out, HB2.out⟩
/-- An outcome behind its box, and the box of the answer. -/
structure Cp (w wr : World) (k : Int) (u v : Value) : Prop where
  blk : wr.heap[w.heap.size]? = some (.cells #[.int .i64 k, u, v] 37 (0, 0))
  res : wr.heap[w.heap.size + 1]? = some (.cells #[.int .i64 0, .slice none 0 0, .slice none 0 0] 37 (0, 0))
  bel : Below w.heap.size w wr
theorem Cp.below {w wr w3 : World} {k : Int} {u v : Value} (h : Cp w wr k u v) (hb : Below wr.heap.size wr w3) : Cp w w3 k u v := ⟨blk_below h.blk hb, blk_below h.res hb, below_step h.bel hb⟩
theorem Cp.facts {w wr : World} {k : Int} {u v : Value} (h : Cp w wr k u v) : wr.cell? ⟨w.heap.size, 0, none⟩ = some (.int .i64 k) ∧ wr.cell? ⟨w.heap.size, 1, none⟩ = some u ∧ wr.cell? ⟨w.heap.size, 2, none⟩ = some v ∧ wr.cell? ⟨w.heap.size + 1, 0, none⟩ = some (.int .i64 0) ∧ wr.cell? ⟨w.heap.size + 1, 1, none⟩ = some (.slice none 0 0) ∧ wr.cell? ⟨w.heap.size + 1, 2, none⟩ = some (.slice none 0 0) ∧ ∀ j, wr.frozen? ⟨w.heap.size + 1, j, none⟩ = false :=
  ⟨(blk_cell h.blk 0).trans rfl, (blk_cell h.blk 1).trans rfl, (blk_cell h.blk 2).trans rfl, (blk_cell h.res 0).trans rfl, (blk_cell h.res 1).trans rfl, (blk_cell h.res 2).trans rfl, blk_frozen h.res⟩
theorem Cp.stored {w wr : World} {k : Int} {u v : Value} (h : Cp w wr k u v) (x y z : Value) : (((wr.setCell ⟨w.heap.size + 1, 0, none⟩ x).setCell ⟨w.heap.size + 1, 1, none⟩ y).setCell ⟨w.heap.size + 1, 2, none⟩ z).cell? ⟨w.heap.size, 0, none⟩ = some (.int .i64 k) ∧ (((wr.setCell ⟨w.heap.size + 1, 0, none⟩ x).setCell ⟨w.heap.size + 1, 1, none⟩ y).setCell ⟨w.heap.size + 1, 2, none⟩ z).cell? ⟨w.heap.size, 1, none⟩ = some u ∧ (((wr.setCell ⟨w.heap.size + 1, 0, none⟩ x).setCell ⟨w.heap.size + 1, 1, none⟩ y).setCell ⟨w.heap.size + 1, 2, none⟩ z).cell? ⟨w.heap.size, 2, none⟩ = some v := by
  have hne : w.heap.size ≠ w.heap.size + 1 := by omega
  have hb : (((wr.setCell ⟨w.heap.size + 1, 0, none⟩ x).setCell ⟨w.heap.size + 1, 1, none⟩ y).setCell ⟨w.heap.size + 1, 2, none⟩ z).heap[w.heap.size]? = some (.cells #[.int .i64 k, u, v] 37 (0, 0)) := (Below.heap_setCell _ _ _ _ hne).trans ((Below.heap_setCell _ _ _ _ hne).trans ((Below.heap_setCell _ _ _ _ hne).trans h.blk))
  exact ⟨(blk_cell hb 0).trans rfl, (blk_cell hb 1).trans rfl, (blk_cell hb 2).trans rfl⟩
theorem Cp.apart {w wr w3 : World} {k : Int} {u v x : Value} {α : Type} {d : Kd α} {e : Nat} {ok : Nat → Prop} {xs : List α} (h : Cp w wr k u v) (hr : Kd.R d e w3 wr.heap.size ok x xs) : Kd.R d e w3 w.heap.size (fun k => k ≠ w.heap.size + 1) x xs := by
  have hl := blk_lt h.res
  exact Kd.R_lower (Kd.R_mono (Kd.R_bound hr) (fun k hk => by have := hk.2.1; omega)) (by omega)
theorem Cp.kept {w wr : World} {x : Value} {α : Type} {d : Kd α} {e : Nat} {xs : List α} (hr : Kd.R d e wr w.heap.size (fun k => k ≠ w.heap.size + 1) x xs) (a b c : Value) : Kd.R d e (((wr.setCell ⟨w.heap.size + 1, 0, none⟩ a).setCell ⟨w.heap.size + 1, 1, none⟩ b).setCell ⟨w.heap.size + 1, 2, none⟩ c) w.heap.size (fun _ => True) x xs :=
  Kd.R_mono (Kd.R_far (Kd.R_far (Kd.R_far hr (p := ⟨_, 0, none⟩) (fun _ h => h) a) (p := ⟨_, 1, none⟩) (fun _ h => h) b) (p := ⟨_, 2, none⟩) (fun _ h => h) c) (fun _ _ => trivial)
theorem Cp.ended {w wr : World} {k : Int} {u v : Value} (h : Cp w wr k u v) (a b c : Value) : (((wr.setCell ⟨w.heap.size + 1, 0, none⟩ a).setCell ⟨w.heap.size + 1, 1, none⟩ b).setCell ⟨w.heap.size + 1, 2, none⟩ c).heap[w.heap.size + 1]? = some (.cells #[a, b, c] 37 (0, 0)) ∧ Below w.heap.size w (((wr.setCell ⟨w.heap.size + 1, 0, none⟩ a).setCell ⟨w.heap.size + 1, 1, none⟩ b).setCell ⟨w.heap.size + 1, 2, none⟩ c) :=
  ⟨(blk_set (blk_set (blk_set h.res 0 a) 1 b) 2 c).trans rfl, Chg.below h.bel ((((Chg.refl (· = w.heap.size + 1) wr).setCell (p := ⟨_, 0, none⟩) rfl a).setCell (p := ⟨_, 1, none⟩) rfl b).setCell (p := ⟨_, 2, none⟩) rfl c) (fun i hi => by omega) h.bel.size⟩
set_option maxHeartbeats 4000000 in
theorem copied_is (w : World) (k : Int) (A B : Option Addr) (c d : Nat) (l : List S80) (m : List S64) (hr : Kd.C k80 w A l.length l) (hl : l.length * 40 ≤ 140737488355328) (hr2 : Kd.C k64 w B m.length m) (hl2 : m.length * 32 ≤ 140737488355328) :
    Calls Tryd.prog 25 #[.agg #[.int .i64 k, .slice A l.length c, .slice B m.length d]] w fun e w' => ∃ u v, e = .returned (.agg #[.int .i64 k, u, v]) ∧ Kd.R k80 80 w' w.heap.size (fun _ => True) u l ∧ Kd.R k64 64 w' w.heap.size (fun _ => True) v m ∧ Below w.heap.size w w' := by
  have HR := Lib.hid hr
  have HL := Lib.hid hl
  have HR2 := Lib.hid hr2
  have HL2 := Lib.hid hl2
  clear hr hl hr2 hl2
  go_enter Tryd.func25, Tryd.ntmps25
  go_wp2_with fail
  have HI : Cp w ((w.alloc (Obj.cells #[Value.int IntKind.i64 k, Value.slice A l.length c, Value.slice B m.length d] 37)).alloc (Obj.cells #[Value.int IntKind.i64 0, Value.slice none 0 0, Value.slice none 0 0] 37)) k (.slice A l.length c) (.slice B m.length d) := by
    refine ⟨blk_alloc (blk_new _ _) _, ?_, ((Below.refl _ _).alloc (Nat.le_refl _) _).alloc (by simp) _⟩
    have := blk_new (w.alloc (Obj.cells #[Value.int IntKind.i64 k, Value.slice A l.length c, Value.slice B m.length d] 37)) (Obj.cells #[Value.int IntKind.i64 0, Value.slice none 0 0, Value.slice none 0 0] 37)
    rwa [show (w.alloc (Obj.cells #[Value.int IntKind.i64 k, Value.slice A l.length c, Value.slice B m.length d] 37)).heap.size = w.heap.size + 1 by simp] at this
  generalize (w.alloc (Obj.cells #[Value.int IntKind.i64 k, Value.slice A l.length c, Value.slice B m.length d] 37)).alloc (Obj.cells #[Value.int IntKind.i64 0, Value.slice none 0 0, Value.slice none 0 0] 37) = w2 at HI ⊢
  have HI := Lib.hid (HI.below (Below.refl w2.heap.size w2).drew)
  have HE := Lib.hid HI.out.facts
  obtain ⟨c0, c1, c2, c3, c4, c5, cf⟩ := HE.out
  go_region_held3 (fun w' => w'.cell? ⟨w.heap.size, 0, none⟩ = some (.int .i64 k) ∧ w'.cell? ⟨w.heap.size, 1, none⟩ = some (.slice A l.length c) ∧ w'.cell? ⟨w.heap.size, 2, none⟩ = some (.slice B m.length d)) (first | exact HI4.out.stored _ _ _ | exact ⟨e0, e1, e2⟩ | exact ⟨d0, d1, d2⟩ | exact ⟨c0, c1, c2⟩) (first | (go_at_call 44; refine (clone80_is _ A c l (Kd.C_below HR.out HI.out.bel) HL.out).mono ?_; rintro _ w3 ⟨u, rfl, hu, hb⟩; obtain ⟨A1, c1, rfl⟩ := Kd.R_slice hu; have HU := Lib.hid (HI.out.apart hu); have HI3 := Lib.hid (HI.out.below hb); clear hu hb; obtain ⟨d0, d1, d2, d3, d4, d5, df⟩ := HI3.out.facts) | (go_at_call 45; refine (clone64_is _ B d m (Kd.C_below HR2.out HI3.out.bel) HL2.out).mono ?_; rintro _ w4 ⟨v, rfl, hv, hb⟩; obtain ⟨A2, c2, rfl⟩ := Kd.R_slice hv; have HU4 := Lib.hid (Kd.R_below HU.out hb); have HV := Lib.hid (HI3.out.apart hv); have HI4 := Lib.hid (HI3.out.below hb); clear hv hb; obtain ⟨e0, e1, e2, e3, e4, e5, ef⟩ := HI4.out.facts) | fail)
  have HN := Lib.hid (HI4.out.ended (.int .i64 k) (.slice A1 l.length c1) (.slice A2 m.length c2))
  go_wp2_with fail
  refine bodyPost_ret (results_single (r := .cell 2 37) rfl (.cell (w.heap.size + 1) 37 #[.int .i64 k, .slice A1 l.length c1, .slice A2 m.length c2] (0, 0) _ rfl HN.out.1 Tryd.underlying37 rfl (by kernel_rfl) .nil)) rfl ?_
  exact ⟨_, _, rfl, Cp.kept HU4.out _ _ _, Cp.kept HV.out _ _ _, HN.out.2⟩
end Go.Proofs.YtchbammjcnhkiaaDoor.Ce
