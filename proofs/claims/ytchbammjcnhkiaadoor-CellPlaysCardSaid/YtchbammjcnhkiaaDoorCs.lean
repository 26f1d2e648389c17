/- What Outcome tells; outcomes that are the same. -/
import Derived.Test.YtchbammjcnhkiaaDoorCr
namespace Go.Proofs.YtchbammjcnhkiaaDoor.Ce
open Go.RowKit Go.Maps Go.Proofs.YtchbammjcnhkiaaDoor Go.Proofs.YtchbammjcnhkiaaDoorW.PrintWords Go.Proofs.YtchbammjcnhkiaaDoorW.PrintLast Go.Proofs.YtchbammjcnhkiaaDoorW.PrintMore PCellPlays
attribute [local go_sem] max2_int min2_int max_two min_two max_three min_three
def Sz (l : List S80) (m : List S64) : Prop := l.length * 40 ≤ 140737488351232 ∧ m.length * 32 ≤ 140737488351232
def outL (s : Cel) (l : List S80) : List S80 := if s.kind = 0 then [] else l
def outF (s : Cel) (m : List S64) : List S64 := if s.kind = 0 then [] else m
def outE (s : Cel) : Int := if s.kind = 0 then 4 else 0
theorem outcome_no (w : World) (b : Nat) (s : Cel) (u v : Value) (h : At w b s u v) (hk : s.kind = 0) :
    Calls Tryd.prog 16 #[.pointer (some ⟨b, 0, none⟩)] w fun e w' => e = .returned (.tuple #[.agg #[.int .i64 0, .slice none 0 0, .slice none 0 0], .int .i64 4]) ∧ Below w.heap.size w w' := by
  obtain ⟨-, -, -, -, -, -, -, -, -, -, -, f11, -, -, -⟩ := At.facts (w := w.alloc (.cells #[.int .i64 0, .slice none 0 0, .slice none 0 0] 37)) (blk_alloc h _)
  rw [hk] at f11
  clear h hk
  go_enter Tryd.func16, Tryd.ntmps16
  go_wp2_with fail
  refine bodyPost_ret (results_ct rfl _ _ w.heap.size 37 #[.int .i64 0, .slice none 0 0, .slice none 0 0] (0, 0) _ rfl (blk_new w _) Tryd.underlying37 rfl (by kernel_rfl)) rfl ?_
  exact ⟨rfl, (Below.refl _ _).alloc (Nat.le_refl _) _⟩
theorem outcome_yes (w : World) (b base : Nat) (s : Cel) (l : List S80) (m : List S64) (h : Owns w b base s l m) (hz : Sz l m) (hk : s.kind ≠ 0) :
    Calls Tryd.prog 16 #[.pointer (some ⟨b, 0, none⟩)] w fun e w' => ∃ A B c d, e = .returned (.tuple #[.agg #[.int .i64 s.kind, .slice A l.length c, .slice B m.length d], .int .i64 0]) ∧ Kd.R k80 80 w' w.heap.size (fun _ => True) (.slice A l.length c) l ∧ Kd.R k64 64 w' w.heap.size (fun _ => True) (.slice B m.length d) m ∧ Below w.heap.size w w' := by
  obtain ⟨u, v, ha, hu, hv⟩ := h
  obtain ⟨A1, c1, rfl⟩ := Kd.R_slice hu
  obtain ⟨A2, c2, rfl⟩ := Kd.R_slice hv
  have HU := Lib.hid (Kd.C_below (Kd.R_reads' hu).2.2 ((Below.refl w.heap.size w).alloc (Nat.le_refl _) (.cells #[.int .i64 0, .slice none 0 0, .slice none 0 0] 37)))
  have HV := Lib.hid (Kd.C_below (Kd.R_reads' hv).2.2 ((Below.refl w.heap.size w).alloc (Nat.le_refl _) (.cells #[.int .i64 0, .slice none 0 0, .slice none 0 0] 37)))
  have HZ := Lib.hid hz
  have hkb : (s.kind == 0) = false := by simpa using hk
  obtain ⟨-, -, -, -, -, -, -, -, -, -, -, f11, f12, f13, -⟩ := At.facts (w := w.alloc (.cells #[.int .i64 0, .slice none 0 0, .slice none 0 0] 37)) (blk_alloc ha _)
  clear ha hu hv hz hk
  go_enter Tryd.func16, Tryd.ntmps16
  go_wp2_with (go_at_call 25; refine (copied_is _ s.kind A1 A2 c1 c2 l m HU.out (by have := HZ.out.1; omega) HV.out (by have := HZ.out.2; omega)).mono ?_; rintro _ w3 ⟨u2, v2, rfl, hu, hv, hb⟩; obtain ⟨A3, c3, rfl⟩ := Kd.R_slice hu; obtain ⟨A4, c4, rfl⟩ := Kd.R_slice hv; have kb := blk_below (blk_new w _) hb; have HKB := Lib.hid kb; have HR := Lib.hid (And.intro (row_apart (w := w) (b := w.heap.size) hu (by simp) (by simp)) (row_apart (w := w) (b := w.heap.size) hv (by simp) (by simp))); have HB := Lib.hid (below_via hb); have k0 := (blk_cell kb 0).trans rfl; have k1 := (blk_cell kb 1).trans rfl; have k2 := (blk_cell kb 2).trans rfl; have kf := blk_frozen kb; clear hu hv hb kb)
  have HC := Lib.hid (show Chg (· = w.heap.size) w3 (((w3.setCell ⟨w.heap.size, 0, none⟩ (.int .i64 s.kind)).setCell ⟨w.heap.size, 1, none⟩ (.slice A3 l.length c3)).setCell ⟨w.heap.size, 2, none⟩ (.slice A4 m.length c4)) from (((Chg.refl (· = w.heap.size) _).setCell (p := ⟨_, 0, none⟩) rfl _).setCell (p := ⟨_, 1, none⟩) rfl _).setCell (p := ⟨_, 2, none⟩) rfl _)
  refine bodyPost_ret (results_ct rfl _ _ w.heap.size 37 #[.int .i64 s.kind, .slice A3 l.length c3, .slice A4 m.length c4] (0, 0) _ rfl ((blk_set (blk_set (blk_set HKB.out 0 _) 1 _) 2 _).trans rfl) Tryd.underlying37 rfl (by kernel_rfl)) rfl ?_
  exact ⟨_, _, _, _, rfl, Kd.R_mono (Kd.R_step HR.out.1 (fun k ho hlt => HC.out.block k hlt ho)) (fun _ _ => trivial), Kd.R_mono (Kd.R_step HR.out.2 (fun k ho hlt => HC.out.block k hlt ho)) (fun _ _ => trivial), Chg.below HB.out HC.out (fun i hi => Nat.le_of_eq hi.symm) HB.out.size⟩
/-- An outcome that was told. -/
structure Told (w w' : World) (A B : Option Addr) (c d : Nat) (l : List S80) (m : List S64) : Prop where
  u : Kd.R k80 80 w' w.heap.size (fun _ => True) (.slice A l.length c) l
  v : Kd.R k64 64 w' w.heap.size (fun _ => True) (.slice B m.length d) m
theorem Told.below {w w' w3 : World} {A B : Option Addr} {c d : Nat} {l : List S80} {m : List S64} (h : Told w w' A B c d l m) (hb : Below w'.heap.size w' w3) : Told w w3 A B c d l m := ⟨Kd.R_below h.u hb, Kd.R_below h.v hb⟩
theorem outcome_o {w wr : World} {b : Nat} {s : Cel} {l : List S80} {m : List S64} (h : LInv w wr b s l m) (hz : Sz l m) :
    Calls Tryd.prog 16 #[.pointer (some ⟨b, 0, none⟩)] wr fun e w' => ∃ A B c d, e = .returned (.tuple #[.agg #[.int .i64 s.kind, .slice A (outL s l).length c, .slice B (outF s m).length d], .int .i64 (outE s)]) ∧ Told wr w' A B c d (outL s l) (outF s m) ∧ LInv w w' b s l m ∧ Below wr.heap.size wr w' := by
  unfold outL outF outE
  by_cases hk : s.kind = 0
  · obtain ⟨u, v, ha⟩ := h.own.at_
    rw [if_pos hk, if_pos hk, if_pos hk, hk]
    refine (outcome_no wr b s u v ha hk).mono ?_
    rintro _ w' ⟨rfl, hb⟩
    exact ⟨none, none, 0, 0, rfl, ⟨Kd.R_nil _ _ _ _ _, Kd.R_nil _ _ _ _ _⟩, h.below hb, hb⟩
  · rw [if_neg hk, if_neg hk, if_neg hk]
    refine (outcome_yes wr b _ s l m h.own hz hk).mono ?_
    rintro _ w' ⟨A, B, c, d, rfl, hu, hv, hb⟩
    exact ⟨A, B, c, d, rfl, ⟨hu, hv⟩, h.below hb, hb⟩
theorem same80_from (l : List S80) (hl : l.length < 4611686018427387904) : ∀ d (j : Nat), j + d = l.length → ∀ k, d < k → oncewebbase_SameValue.l0 k l l (j : Int) = some true := by
  intro d
  induction d with
  | zero =>
    intro j hj k hk
    obtain ⟨k, rfl⟩ : ∃ m, k = m + 1 := ⟨k - 1, by omega⟩
    simp only [oncewebbase_SameValue.l0]
    rw [if_neg (by omega)]
  | succ d ih =>
    intro j hj k hk
    obtain ⟨k, rfl⟩ : ∃ m, k = m + 1 := ⟨k - 1, by omega⟩
    simp only [oncewebbase_SameValue.l0]
    have hw : wrap64 ((j : Int) + 1) = ((j + 1 : Nat) : Int) := by unfold wrap64; omega
    rw [if_pos (by omega), if_pos (by omega), if_pos (by omega), if_neg (by simp), hw]
    exact ih (j + 1) (by omega) k (by omega)
theorem same64_from (l : List S64) (hl : l.length < 4611686018427387904) : ∀ d (j : Nat), j + d = l.length → ∀ k, d < k → oncewebbase_SameFail.l0 k l l (j : Int) = some true := by
  intro d
  induction d with
  | zero =>
    intro j hj k hk
    obtain ⟨k, rfl⟩ : ∃ m, k = m + 1 := ⟨k - 1, by omega⟩
    simp only [oncewebbase_SameFail.l0]
    rw [if_neg (by omega)]
  | succ d ih =>
    intro j hj k hk
    obtain ⟨k, rfl⟩ : ∃ m, k = m + 1 := ⟨k - 1, by omega⟩
    simp only [oncewebbase_SameFail.l0]
    have hw : wrap64 ((j : Int) + 1) = ((j + 1 : Nat) : Int) := by unfold wrap64; omega
    rw [if_pos (by omega), if_pos (by omega), if_pos (by omega), if_neg (by simp), hw]
    exact ih (j + 1) (by omega) k (by omega)
theorem same_out (w : World) (k : Int) (A B A' B' : Option Addr) (c d c' d' : Nat) (l : List S80) (m : List S64) (hz : Sz l m) (h1 : Kd.C k80 w A l.length l) (h2 : l.length ≤ c) (h3 : Kd.C k64 w B m.length m) (h4 : m.length ≤ d) (g1 : Kd.C k80 w A' l.length l) (g2 : l.length ≤ c') (g3 : Kd.C k64 w B' m.length m) (g4 : m.length ≤ d') :
    Calls Tryd.prog 17 #[.agg #[.int .i64 k, .slice A l.length c, .slice B m.length d], .agg #[.int .i64 k, .slice A' l.length c', .slice B' m.length d']] w fun e w' => e = .returned (.bool true) ∧ Below w.heap.size w w' := by
  refine oncewebbase_SameOut.calls (l.length + m.length + 1) k A c l B d m k A' c' l B' d' m true w h1 h2 h3 h4 g1 g2 g3 g4 ?_
  have z1 := hz.1
  have z2 := hz.2
  have e1 : oncewebbase_SameValue.f (l.length + m.length + 1) l l = some true := by
    unfold oncewebbase_SameValue.f
    rw [if_pos rfl]
    exact same80_from l (by omega) l.length 0 (by omega) _ (by omega)
  have e2 : oncewebbase_SameFail.f (l.length + m.length + 1) m m = some true := by
    unfold oncewebbase_SameFail.f
    rw [if_pos rfl]
    exact same64_from m (by omega) m.length 0 (by omega) _ (by omega)
  unfold oncewebbase_SameOut.f
  rw [if_pos rfl, e1, Option.bind_some, if_pos rfl, e2]
  rfl
end Go.Proofs.YtchbammjcnhkiaaDoor.Ce
