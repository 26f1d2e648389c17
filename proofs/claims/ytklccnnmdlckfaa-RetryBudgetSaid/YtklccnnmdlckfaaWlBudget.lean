/- The walk of the law RetryBudget: it answers true and leaves what was there as it was: for all numbers and every list of answers. -/
import Derived.Test.YtklccnnmdlckfaaLwBudget
import Derived.Deep.RegionHeld3
namespace Go.Proofs.Ytklccnnmdlckfaa.LwBudget
open Go.RowKit Go.Maps Go.Proofs.Ytklccnnmdlckfaa Go.Proofs.Ytklccnnmdlckfaa.Br Go.Proofs.Ytklccnnmdlckfaa.PRetryBudget Go.Proofs.YtklccnnmdlckfaaW.PrintWords Go.Proofs.YtklccnnmdlckfaaW.PrintLast Go.Proofs.YtklccnnmdlckfaaW.PrintMore

def Done (w : World) (e : Ending) (w' : World) : Prop := e = .returned (.bool true) ∧ Below w.heap.size w w'

set_option maxRecDepth 100000 in
theorem walk_bad (p q r : Int) (A : Option Addr) (l : List Bool) (c : Nat) (w : World) (h : (million p && million q && million r) = false) :
    Calls Try.prog 4 #[.int .i64 p, .int .i64 q, .int .i64 r, .slice A l.length c] w (Done w) := by
  have HM := Lib.hid h
  clear h
  go_enter Try.func4, Try.ntmps4
  go_wp2_with fail
  refine (works_any needs _).mono ?_
  rintro _ w1 ⟨rfl, hb⟩
  have HB := Lib.hid hb
  clear hb
  go_wp2_with fail
  refine (newbud_bad _ p q r HM.out).mono ?_
  rintro _ w2 ⟨rfl, n, rfl⟩
  go_wp2_with fail
  refine (rnew_bad _ p q r HM.out).mono ?_
  rintro _ w3 ⟨rfl, hb⟩
  have HB2 := Lib.hid (HB.out.trans (((below_drewN w1 n).trans hb).mono HB.out.size))
  clear hb HB
  have hs := HB2.out.size
  go_wp2_with fail
  go_ret
  exact ⟨rfl, HB2.out.alloc HB2.out.size _⟩

section
variable {w w1 : World} {b g : Nat} {p q r s : Int}
theorem ask_t (h : Two w w1 b g p q r s) : Calls Try.prog 18 #[.pointer (some ⟨b, 0, none⟩)] w1 fun e w' => e = .returned (.bool (decide (p < 2 * s))) ∧ Two w w' b g p q r s :=
  (budask_any w1 b p q r s h.bud (million_iff.1 h.ms).1 (million_iff.1 h.ms).2).mono fun _ _ ⟨e, n, hw⟩ => ⟨e, hw ▸ h.step (below_drewN _ _)⟩
theorem rask_t (h : Two w w1 b g p q r s) : Calls Try.prog 19 #[.agg #[.int .i64 p, .int .i64 q, .int .i64 r, .int .i64 s]] w1 fun e w' => e = .returned (.bool (decide (p < 2 * s))) ∧ Two w w' b g p q r s :=
  (rask w1 p q r s h.ms).mono fun _ _ ⟨e, hb⟩ => ⟨e, h.step hb⟩
theorem level_t (h : Two w w1 b g p q r s) : Calls Try.prog 20 #[.pointer (some ⟨b, 0, none⟩)] w1 fun e w' => e = .returned (.int .i64 s) ∧ Two w w' b g p q r s :=
  (budlevel_any w1 b p q r s h.bud).mono fun _ _ ⟨e, hw⟩ => ⟨e, hw ▸ h⟩
/-- Behind the program's Tell: the document's budget is one step behind. -/
theorem tell_t (h : Two w w1 b g p q r s) (hp : million p = true) (hq : million q = true) (hr : million r = true) (f : Bool) :
    Calls Try.prog 21 #[.pointer (some ⟨b, 0, none⟩), .bool f] w1 fun e w' => e = .returned (.tuple #[]) ∧ Bud w' b p q r (budtold p q r s f) ∧ w'.heap[g]? = some (.cells #[.int .i64 p, .int .i64 q, .int .i64 r, .int .i64 s] 42 (0, 0)) ∧ Below w.heap.size w w' :=
  (budtell_any w1 b p q r s f h.bud hp hq hr h.ms).mono fun _ _ ⟨e, hb, hc⟩ => ⟨e, hb, blk_chg h.ref hc h.ne, Chg.below h.below hc (fun i hi => hi ▸ h.hb) h.below.size⟩
theorem set4 {w1 : World} {g : Nat} {a b c d a' b' c' d' : Value} {t : TypeId} (h : w1.heap[g]? = some (.cells #[a, b, c, d] t (0, 0))) :
    ((((w1.setCell ⟨g, 0, none⟩ a').setCell ⟨g, 1, none⟩ b').setCell ⟨g, 2, none⟩ c').setCell ⟨g, 3, none⟩ d').heap[g]? = some (.cells #[a', b', c', d'] t (0, 0)) :=
  (blk_set (blk_set (blk_set (blk_set h 0 a') 1 b') 2 c') 3 d').trans rfl
theorem chg4 {w1 : World} {g : Nat} {a' b' c' d' : Value} : Chg (· = g) w1 ((((w1.setCell ⟨g, 0, none⟩ a').setCell ⟨g, 1, none⟩ b').setCell ⟨g, 2, none⟩ c').setCell ⟨g, 3, none⟩ d') :=
  ((((Chg.refl (· = g) w1).setCell (p := ⟨g, 0, none⟩) rfl a').setCell (p := ⟨g, 1, none⟩) rfl b').setCell (p := ⟨g, 2, none⟩) rfl c').setCell (p := ⟨g, 3, none⟩) rfl d'
end

set_option maxRecDepth 100000 in
set_option maxHeartbeats 1000000 in
theorem walk_good (p q r : Int) (A : Option Addr) (l : List Bool) (c : Nat) (w : World) (hc : l.length ≤ c) (hl : Kd.bool.C w A l.length l) (hz : l.length * 1 ≤ 140737488351232) (hp : million p = true) (hq : million q = true) (hr : million r = true) :
    Calls Try.prog 4 #[.int .i64 p, .int .i64 q, .int .i64 r, .slice A l.length c] w (Done w) := by
  have HP := Lib.hid (And.intro hp (And.intro hq hr))
  have HL := Lib.hid hl
  clear hp hq hr hl
  go_enter Try.func4, Try.ntmps4
  go_wp2_with fail
  refine (works_any needs _).mono ?_
  rintro _ w1 ⟨rfl, hb⟩
  have HB := Lib.hid hb
  clear hb
  go_wp2_with fail
  refine (newbud_good _ p q r HP.out.1 HP.out.2.1 HP.out.2.2).mono ?_
  rintro _ w2 ⟨b, rfl, k1, k2, k3⟩
  have HB2 := Lib.hid (And.intro k1 (And.intro (HB.out.trans (k2.mono HB.out.size)) (Nat.le_trans HB.out.size k3)))
  clear k1 k2 k3 HB
  go_wp2_with fail
  refine (rnew_good _ p q r HP.out.1 HP.out.2.1 HP.out.2.2).mono ?_
  rintro _ w3 ⟨rfl, hb⟩
  have HT := Lib.hid (show Two w (w3.alloc (.cells #[.int .i64 p, .int .i64 q, .int .i64 r, .int .i64 p] 42)) b w3.heap.size p q r p from
    ⟨(HB2.out.1.chg (S := fun _ => False) (Chg.of_below hb) (fun h => h)).chg ((Chg.refl (fun _ => False) w3).alloc _) (fun h => h), blk_new w3 _, (HB2.out.2.1.trans (hb.mono HB2.out.2.1.size)).alloc (Nat.le_trans HB2.out.2.1.size hb.size) _, HB2.out.2.2, Nat.le_trans HB2.out.2.1.size hb.size, HP.out.1⟩)
  clear hb HB2
  go_wp2_with fail
  generalize hgz : w3.heap.size = g at *
  generalize hw4 : w3.alloc (.cells #[.int .i64 p, .int .i64 q, .int .i64 r, .int .i64 p] 42) = w4 at *
  clear hgz hw4
  go_loopw [45] (fun i wr => ∃ k : Nat, k ≤ l.length ∧ i = .int .i64 k ∧ ∃ s, Hid (Two w wr b g p q r s)) (fun i _ => l.length - (intOf i).toNat)
  case atStart => exact ⟨0, Nat.zero_le _, rfl, p, HT⟩
  case round =>
    obtain ⟨k, hk, rfl, s, HR⟩ := hrel
    clear HT
    have A1 := fun w1 => Lib.hid (@ask_t w w1 b g p q r s)
    have A2 := fun w1 => Lib.hid (@rask_t w w1 b g p q r s)
    by_cases hlt : k < l.length
    · obtain ⟨ad, rfl, hcell⟩ := Kd.at_bool (Kd.C_below HL.out HR.out.below) (k : Int) (by omega) (by omega)
      generalize rdOf false l (k : Int) = x at *
      have HX := Lib.hid hcell
      rw [Int.toNat_natCast] at hcell
      go_wp2_with fail
      have HD := Lib.hid (show Two w wr.drew b g p q r s from HR.out.step (below_drewN wr 1))
      obtain ⟨c0, c1, c2, c3, f⟩ := HR.out.cells
      go_region_held3 (fun w' => w'.cell? ⟨g, 0, none⟩ = some (.int .i64 p) ∧ w'.cell? ⟨g, 1, none⟩ = some (.int .i64 q) ∧ w'.cell? ⟨g, 2, none⟩ = some (.int .i64 r) ∧ w'.cell? ⟨g, 3, none⟩ = some (.int .i64 s)) (first | exact ⟨d0, d1, d2, d3⟩ | exact ⟨c0, c1, c2, c3⟩) (first | (go_at_call 18; refine ((A1 _).out (Hid.out (by assumption))).mono ?_; rintro _ w7 ⟨rfl, hb⟩; obtain ⟨d0, d1, d2, d3, -⟩ := hb.cells; have HX := Lib.hid hb; clear hb) | (go_at_call 19; refine ((A2 _).out (Hid.out (by assumption))).mono ?_; rintro _ w7 ⟨rfl, hb⟩; obtain ⟨d0, d1, d2, d3, -⟩ := hb.cells; have HX := Lib.hid hb; clear hb) | (go_at_call 20; refine (level_t (Hid.out (by assumption))).mono ?_; rintro _ w7 ⟨rfl, hb⟩; obtain ⟨d0, d1, d2, d3, -⟩ := hb.cells; have HX := Lib.hid hb; clear hb))
      have HT : Hid (Two w w7 b g p q r s) := by assumption
      clear c0 c1 c2 c3 f d0 d1 d2 d3 HD A1 A2
      go_wp2_with fail
      refine (tell_t HT.out HP.out.1 HP.out.2.1 HP.out.2.2 x).mono ?_
      rintro _ w8 ⟨rfl, k1, k2, k3⟩
      have HM := Lib.hid (budtold_million HP.out.1 HP.out.2.1 HP.out.2.2 HT.out.ms x)
      have HG := Lib.hid (And.intro HT.out.hb HT.out.hg)
      have HB := Lib.hid (And.intro k1 (And.intro k2 k3))
      have c0 : w8.cell? ⟨g, 0, none⟩ = some (.int .i64 p) := (blk_cell k2 0).trans rfl
      have c1 : w8.cell? ⟨g, 1, none⟩ = some (.int .i64 q) := (blk_cell k2 1).trans rfl
      have c2 : w8.cell? ⟨g, 2, none⟩ = some (.int .i64 r) := (blk_cell k2 2).trans rfl
      have c3 : w8.cell? ⟨g, 3, none⟩ = some (.int .i64 s) := (blk_cell k2 3).trans rfl
      clear k1 k2 k3
      go_wp2_with fail
      refine (rtell _ p q r s x HP.out.1 HP.out.2.1 HP.out.2.2 HT.out.ms).mono ?_
      rintro _ w9 ⟨rfl, hb⟩
      generalize budtold p q r s x = s' at *
      have hg := blk_below HB.out.2.1 hb
      have HE : Two w ((((w9.setCell ⟨g, 0, none⟩ (.int .i64 p)).setCell ⟨g, 1, none⟩ (.int .i64 q)).setCell ⟨g, 2, none⟩ (.int .i64 r)).setCell ⟨g, 3, none⟩ (.int .i64 s')) b g p q r s' :=
        ⟨(HB.out.1.chg (S := fun _ => False) (Chg.of_below hb) (fun h => h)).chg chg4 (fun e => HT.out.ne e.symm), set4 hg, Chg.below (HB.out.2.2.trans (hb.mono HB.out.2.2.size)) chg4 (fun i hi => hi ▸ HG.out.2) (HB.out.2.2.trans (hb.mono HB.out.2.2.size)).size, HG.out.1, HG.out.2, HM.out⟩
      have HE := Lib.hid HE
      clear c0 c1 c2 c3
      have c0 : w9.cell? ⟨g, 0, none⟩ = some (.int .i64 p) := (blk_cell hg 0).trans rfl
      have c1 : w9.cell? ⟨g, 1, none⟩ = some (.int .i64 q) := (blk_cell hg 1).trans rfl
      have c2 : w9.cell? ⟨g, 2, none⟩ = some (.int .i64 r) := (blk_cell hg 2).trans rfl
      have c3 : w9.cell? ⟨g, 3, none⟩ = some (.int .i64 s) := (blk_cell hg 3).trans rfl
      have f := fun k => blk_frozen hg k
      clear hg hb
      go_wp2_with fail
      go_roundw
      case rel => exact ⟨k + 1, by omega, by go_num, s', HE⟩
      case measure => simp [intOf]; omega
    · go_wp2_with fail
      have HD := Lib.hid (show Two w wr.drew b g p q r s from HR.out.step (below_drewN wr 1))
      obtain ⟨c0, c1, c2, c3, f⟩ := HR.out.cells
      go_region_held3 (fun w' => w'.cell? ⟨g, 0, none⟩ = some (.int .i64 p) ∧ w'.cell? ⟨g, 1, none⟩ = some (.int .i64 q) ∧ w'.cell? ⟨g, 2, none⟩ = some (.int .i64 r) ∧ w'.cell? ⟨g, 3, none⟩ = some (.int .i64 s)) (first | exact ⟨d0, d1, d2, d3⟩ | exact ⟨c0, c1, c2, c3⟩) (first | (go_at_call 18; refine ((A1 _).out (Hid.out (by assumption))).mono ?_; rintro _ w7 ⟨rfl, hb⟩; obtain ⟨d0, d1, d2, d3, -⟩ := hb.cells; have HX := Lib.hid hb; clear hb) | (go_at_call 19; refine ((A2 _).out (Hid.out (by assumption))).mono ?_; rintro _ w7 ⟨rfl, hb⟩; obtain ⟨d0, d1, d2, d3, -⟩ := hb.cells; have HX := Lib.hid hb; clear hb) | (go_at_call 20; refine (level_t (Hid.out (by assumption))).mono ?_; rintro _ w7 ⟨rfl, hb⟩; obtain ⟨d0, d1, d2, d3, -⟩ := hb.cells; have HX := Lib.hid hb; clear hb))
      have HT : Hid (Two w w7 b g p q r s) := by assumption
      clear c0 c1 c2 c3 f d0 d1 d2 d3 HD A1 A2
      go_wp2_with fail
      go_ret
      exact ⟨rfl, HT.out.below⟩

theorem walk (p q r : Int) (A : Option Addr) (l : List Bool) (c : Nat) (w : World) (_ : (Lit.int .i64 p).wf = true) (_ : (Lit.int .i64 q).wf = true) (_ : (Lit.int .i64 r).wf = true) (hc : l.length ≤ c) (hl : Kd.bool.C w A l.length l) (hz : l.length * 1 ≤ 140737488351232) :
    Calls Try.prog 4 #[.int .i64 p, .int .i64 q, .int .i64 r, .slice A l.length c] w fun e w' => e = .returned (.bool true) ∧ Below w.heap.size w w' := by
  by_cases h : (million p && million q && million r) = false
  · exact walk_bad p q r A l c w h
  · simp only [Bool.not_eq_false, Bool.and_eq_true] at h
    exact walk_good p q r A l c w hc hl hz h.1.1 h.1.2 h.2
end Go.Proofs.Ytklccnnmdlckfaa.LwBudget
