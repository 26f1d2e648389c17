/- The walk of the law RetryBounds: it answers true and leaves what was there as it was: for all numbers and every list of answers. -/
import Derived.Test.YtklccnnmdlckfaaLwBudget
import Derived.Deep.RegionHeld3
namespace Go.Proofs.Ytklccnnmdlckfaa.LwBounds
open Go.RowKit Go.Maps Go.Proofs.Ytklccnnmdlckfaa Go.Proofs.Ytklccnnmdlckfaa.Br Go.Proofs.Ytklccnnmdlckfaa.LwBudget Go.Proofs.YtklccnnmdlckfaaW.PrintWords Go.Proofs.YtklccnnmdlckfaaW.PrintLast Go.Proofs.YtklccnnmdlckfaaW.PrintMore

def Done (w : World) (e : Ending) (w' : World) : Prop := e = .returned (.bool true) ∧ Below w.heap.size w w'

set_option maxRecDepth 100000 in
theorem walk_bad (p q r : Int) (A : Option Addr) (l : List Bool) (c : Nat) (w : World) (h : (million p && million q && million r) = false) :
    Calls Try.prog 5 #[.int .i64 p, .int .i64 q, .int .i64 r, .slice A l.length c] w (Done w) := by
  have HM := Lib.hid h
  clear h
  go_enter Try.func5, Try.ntmps5
  go_wp2_with fail
  refine (works_any needs _).mono ?_
  rintro _ w1 ⟨rfl, hb⟩
  have HB := Lib.hid hb
  clear hb
  go_wp2_with fail
  refine (newbud_bad _ p q r HM.out).mono ?_
  rintro _ w2 ⟨rfl, n, rfl⟩
  have HB2 := Lib.hid (HB.out.trans ((below_drewN w1 n).mono HB.out.size))
  go_wp2_with fail
  go_ret
  exact ⟨rfl, HB2.out⟩

/-- The budget in block b: its numbers; all else as in w. -/
structure One (w wr : World) (b : Nat) (p q r s : Int) : Prop where
  bud : Bud wr b p q r s
  below : Below w.heap.size w wr
  hb : w.heap.size ≤ b
  ms : million s = true

section
variable {w w1 : World} {b : Nat} {p q r s : Int}
theorem level_o (h : One w w1 b p q r s) : Calls Try.prog 20 #[.pointer (some ⟨b, 0, none⟩)] w1 fun e w' => e = .returned (.int .i64 s) ∧ w1 = w' :=
  (budlevel_any w1 b p q r s h.bud).mono fun _ _ ⟨e, hw⟩ => ⟨e, hw.symm⟩
theorem tell_o (h : One w w1 b p q r s) (hp : million p = true) (hq : million q = true) (hr : million r = true) (f : Bool) :
    Calls Try.prog 21 #[.pointer (some ⟨b, 0, none⟩), .bool f] w1 fun e w' => e = .returned (.tuple #[]) ∧ One w w' b p q r (budtold p q r s f) :=
  (budtell_any w1 b p q r s f h.bud hp hq hr h.ms).mono fun _ _ ⟨e, hb, hc⟩ => ⟨e, hb, Chg.below h.below hc (fun i hi => hi ▸ h.hb) h.below.size, h.hb, budtold_million hp hq hr h.ms f⟩
theorem ask_o (h : One w w1 b p q r s) : Calls Try.prog 18 #[.pointer (some ⟨b, 0, none⟩)] w1 fun e w' => e = .returned (.bool (decide (p < 2 * s))) ∧ One w w' b p q r s :=
  (budask_any w1 b p q r s h.bud (million_iff.1 h.ms).1 (million_iff.1 h.ms).2).mono fun _ _ ⟨e, n, hw⟩ => ⟨e, hw ▸ ⟨h.bud, h.below.trans ((below_drewN w1 n).mono h.below.size), h.hb, h.ms⟩⟩
end

/-- What a telling does to the level. -/
theorem told_facts {p q r s : Int} (hp : million p = true) (hq : million q = true) (hr : million r = true) (hs : million s = true) (hsp : s ≤ p) (f : Bool) :
    0 ≤ budtold p q r s f ∧ budtold p q r s f ≤ p ∧ (f = true → s ≤ budtold p q r s f) ∧ (f = false → budtold p q r s f ≤ s) := by
  rw [million_iff] at *
  unfold budtold
  cases f <;> simp <;> split <;> omega

set_option maxRecDepth 100000 in
set_option maxHeartbeats 1000000 in
theorem walk_good (p q r : Int) (A : Option Addr) (l : List Bool) (c : Nat) (w : World) (hc : l.length ≤ c) (hl : Kd.bool.C w A l.length l) (hz : l.length * 1 ≤ 140737488351232) (hp : million p = true) (hq : million q = true) (hr : million r = true) :
    Calls Try.prog 5 #[.int .i64 p, .int .i64 q, .int .i64 r, .slice A l.length c] w (Done w) := by
  have HP := Lib.hid (And.intro hp (And.intro hq hr))
  have HL := Lib.hid hl
  clear hp hq hr hl
  go_enter Try.func5, Try.ntmps5
  go_wp2_with fail
  refine (works_any needs _).mono ?_
  rintro _ w1 ⟨rfl, hb⟩
  have HB := Lib.hid hb
  clear hb
  go_wp2_with fail
  refine (newbud_good _ p q r HP.out.1 HP.out.2.1 HP.out.2.2).mono ?_
  rintro _ w2 ⟨b, rfl, k1, k2, k3⟩
  have HO := Lib.hid (show One w w2 b p q r p from ⟨k1, HB.out.trans (k2.mono HB.out.size), Nat.le_trans HB.out.size k3, HP.out.1⟩)
  clear k1 k2 k3 HB
  go_wp2_with fail
  refine (level_o HO.out).mono ?_
  rintro _ w3 ⟨rfl, rfl⟩
  go_wp2_with fail
  go_loopw [42] (fun i wr => ∃ k : Nat, k ≤ l.length ∧ i = .int .i64 k ∧ ∃ s, Hid (One w wr b p q r s ∧ s ≤ p)) (fun i _ => l.length - (intOf i).toNat)
  case atStart => exact ⟨0, Nat.zero_le _, rfl, p, ⟨HO.out, Int.le_refl _⟩⟩
  case round =>
    obtain ⟨k, hk, rfl, s, HR⟩ := hrel
    clear HO
    by_cases hlt : k < l.length
    · obtain ⟨ad, rfl, hcell⟩ := Kd.at_bool (Kd.C_below HL.out HR.out.1.below) (k : Int) (by omega) (by omega)
      generalize rdOf false l (k : Int) = x at *
      rw [Int.toNat_natCast] at hcell
      have HF := Lib.hid (told_facts HP.out.1 HP.out.2.1 HP.out.2.2 HR.out.1.ms HR.out.2 x)
      go_wp2_with fail
      refine (level_o HR.out.1).mono ?_
      rintro _ w4 ⟨rfl, rfl⟩
      go_wp2_with fail
      refine (tell_o HR.out.1 HP.out.1 HP.out.2.1 HP.out.2.2 x).mono ?_
      rintro _ w5 ⟨rfl, k1⟩
      have HR' := Lib.hid k1
      clear k1
      generalize budtold p q r s x = s' at *
      go_wp2_with fail
      refine (level_o HR'.out).mono ?_
      rintro _ w6 ⟨rfl, rfl⟩
      obtain ⟨f1, f2, f3, f4⟩ := HF.out
      have hms := million_iff.1 HR'.out.ms
      have hms1 := hms.2
      clear hms hcell
      have HZ := Lib.hid (And.intro f2 trivial)
      cases x
      · have f5 := f4 rfl
        clear f3 f4
        go_wp2_with (go_at_call 18; refine (ask_o HR'.out).mono ?_; rintro _ w7 ⟨rfl, k1⟩; have HE := Lib.hid k1; clear k1)
        go_roundw
        case rel => exact ⟨k + 1, by omega, by go_num, s', ⟨HE.out, HZ.out.1⟩⟩
        case measure => simp [intOf]; omega
      · have f5 := f3 rfl
        clear f3 f4
        go_wp2_with (go_at_call 18; refine (ask_o HR'.out).mono ?_; rintro _ w7 ⟨rfl, k1⟩; have HE := Lib.hid k1; clear k1)
        go_roundw
        case rel => exact ⟨k + 1, by omega, by go_num, s', ⟨HE.out, HZ.out.1⟩⟩
        case measure => simp [intOf]; omega
    · go_wp2_with fail
      go_ret
      exact ⟨rfl, HR.out.1.below⟩

theorem walk (p q r : Int) (A : Option Addr) (l : List Bool) (c : Nat) (w : World) (_ : (Lit.int .i64 p).wf = true) (_ : (Lit.int .i64 q).wf = true) (_ : (Lit.int .i64 r).wf = true) (hc : l.length ≤ c) (hl : Kd.bool.C w A l.length l) (hz : l.length * 1 ≤ 140737488351232) :
    Calls Try.prog 5 #[.int .i64 p, .int .i64 q, .int .i64 r, .slice A l.length c] w fun e w' => e = .returned (.bool true) ∧ Below w.heap.size w w' := by
  by_cases h : (million p && million q && million r) = false
  · exact walk_bad p q r A l c w h
  · simp only [Bool.not_eq_false, Bool.and_eq_true] at h
    exact walk_good p q r A l c w hc hl hz h.1.1 h.1.2 h.2
end Go.Proofs.Ytklccnnmdlckfaa.LwBounds
