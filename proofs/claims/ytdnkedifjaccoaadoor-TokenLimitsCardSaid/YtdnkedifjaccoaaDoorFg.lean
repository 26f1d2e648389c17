/- The package fail at any failure: sort, fits, well: in plain Lean, and the walks. -/
import Derived.Test.YtdnkedifjaccoaaDoorNa
import Derived.Deep.QuietTactic
import Derived.BigQuiet
namespace Go.Proofs.YtdnkedifjaccoaaDoor.Ce
open Go.RowKit Go.Maps Go.Proofs.YtdnkedifjaccoaaDoor Go.Proofs.YtdnkedifjaccoaaDoorW.PrintWords Go.Proofs.YtdnkedifjaccoaaDoorW.PrintLast Go.Proofs.YtdnkedifjaccoaaDoorW.PrintMore PToken
attribute [local go_sem] max2_int min2_int max_two min_two max_three min_three max_four min_four
set_option linter.unusedVariables false
set_option linter.unusedSimpArgs false
theorem w64s {x : Int} (h0 : -4611686018427387904 ≤ x) (h1 : x ≤ 4611686018427387904) : wrap64 x = x := by rw [← i64_w, IntWalk.i64_in _ (by omega)]
theorem wsucc (i : Nat) (h : i ≤ 1000000000) : wrap64 ((i : Int) + 1) = ((i + 1 : Nat) : Int) := by rw [w64s (by omega) (by omega)]; omega
def sortsL : List Int := [0, 1, 1, 1, 1, 1, 1, 1, 2, 3, 4, 1]
def valuesL : List ByteArray := [⟨#[108, 105, 115, 116]⟩, ⟨#[97, 100, 100]⟩, ⟨#[115, 117, 98]⟩, ⟨#[109, 117, 108]⟩, ⟨#[106, 111, 105, 110]⟩, ⟨#[105, 116, 101, 109]⟩, ⟨#[115, 105, 122, 101]⟩, ⟨#[105, 102]⟩, ⟨#[102, 97, 105, 108]⟩, ⟨#[112, 97, 110, 105, 99]⟩]
/-- What the packages' variables hold. -/
structure LaidF (w : World) : Prop where
  keys : Laid w
  sorts : ∀ j : Nat, j < 12 → w.cell? ⟨1, j, none⟩ = (sortsL.map (Value.int .i64))[j]?
  values : ∀ j : Nat, j < 10 → w.cell? ⟨2, j, none⟩ = (valuesL.map Value.string)[j]?
  size : 3 ≤ w.heap.size
theorem LaidF.below {w w' : World} (h : LaidF w) (hb : Below w.heap.size w w') : LaidF w' :=
  ⟨h.keys.below hb, fun j hj => (cell_blk (hb.block 1 (by have := h.size; omega))).trans (h.sorts j hj), fun j hj => (cell_blk (hb.block 2 (by have := h.size; omega))).trans (h.values j hj), Nat.le_trans h.size hb.size⟩
/-- How a kind's cracks stand. -/
def sortG (k : Int) : Int := if k < 0 ∨ k ≥ 12 then 0 else rd sortsL k
def fitsB (k : Int) (t : ByteArray) : Bool := if k = 1 ∨ k = 2 ∨ k = 8 then true else if k = 3 then inL valuesL t else if k = 4 ∨ k = 5 ∨ k = 9 then nameB t else t.toList == []
def okN (s n : Int) : Bool := if s = 1 then decide (n = 0) else if s = 2 then decide (n = 0 ∨ n = 1) else if s = 3 then decide (n = 1) else if s = 4 then decide (1 ≤ n) else false
def wellB (c : S56) : Bool := okN (sortG c.f0) c.f1 && (decide (c.f2.size ≤ 4096) && fitsB c.f0 c.f2)
theorem sort_is (w : World) (h : LaidF w) (k : Int) : Calls Tryd.prog 65 #[.int .i64 k] w fun e w' => e = .returned (.int .i64 (sortG k)) ∧ w' = w := by
  by_cases h0 : k < 0
  · have he : sortG k = 0 := by unfold sortG; rw [if_pos (.inl h0)]
    rw [he]
    clear he h
    go_enter Tryd.func65, Tryd.ntmps65
    go_wp2_with fail
    go_ret
    exact ⟨rfl, rfl⟩
  · by_cases h1 : k ≥ 12
    · have he : sortG k = 0 := by unfold sortG; rw [if_pos (.inr h1)]
      rw [he]
      clear he h
      go_enter Tryd.func65, Tryd.ntmps65
      go_wp2_with fail
      go_ret
      exact ⟨rfl, rfl⟩
    · have he : sortG k = rd sortsL k := by unfold sortG; rw [if_neg (by omega)]
      rw [he]
      have hc : w.cell? ⟨1, k.toNat, none⟩ = some (.int .i64 (rd sortsL k)) := by
        rw [h.sorts k.toNat (by omega)]
        unfold rd
        have hk : k.toNat < sortsL.length := by show k.toNat < 12; omega
        rw [List.getElem?_map, List.getElem?_eq_getElem hk, List.getD_eq_getElem?_getD, List.getElem?_eq_getElem hk]
        rfl
      have k0 : 0 ≤ k := by omega
      have k1 : k < 12 := by omega
      generalize rd sortsL k = r at *
      clear he h h0 h1
      go_enter Tryd.func65, Tryd.ntmps65
      go_wp2_with fail
      go_ret
      exact ⟨rfl, rfl⟩
theorem fits_is (w : World) (hla : LaidF w) (k : Int) (t : ByteArray) : Calls Tryd.prog 66 #[.int .i64 k, .string t] w fun e w' => e = .returned (.bool (fitsB k t)) ∧ Below w.heap.size w w' := by
  have HN := Lib.hid (name_is w t hla.keys)
  have HV := Lib.hid (contains_is w (some ⟨2, 0, none⟩) 10 valuesL t (row_str (by decide) hla.values) (by decide) (by decide))
  have hl : valuesL.length = 10 := rfl
  rw [hl] at HV
  clear hla hl
  by_cases h1 : k = 1
  · subst h1; clear HN HV; go_enter Tryd.func66, Tryd.ntmps66; go_wp2_with fail; go_ret; exact ⟨rfl, Below.refl _ _⟩
  by_cases h2 : k = 2
  · subst h2; clear HN HV; go_enter Tryd.func66, Tryd.ntmps66; go_wp2_with fail; go_ret; exact ⟨rfl, Below.refl _ _⟩
  by_cases h8 : k = 8
  · subst h8; clear HN HV; go_enter Tryd.func66, Tryd.ntmps66; go_wp2_with fail; go_ret; exact ⟨rfl, Below.refl _ _⟩
  by_cases h3 : k = 3
  · subst h3
    clear HN
    go_enter Tryd.func66, Tryd.ntmps66
    go_wp2_with (go_at_call 60; refine HV.out.mono ?_; rintro _ w1 ⟨rfl, hd⟩; have HD := Lib.hid hd; clear hd)
    go_ret
    obtain ⟨m, hm⟩ := HD.out.out
    exact ⟨rfl, by rw [hm]; exact pw_below_drewN (Below.refl _ _) m⟩
  have hnm : ∀ k, k = 4 ∨ k = 5 ∨ k = 9 → fitsB k t = nameB t := fun k hk => by
    unfold fitsB
    rw [if_neg (by omega), if_neg (by omega), if_pos hk]
  by_cases h4 : k = 4
  · subst h4
    rw [hnm 4 (by omega)]
    clear HV hnm h1 h2 h8 h3
    go_enter Tryd.func66, Tryd.ntmps66
    go_wp2_with (go_at_call 36; refine HN.out.mono ?_; rintro _ w1 ⟨rfl, hd⟩; have HD := Lib.hid hd; clear hd)
    go_ret
    obtain ⟨m, hm⟩ := HD.out.out
    exact ⟨rfl, by rw [hm]; exact pw_below_drewN (Below.refl _ _) m⟩
  by_cases h5 : k = 5
  · subst h5
    rw [hnm 5 (by omega)]
    clear HV hnm h1 h2 h8 h3 h4
    go_enter Tryd.func66, Tryd.ntmps66
    go_wp2_with (go_at_call 36; refine HN.out.mono ?_; rintro _ w1 ⟨rfl, hd⟩; have HD := Lib.hid hd; clear hd)
    go_ret
    obtain ⟨m, hm⟩ := HD.out.out
    exact ⟨rfl, by rw [hm]; exact pw_below_drewN (Below.refl _ _) m⟩
  by_cases h9 : k = 9
  · subst h9
    rw [hnm 9 (by omega)]
    clear HV hnm h1 h2 h8 h3 h4 h5
    go_enter Tryd.func66, Tryd.ntmps66
    go_wp2_with (go_at_call 36; refine HN.out.mono ?_; rintro _ w1 ⟨rfl, hd⟩; have HD := Lib.hid hd; clear hd)
    go_ret
    obtain ⟨m, hm⟩ := HD.out.out
    exact ⟨rfl, by rw [hm]; exact pw_below_drewN (Below.refl _ _) m⟩
  have he : fitsB k t = (t.toList == []) := by
    unfold fitsB
    rw [if_neg (by omega), if_neg (by omega), if_neg (by omega)]
  rw [he]
  have g1 : (k == 1) = false := by simpa using h1
  have g2 : (k == 2) = false := by simpa using h2
  have g8 : (k == 8) = false := by simpa using h8
  have g3 : (k == 3) = false := by simpa using h3
  have g4 : (k == 4) = false := by simpa using h4
  have g5 : (k == 5) = false := by simpa using h5
  have g9 : (k == 9) = false := by simpa using h9
  clear HN HV hnm he
  go_enter Tryd.func66, Tryd.ntmps66
  go_wp2_with fail
  go_ret
  exact ⟨by first | rfl | (congr 2; generalize t.toList = q; cases q <;> rfl), Below.refl _ _⟩
end Go.Proofs.YtdnkedifjaccoaaDoor.Ce
