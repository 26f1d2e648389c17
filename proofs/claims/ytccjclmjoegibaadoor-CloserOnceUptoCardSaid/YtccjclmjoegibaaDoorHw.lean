/- The heap of the parts that may be closed next, in memory: Len, Less, ahead, Pop, Push of the program's own type. -/
import Derived.Test.YtccjclmjoegibaaDoorK
import Derived.Test.YtccjclmjoegibaaDoorHp
import Derived.Test.YtccjclmjoegibaaDoorPCloserOrdersx0
namespace Go.Proofs.YtccjclmjoegibaaDoor.Ce
open Go.RowKit Go.Maps Go.Proofs.YtccjclmjoegibaaDoor Go.Proofs.YtccjclmjoegibaaDoorW.PrintWords Go.Proofs.YtccjclmjoegibaaDoorW.PrintLast Go.Proofs.YtccjclmjoegibaaDoorW.PrintMore PCloserOrders Hp
attribute [local go_sem] max2_int min2_int max_two min_two max_three min_three max_four min_four
set_option linter.unusedVariables false
set_option linter.unusedSimpArgs false

/-- Which of two parts ended last; of two of the same end the later place. -/
def aheadB (l : List S33) (a b : Int) : Bool := if (rd_T33 l a).f3 = (rd_T33 l b).f3 then decide (a > b) else decide ((rd_T33 l a).f3 > (rd_T33 l b).f3)
theorem ahead_true (l : List S33) (a b : Int) : aheadB l a b = true ↔ (rd_T33 l a).f3 > (rd_T33 l b).f3 ∨ (rd_T33 l a).f3 = (rd_T33 l b).f3 ∧ a > b := by
  unfold aheadB
  by_cases h : (rd_T33 l a).f3 = (rd_T33 l b).f3
  · rw [if_pos h, decide_eq_true_iff]; omega
  · rw [if_neg h, decide_eq_true_iff]; omega
theorem ahead_false (l : List S33) (a b : Int) : aheadB l a b = false ↔ ¬ ((rd_T33 l a).f3 > (rd_T33 l b).f3 ∨ (rd_T33 l a).f3 = (rd_T33 l b).f3 ∧ a > b) := by rw [← ahead_true, Bool.not_eq_true]
theorem ahead_ord (l : List S33) : Ord (aheadB l) := by
  refine ⟨fun a => ?_, fun a b => ?_, fun a b c => ?_⟩ <;> simp only [ahead_true, ahead_false] <;> omega

theorem ahead_is (w : World) (A : Option Addr) (c : Nat) (l : List S33) (a b : Int) (hr : Kd.C k33 w A l.length l) (a0 : 0 ≤ a) (a1 : a < l.length) (b0 : 0 ≤ b) (b1 : b < l.length) :
    Calls Tryd.prog 51 #[.slice A l.length c, .int .i64 a, .int .i64 b] w fun e w' => e = .returned (.bool (aheadB l a b)) ∧ Drawn0 w w' := by
  obtain ⟨ad, A4, c4, rfl, -, -, -, ha, -⟩ := at_T33 hr a a0 a1
  obtain ⟨ad', B4, d4, e, -, -, -, hb, -⟩ := at_T33 hr b b0 b1
  obtain rfl : ad = ad' := by injection e
  clear e hr
  unfold aheadB
  by_cases h : (rd_T33 l a).f3 = (rd_T33 l b).f3
  · rw [if_pos h]
    rw [h] at ha
    generalize (rd_T33 l b).f3 = eb at *
    clear h
    go_enter Tryd.func51, Tryd.ntmps51
    go_wp2_with fail
    go_quiet (fail)
    go_wp2_with fail
    go_ret
    exact ⟨rfl, ⟨_, rfl⟩⟩
  · rw [if_neg h]
    generalize (rd_T33 l b).f3 = eb at *
    generalize (rd_T33 l a).f3 = ea at *
    have hne : (ea != eb) = true := by simpa using h
    clear h
    go_enter Tryd.func51, Tryd.ntmps51
    go_wp2_with fail
    go_quiet (fail)
    go_wp2_with fail
    go_quiet (fail)
    go_wp2_with fail
    go_ret
    exact ⟨rfl, ⟨_, World.drewN_drewN ..⟩⟩

/-- The parts and the heap of places in memory. -/
def nextV (v : Value) (A : Option Addr) (n c : Nat) : Array Value := #[v, .func (.func 51) #[.slice A n c] #[]]
structure HS (w0 w : World) (hb : Nat) (ok : Nat → Prop) (A : Option Addr) (c : Nat) (l : List S33) (v : Value) (h : List Int) : Prop where
  blk : w.heap[hb]? = some (.cells (nextV v A l.length c) 76 (0, 0))
  row : Kd.R (Kd.int .i64) 3 w w0.heap.size ok v h
  bel : Below w0.heap.size w0 w
  hb : w0.heap.size ≤ hb
  parts : Kd.C k33 w0 A l.length l
  rng : ∀ x ∈ h, 0 ≤ x ∧ x < l.length
theorem HS.below {w0 w w' : World} {hb : Nat} {ok : Nat → Prop} {A : Option Addr} {c : Nat} {l : List S33} {v : Value} {h : List Int} (H : HS w0 w hb ok A c l v h) (hc : Below w.heap.size w w') : HS w0 w' hb ok A c l v h :=
  ⟨blk_below H.blk hc, Kd.R_below H.row hc, below_step H.bel hc, H.hb, H.parts, H.rng⟩
theorem HS.form {w0 w : World} {hb : Nat} {ok : Nat → Prop} {A : Option Addr} {c : Nat} {l : List S33} {v : Value} {h : List Int} (H : HS w0 w hb ok A c l v h) (hp : 0 < h.length) :
    ∃ g cap, v = .slice (some ⟨g, 0, none⟩) h.length cap ∧ w0.heap.size ≤ g ∧ ok g ∧ (∀ i : Nat, i < h.length → w.cell? ⟨g, i, none⟩ = some (.int .i64 (at_ h i)) ∧ w.frozen? ⟨g, i, none⟩ = false) := by
  have hr := H.row
  obtain ⟨g, cap, e, h1, h2, _⟩ := Kd.R_form hr hp
  subst e
  refine ⟨g, cap, rfl, h1, hr.1 g rfl, fun i hi => ?_⟩
  have := Kd.R_celln (0 : Int) hr (i : Int) (by omega) (by omega)
  exact this
theorem HS.cells {w0 w : World} {hb : Nat} {ok : Nat → Prop} {A : Option Addr} {c : Nat} {l : List S33} {v : Value} {h : List Int} (H : HS w0 w hb ok A c l v h) :
    w.cell? ⟨hb, 0, none⟩ = some v ∧ w.cell? ⟨hb, 1, none⟩ = some (.func (.func 51) #[.slice A l.length c] #[]) ∧ w.frozen? ⟨hb, 0, none⟩ = false :=
  ⟨(blk_cell H.blk 0).trans rfl, (blk_cell H.blk 1).trans rfl, blk_frozen H.blk 0⟩
theorem HS.slice {w0 w : World} {hb : Nat} {ok : Nat → Prop} {A : Option Addr} {c : Nat} {l : List S33} {v : Value} {h : List Int} (H : HS w0 w hb ok A c l v h) : ∃ B d, v = .slice B h.length d := Kd.R_slice H.row
theorem HS.at_rng {w0 w : World} {hb : Nat} {ok : Nat → Prop} {A : Option Addr} {c : Nat} {l : List S33} {v : Value} {h : List Int} (H : HS w0 w hb ok A c l v h) (i : Nat) (hi : i < h.length) : 0 ≤ at_ h i ∧ at_ h i < l.length :=
  H.rng _ (by rw [at_get h i hi]; exact List.getElem_mem hi)

theorem len_is (w0 w : World) (hb : Nat) (ok : Nat → Prop) (A : Option Addr) (c : Nat) (l : List S33) (v : Value) (h : List Int) (H : HS w0 w hb ok A c l v h) :
    Calls Tryd.prog 53 #[.pointer (some ⟨hb, 0, none⟩)] w fun e w' => e = .returned (.int .i64 h.length) ∧ w' = w := by
  obtain ⟨B, d, rfl⟩ := H.slice
  obtain ⟨q0, q1, q2⟩ := H.cells
  clear H
  go_enter Tryd.func53, Tryd.ntmps53
  go_wp2_with fail
  go_ret
  exact ⟨rfl, rfl⟩

theorem less_is (w0 w : World) (hb : Nat) (ok : Nat → Prop) (A : Option Addr) (c : Nat) (l : List S33) (v : Value) (h : List Int) (i j : Nat) (H : HS w0 w hb ok A c l v h) (hi : i < h.length) (hj : j < h.length) :
    Calls Tryd.prog 97 #[.pointer (some ⟨hb, 0, none⟩), .int .i64 i, .int .i64 j] w fun e w' => e = .returned (.bool (aheadB l (at_ h i) (at_ h j))) ∧ Drawn0 w w' := by
  obtain ⟨g, cap, rfl, hg, -, hx⟩ := H.form (by omega)
  obtain ⟨q0, q1, q2⟩ := H.cells
  obtain ⟨x0, -⟩ := hx i hi
  obtain ⟨y0, -⟩ := hx j hj
  have HP := Lib.hid (fun n => ahead_is (w.drewN n) A c l (at_ h i) (at_ h j) (Kd.C_below H.parts (H.bel.trans (pw_below_drewN (Below.refl _ _) n))) (H.at_rng i hi).1 (H.at_rng i hi).2 (H.at_rng j hj).1 (H.at_rng j hj).2)
  have i0 : (0 : Int) ≤ (i : Int) := by omega
  have i1 : (i : Int) < (h.length : Int) := by omega
  have j0 : (0 : Int) ≤ (j : Int) := by omega
  have j1 : (j : Int) < (h.length : Int) := by omega
  generalize at_ h i = x at *
  generalize at_ h j = y at *
  generalize h.length = n at *
  clear H hx hi hj
  go_enter Tryd.func97, Tryd.ntmps97
  go_wp2_with fail
  trace_state
  go_region_held3 (fun w' => w'.cell? ⟨hb, 0, none⟩ = some (.slice (some ⟨g, 0, none⟩) n cap) ∧ w'.cell? ⟨hb, 1, none⟩ = some (.func (.func 51) #[.slice A l.length c] #[]) ∧ w'.cell? ⟨g, i, none⟩ = some (.int .i64 x) ∧ w'.cell? ⟨g, j, none⟩ = some (.int .i64 y)) (first | exact ⟨q0, q1, x0, y0⟩ | fail) (first | (go_at_call 51; refine (HP.out 1).mono ?_; rintro _ w9 ⟨rfl, ⟨m, rfl⟩⟩) | fail)
  trace_state
  go_wp2_with fail
  go_ret
  exact ⟨rfl, ⟨_, rfl⟩⟩
end Go.Proofs.YtccjclmjoegibaaDoor.Ce
