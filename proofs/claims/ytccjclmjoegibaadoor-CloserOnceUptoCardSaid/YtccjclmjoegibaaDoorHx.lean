/- The heap of the parts that may be closed next, in memory: Swap, Pop, Push; up, down. -/
import Derived.Test.YtccjclmjoegibaaDoorHw
import Derived.Deep.RegionHeld3
import Derived.Deep.RegionLaw
namespace Go.Proofs.YtccjclmjoegibaaDoor.Ce
open Go.RowKit Go.Maps Go.Proofs.YtccjclmjoegibaaDoor Go.Proofs.YtccjclmjoegibaaDoorW.PrintWords Go.Proofs.YtccjclmjoegibaaDoorW.PrintLast Go.Proofs.YtccjclmjoegibaaDoorW.PrintMore PCloserOrders Hp
attribute [local go_sem] max2_int min2_int max_two min_two max_three min_three max_four min_four
set_option linter.unusedVariables false
set_option linter.unusedSimpArgs false
theorem HS.swapped {w0 w : World} {hb : Nat} {ok : Nat → Prop} {A : Option Addr} {c g cap : Nat} {l : List S33} {h : List Int} (H : HS w0 w hb ok A c l (.slice (some ⟨g, 0, none⟩) h.length cap) h) (i j : Nat) (hi : i < h.length) (hj : j < h.length) :
    HS w0 ((w.setCell ⟨g, i, none⟩ (.int .i64 (at_ h j))).setCell ⟨g, j, none⟩ (.int .i64 (at_ h i))) hb ok A c l (.slice (some ⟨g, 0, none⟩) h.length cap) (swap h i j) ∧ Chg ok w ((w.setCell ⟨g, i, none⟩ (.int .i64 (at_ h j))).setCell ⟨g, j, none⟩ (.int .i64 (at_ h i))) := by
  have hok : ok g := H.row.1 g rfl
  have hg : w0.heap.size ≤ g := by
    obtain ⟨g', cap', e, h1, _⟩ := Kd.R_form H.row (by omega)
    injection e with e _ _
    injection e with e
    injection e with e _ _
    omega
  have hc : Chg ok w ((w.setCell ⟨g, i, none⟩ (.int .i64 (at_ h j))).setCell ⟨g, j, none⟩ (.int .i64 (at_ h i))) := ((Chg.refl ok w).setCell (p := ⟨g, i, none⟩) hok _).setCell (p := ⟨g, j, none⟩) hok _
  have hcg : Chg (· = g) w ((w.setCell ⟨g, i, none⟩ (.int .i64 (at_ h j))).setCell ⟨g, j, none⟩ (.int .i64 (at_ h i))) := ((Chg.refl (· = g) w).setCell (p := ⟨g, i, none⟩) rfl _).setCell (p := ⟨g, j, none⟩) rfl _
  have hne : hb ≠ g := fun e => by
    obtain ⟨cs, hcs⟩ := Kd.R_typed H.row g rfl
    rw [← e, H.blk] at hcs
    injection hcs with hcs
    injection hcs with _ h2 _
    exact absurd h2 (by decide)
  have r1 := Kd.R_putn (xs := h) (n := h.length) (cap := cap) (g := g) H.row (i : Int) (at_ h j)
  have r2 := Kd.R_putn r1 (j : Int) (at_ h i)
  refine ⟨⟨blk_chg H.blk hcg hne, r2, Chg.below H.bel hcg (fun k e => by omega) H.bel.size, H.hb, H.parts, fun x hx => ?_⟩, hc⟩
  exact H.rng x ((swap_perm h i j hi hj).mem_iff.1 hx)
set_option maxHeartbeats 4000000 in
set_option maxRecDepth 100000 in
theorem swap_is (w0 w : World) (hb : Nat) (ok : Nat → Prop) (A : Option Addr) (c : Nat) (l : List S33) (v : Value) (h : List Int) (i j : Nat) (H : HS w0 w hb ok A c l v h) (hi : i < h.length) (hj : j < h.length) :
    Calls Tryd.prog 100 #[.pointer (some ⟨hb, 0, none⟩), .int .i64 i, .int .i64 j] w fun e w' => e = .returned (.tuple #[]) ∧ HS w0 w' hb ok A c l v (swap h i j) ∧ Chg ok w w' := by
  have H2 := Lib.hid (H.below (Below.refl w.heap.size w).drew)
  obtain ⟨g, cap, rfl, hg, -, hx⟩ := H.form (by omega)
  obtain ⟨q0, q1, q2⟩ := H.cells
  obtain ⟨x0, fx⟩ := hx i hi
  obtain ⟨y0, fy⟩ := hx j hj
  have HQ := Lib.hid (H2.out.swapped i j hi hj)
  have HZ := Lib.hid (show ∃ z, (w.setCell ⟨g, i, none⟩ (.int .i64 (at_ h j))).cell? ⟨g, j, none⟩ = some (.int .i64 z) from ⟨_, (Kd.R_celln (0 : Int) (Kd.R_putn H.row (i : Int) (at_ h j)) (j : Int) (by omega) (by omega)).1⟩)
  have i0 : (0 : Int) ≤ (i : Int) := by omega
  have i1 : (i : Int) < (h.length : Int) := by omega
  have j0 : (0 : Int) ≤ (j : Int) := by omega
  have j1 : (j : Int) < (h.length : Int) := by omega
  obtain ⟨s2, hs2⟩ : ∃ s, s = swap h i j := ⟨_, rfl⟩
  rw [← hs2] at HQ ⊢
  clear hs2
  obtain ⟨x, ex⟩ : ∃ x, x = at_ h i := ⟨_, rfl⟩
  obtain ⟨y, ey⟩ : ∃ y, y = at_ h j := ⟨_, rfl⟩
  rw [← ex] at x0 HQ
  rw [← ey] at y0 HQ HZ
  clear ex ey
  obtain ⟨z, z0⟩ := HZ.out
  clear HZ
  generalize h.length = n at *
  clear H hx hi hj H2
  go_enter Tryd.func100, Tryd.ntmps100
  go_wp2_with fail
  refine start_ (n := 28) (S := (fun w' => w'.cell? ⟨hb, 0, none⟩ = some (.slice (some ⟨g, 0, none⟩) n cap) ∧ w'.cell? ⟨g, i, none⟩ = some (.int .i64 x) ∧ w'.cell? ⟨g, j, none⟩ = some (.int .i64 y))) (ds := [25, 27]) #[false, false, false, false, false, false, false, false, false, false, false, false, false, false, false, false, false, false, false, false, false, false, false, false, false, false, false, false] (by kernel_rfl) rfl rfl ⟨q0, x0, y0⟩ (fun hHeld => ?_)
  refine pure_ (i := 0) (N := some 6) (v := ?_) (a' := ?_) #[true, false, false, false, false, false, false, false, false, false, false, false, false, false, false, false, false, false, false, false, false, false, false, false, false, false, false, false] rfl rfl (by kernel_rfl) (fun _ _ _ h => h) (Or.inl ⟨by rfl, ?_⟩) ?_ ?_
  rotate_left
  · intro w'
    go_simp
    try with_reducible rfl
  rotate_left
  · simp only [Act.put, List.setIfInBounds_toArray, List.set_cons_zero, List.set_cons_succ]
    rfl
  refine pure_ (i := 1) (N := some 7) (v := ?_) (a' := ?_) #[true, true, false, false, false, false, false, false, false, false, false, false, false, false, false, false, false, false, false, false, false, false, false, false, false, false, false, false] rfl rfl (by kernel_rfl) (fun _ _ _ h => h) (Or.inl ⟨by rfl, ?_⟩) ?_ ?_
  rotate_left
  · intro w'
    go_simp
    try with_reducible rfl
  rotate_left
  · simp only [Act.put, List.setIfInBounds_toArray, List.set_cons_zero, List.set_cons_succ]
    rfl
  refine pure_ (i := 2) (N := some 8) (v := ?_) (a' := ?_) #[true, true, true, false, false, false, false, false, false, false, false, false, false, false, false, false, false, false, false, false, false, false, false, false, false, false, false, false] rfl rfl (by kernel_rfl) (fun _ _ _ h => h) (Or.inl ⟨by rfl, ?_⟩) ?_ ?_
  rotate_left
  · intro w'
    go_simp
    try with_reducible rfl
  rotate_left
  · simp only [Act.put, List.setIfInBounds_toArray, List.set_cons_zero, List.set_cons_succ]
    rfl
  refine take_ (i := 3) (N := some 9) (v := ?_) (a' := ?_) #[true, true, true, true, false, false, false, false, false, false, false, false, false, false, false, false, false, false, false, false, false, false, false, false, false, false, false, false] rfl rfl (by kernel_rfl) (fun _ _ _ h => h) (Or.inl ⟨by rfl, ?_⟩) hHeld ?_ ?_
  rotate_left
  · rintro w' ⟨s0, s1, s2⟩
    go_simp
    try with_reducible rfl
  rotate_left
  · simp only [Act.put, List.setIfInBounds_toArray, List.set_cons_zero, List.set_cons_succ]
    rfl
  refine pure_ (i := 4) (N := some 10) (v := ?_) (a' := ?_) #[true, true, true, true, true, false, false, false, false, false, false, false, false, false, false, false, false, false, false, false, false, false, false, false, false, false, false, false] rfl rfl (by kernel_rfl) (fun _ _ _ h => h) (Or.inl ⟨by rfl, ?_⟩) ?_ ?_
  rotate_left
  · intro w'
    go_simp
    try with_reducible rfl
  rotate_left
  · simp only [Act.put, List.setIfInBounds_toArray, List.set_cons_zero, List.set_cons_succ]
    rfl
  refine pure_ (i := 5) (N := some 11) (v := ?_) (a' := ?_) #[true, true, true, true, true, true, false, false, false, false, false, false, false, false, false, false, false, false, false, false, false, false, false, false, false, false, false, false] rfl rfl (by kernel_rfl) (fun _ _ _ h => h) (Or.inl ⟨by rfl, ?_⟩) ?_ ?_
  rotate_left
  · intro w'
    go_simp
    try with_reducible rfl
  rotate_left
  · simp only [Act.put, List.setIfInBounds_toArray, List.set_cons_zero, List.set_cons_succ]
    rfl
  refine pure_ (i := 6) (N := some 12) (v := ?_) (a' := ?_) #[true, true, true, true, true, true, true, false, false, false, false, false, false, false, false, false, false, false, false, false, false, false, false, false, false, false, false, false] rfl rfl (by kernel_rfl) (fun _ _ _ h => h) (Or.inl ⟨by rfl, ?_⟩) ?_ ?_
  rotate_left
  · intro w'
    go_simp
    try with_reducible rfl
  rotate_left
  · simp only [Act.put, List.setIfInBounds_toArray, List.set_cons_zero, List.set_cons_succ]
    rfl
  refine pure_ (i := 7) (N := some 13) (v := ?_) (a' := ?_) #[true, true, true, true, true, true, true, true, false, false, false, false, false, false, false, false, false, false, false, false, false, false, false, false, false, false, false, false] rfl rfl (by kernel_rfl) (fun _ _ _ h => h) (Or.inl ⟨by rfl, ?_⟩) ?_ ?_
  rotate_left
  · intro w'
    go_simp
    try with_reducible rfl
  rotate_left
  · simp only [Act.put, List.setIfInBounds_toArray, List.set_cons_zero, List.set_cons_succ]
    rfl
  refine take_ (i := 8) (N := some 14) (v := ?_) (a' := ?_) #[true, true, true, true, true, true, true, true, true, false, false, false, false, false, false, false, false, false, false, false, false, false, false, false, false, false, false, false] rfl rfl (by kernel_rfl) (fun _ _ _ h => h) (Or.inl ⟨by rfl, ?_⟩) hHeld ?_ ?_
  rotate_left
  · rintro w' ⟨s0, s1, s2⟩
    go_simp
    try with_reducible rfl
  rotate_left
  · simp only [Act.put, List.setIfInBounds_toArray, List.set_cons_zero, List.set_cons_succ]
    rfl
  refine pure_ (i := 9) (N := some 15) (v := ?_) (a' := ?_) #[true, true, true, true, true, true, true, true, true, true, false, false, false, false, false, false, false, false, false, false, false, false, false, false, false, false, false, false] rfl rfl (by kernel_rfl) (fun _ _ _ h => h) (Or.inl ⟨by rfl, ?_⟩) ?_ ?_
  rotate_left
  · intro w'
    go_simp
    try with_reducible rfl
  rotate_left
  · simp only [Act.put, List.setIfInBounds_toArray, List.set_cons_zero, List.set_cons_succ]
    rfl
  refine pure_ (i := 10) (N := some 16) (v := ?_) (a' := ?_) #[true, true, true, true, true, true, true, true, true, true, true, false, false, false, false, false, false, false, false, false, false, false, false, false, false, false, false, false] rfl rfl (by kernel_rfl) (fun _ _ _ h => h) (Or.inl ⟨by rfl, ?_⟩) ?_ ?_
  rotate_left
  · intro w'
    go_simp
    try with_reducible rfl
  rotate_left
  · simp only [Act.put, List.setIfInBounds_toArray, List.set_cons_zero, List.set_cons_succ]
    rfl
  refine pure_ (i := 11) (N := some 17) (v := ?_) (a' := ?_) #[true, true, true, true, true, true, true, true, true, true, true, true, false, false, false, false, false, false, false, false, false, false, false, false, false, false, false, false] rfl rfl (by kernel_rfl) (fun _ _ _ h => h) (Or.inl ⟨by rfl, ?_⟩) ?_ ?_
  rotate_left
  · intro w'
    go_simp
    try with_reducible rfl
  rotate_left
  · simp only [Act.put, List.setIfInBounds_toArray, List.set_cons_zero, List.set_cons_succ]
    rfl
  refine pure_ (i := 12) (N := some 18) (v := ?_) (a' := ?_) #[true, true, true, true, true, true, true, true, true, true, true, true, true, false, false, false, false, false, false, false, false, false, false, false, false, false, false, false] rfl rfl (by kernel_rfl) (fun _ _ _ h => h) (Or.inl ⟨by rfl, ?_⟩) ?_ ?_
  rotate_left
  · intro w'
    go_simp
    try with_reducible rfl
  rotate_left
  · simp only [Act.put, List.setIfInBounds_toArray, List.set_cons_zero, List.set_cons_succ]
    rfl
  refine take_ (i := 13) (N := some 19) (v := ?_) (a' := ?_) #[true, true, true, true, true, true, true, true, true, true, true, true, true, true, false, false, false, false, false, false, false, false, false, false, false, false, false, false] rfl rfl (by kernel_rfl) (fun _ _ _ h => h) (Or.inl ⟨by rfl, ?_⟩) hHeld ?_ ?_
  rotate_left
  · rintro w' ⟨s0, s1, s2⟩
    go_simp
    try with_reducible rfl
  rotate_left
  · simp only [Act.put, List.setIfInBounds_toArray, List.set_cons_zero, List.set_cons_succ]
    rfl
  refine pure_ (i := 14) (N := some 20) (v := ?_) (a' := ?_) #[true, true, true, true, true, true, true, true, true, true, true, true, true, true, true, false, false, false, false, false, false, false, false, false, false, false, false, false] rfl rfl (by kernel_rfl) (fun _ _ _ h => h) (Or.inl ⟨by rfl, ?_⟩) ?_ ?_
  rotate_left
  · intro w'
    go_simp
    try with_reducible rfl
  rotate_left
  · simp only [Act.put, List.setIfInBounds_toArray, List.set_cons_zero, List.set_cons_succ]
    rfl
  refine pure_ (i := 15) (N := some 21) (v := ?_) (a' := ?_) #[true, true, true, true, true, true, true, true, true, true, true, true, true, true, true, true, false, false, false, false, false, false, false, false, false, false, false, false] rfl rfl (by kernel_rfl) (fun _ _ _ h => h) (Or.inl ⟨by rfl, ?_⟩) ?_ ?_
  rotate_left
  · intro w'
    go_simp
    try with_reducible rfl
  rotate_left
  · simp only [Act.put, List.setIfInBounds_toArray, List.set_cons_zero, List.set_cons_succ]
    rfl
  refine take_ (i := 16) (N := some 22) (v := ?_) (a' := ?_) #[true, true, true, true, true, true, true, true, true, true, true, true, true, true, true, true, true, false, false, false, false, false, false, false, false, false, false, false] rfl rfl (by kernel_rfl) (fun _ _ _ h => h) (Or.inl ⟨by rfl, ?_⟩) hHeld ?_ ?_
  rotate_left
  · rintro w' ⟨s0, s1, s2⟩
    go_simp
    try with_reducible rfl
  rotate_left
  · simp only [Act.put, List.setIfInBounds_toArray, List.set_cons_zero, List.set_cons_succ]
    rfl
  refine pure_ (i := 17) (N := some 23) (v := ?_) (a' := ?_) #[true, true, true, true, true, true, true, true, true, true, true, true, true, true, true, true, true, true, false, false, false, false, false, false, false, false, false, false] rfl rfl (by kernel_rfl) (fun _ _ _ h => h) (Or.inl ⟨by rfl, ?_⟩) ?_ ?_
  rotate_left
  · intro w'
    go_simp
    try with_reducible rfl
  rotate_left
  · simp only [Act.put, List.setIfInBounds_toArray, List.set_cons_zero, List.set_cons_succ]
    rfl
  refine pure_ (i := 18) (N := some 24) (v := ?_) (a' := ?_) #[true, true, true, true, true, true, true, true, true, true, true, true, true, true, true, true, true, true, true, false, false, false, false, false, false, false, false, false] rfl rfl (by kernel_rfl) (fun _ _ _ h => h) (Or.inl ⟨by rfl, ?_⟩) ?_ ?_
  rotate_left
  · intro w'
    go_simp
    try with_reducible rfl
  rotate_left
  · simp only [Act.put, List.setIfInBounds_toArray, List.set_cons_zero, List.set_cons_succ]
    rfl
  refine pure_ (i := 19) (N := some 25) (v := ?_) (a' := ?_) #[true, true, true, true, true, true, true, true, true, true, true, true, true, true, true, true, true, true, true, true, false, false, false, false, false, false, false, false] rfl rfl (by kernel_rfl) (fun _ _ _ h => h) (Or.inl ⟨by rfl, ?_⟩) ?_ ?_
  rotate_left
  · intro w'
    go_simp
    try with_reducible rfl
  rotate_left
  · simp only [Act.put, List.setIfInBounds_toArray, List.set_cons_zero, List.set_cons_succ]
    rfl
  refine take_ (i := 20) (N := some 26) (v := ?_) (a' := ?_) #[true, true, true, true, true, true, true, true, true, true, true, true, true, true, true, true, true, true, true, true, true, false, false, false, false, false, false, false] rfl rfl (by kernel_rfl) (fun _ _ _ h => h) (Or.inl ⟨by rfl, ?_⟩) hHeld ?_ ?_
  rotate_left
  · rintro w' ⟨s0, s1, s2⟩
    go_simp
    try with_reducible rfl
  rotate_left
  · simp only [Act.put, List.setIfInBounds_toArray, List.set_cons_zero, List.set_cons_succ]
    rfl
  refine pure_ (i := 21) (N := some 27) (v := ?_) (a' := ?_) #[true, true, true, true, true, true, true, true, true, true, true, true, true, true, true, true, true, true, true, true, true, true, false, false, false, false, false, false] rfl rfl (by kernel_rfl) (fun _ _ _ h => h) (Or.inl ⟨by rfl, ?_⟩) ?_ ?_
  rotate_left
  · intro w'
    go_simp
    try with_reducible rfl
  rotate_left
  · simp only [Act.put, List.setIfInBounds_toArray, List.set_cons_zero, List.set_cons_succ]
    rfl
  refine pure_ (i := 22) (N := some 28) (v := ?_) (a' := ?_) #[true, true, true, true, true, true, true, true, true, true, true, true, true, true, true, true, true, true, true, true, true, true, true, false, false, false, false, false] rfl rfl (by kernel_rfl) (fun _ _ _ h => h) (Or.inl ⟨by rfl, ?_⟩) ?_ ?_
  rotate_left
  · intro w'
    go_simp
    try with_reducible rfl
  rotate_left
  · simp only [Act.put, List.setIfInBounds_toArray, List.set_cons_zero, List.set_cons_succ]
    rfl
  refine take_ (i := 23) (N := some 29) (v := ?_) (a' := ?_) #[true, true, true, true, true, true, true, true, true, true, true, true, true, true, true, true, true, true, true, true, true, true, true, true, false, false, false, false] rfl rfl (by kernel_rfl) (fun _ _ _ h => h) (Or.inl ⟨by rfl, ?_⟩) hHeld ?_ ?_
  rotate_left
  · rintro w' ⟨s0, s1, s2⟩
    go_simp
    try with_reducible rfl
  rotate_left
  · simp only [Act.put, List.setIfInBounds_toArray, List.set_cons_zero, List.set_cons_succ]
    rfl
  refine pure_ (i := 24) (N := some 30) (v := ?_) (a' := ?_) #[true, true, true, true, true, true, true, true, true, true, true, true, true, true, true, true, true, true, true, true, true, true, true, true, true, false, false, false] rfl rfl (by kernel_rfl) (fun _ _ _ h => h) (Or.inl ⟨by rfl, ?_⟩) ?_ ?_
  rotate_left
  · intro w'
    go_simp
    try with_reducible rfl
  rotate_left
  · simp only [Act.put, List.setIfInBounds_toArray, List.set_cons_zero, List.set_cons_succ]
    rfl
  refine last_ (i := 25) (N := none) #[true, true, true, true, true, true, true, true, true, true, true, true, true, true, true, true, true, true, true, true, true, true, true, true, true, true, false, false] rfl rfl (by kernel_rfl) (by decide) (fun K hK => ?_)
  refine skip_ (w1 := ?_) (by rfl) rfl ?_ ?_
  rotate_left
  · go_simp
    rfl
  refine hK.out _ _ ?_
  clear hK K
  refine pure_ (i := 26) (N := some 31) (v := ?_) (a' := ?_) #[true, true, true, true, true, true, true, true, true, true, true, true, true, true, true, true, true, true, true, true, true, true, true, true, true, true, true, false] rfl rfl (by kernel_rfl) (fun _ _ _ h => h) (Or.inl ⟨by rfl, ?_⟩) ?_ ?_
  rotate_left
  · intro w'
    go_simp
    try with_reducible rfl
  rotate_left
  · simp only [Act.put, List.setIfInBounds_toArray, List.set_cons_zero, List.set_cons_succ]
    rfl
  refine last_ (i := 27) (N := none) #[true, true, true, true, true, true, true, true, true, true, true, true, true, true, true, true, true, true, true, true, true, true, true, true, true, true, true, true] rfl rfl (by kernel_rfl) (by decide) (fun K hK => ?_)
  refine skip_ (w1 := ?_) (by rfl) rfl ?_ ?_
  rotate_left
  · go_simp
    rfl
  refine hK.out _ _ ?_
  clear hK K
  refine done_ (by kernel_rfl) ?_
  go_end0
  exact ⟨rfl, (HQ.out.1), (Chg.refl ok w).drew.trans HQ.out.2⟩
theorem HS.header {w0 w : World} {hb : Nat} {ok : Nat → Prop} {A : Option Addr} {c : Nat} {l : List S33} {v v' : Value} {h h' : List Int} (H : HS w0 w hb ok A c l v h) (hr : Kd.R (Kd.int .i64) 3 w w0.heap.size ok v' h') (hx : ∀ x ∈ h', 0 ≤ x ∧ x < l.length) :
    HS w0 (w.setCell ⟨hb, 0, none⟩ v') hb ok A c l v' h' ∧ Chg (· = hb) w (w.setCell ⟨hb, 0, none⟩ v') := by
  have hc : Chg (· = hb) w (w.setCell ⟨hb, 0, none⟩ v') := (Chg.refl (· = hb) w).setCell (p := ⟨hb, 0, none⟩) rfl _
  exact ⟨⟨blk_set H.blk 0 v', Kd.R_set hr H.blk (by decide) 0 v', Chg.below H.bel hc (fun k e => by have := H.hb; omega) H.bel.size, H.hb, H.parts, hx⟩, hc⟩
theorem HS.ne {w0 w : World} {hb : Nat} {ok : Nat → Prop} {A : Option Addr} {c : Nat} {l : List S33} {v : Value} {h : List Int} (H : HS w0 w hb ok A c l v h) : some hb ≠ v.ownBlock := fun e => by
  obtain ⟨cs, hcs⟩ := Kd.R_typed H.row hb e.symm
  rw [H.blk] at hcs
  injection hcs with hcs
  injection hcs with _ h2 _
  exact absurd h2 (by decide)
set_option maxHeartbeats 4000000 in
theorem popm_is (w0 w : World) (hb : Nat) (ok : Nat → Prop) (A : Option Addr) (c : Nat) (l : List S33) (v : Value) (h : List Int) (H : HS w0 w hb ok A c l v h) (hp : 0 < h.length) (hl : h.length < 1000000) :
    Calls Tryd.prog 98 #[.pointer (some ⟨hb, 0, none⟩)] w fun e w' => e = .returned (.iface 3 (.int .i64 (at_ h (h.length - 1)))) ∧ (∃ v', HS w0 w' hb ok A c l v' (h.take (h.length - 1))) ∧ Chg (· = hb) w w' := by
  obtain ⟨g, cap, rfl, hg, -, hx⟩ := H.form hp
  obtain ⟨q0, q1, q2⟩ := H.cells
  obtain ⟨x0, -⟩ := hx (h.length - 1) (by omega)
  have hcap := (Kd.R_reads' H.row).2.1
  have HR := Lib.hid (H.header (Kd.R_take (m := h.length - 1) H.row (by omega)) (fun x hx => H.rng x (List.mem_of_mem_take hx)))
  generalize at_ h (h.length - 1) = x at *
  have e1 : IntKind.i64.wrap ((h.length : Int) - 1) = ((h.length - 1 : Nat) : Int) := by rw [IntWalk.i64_in _ (by omega)]; omega
  obtain ⟨n, hn⟩ : ∃ n, n = h.length - 1 := ⟨_, rfl⟩
  rw [← hn] at x0 HR e1 ⊢
  have n0 : (0 : Int) ≤ (n : Int) := by omega
  have n1 : (n : Int) < (h.length : Int) := by omega
  have n2 : (n : Int) ≤ (cap : Int) := by omega
  clear H hx hn hl hp hcap
  go_enter Tryd.func98, Tryd.ntmps98
  go_wp2_with fail
  go_ret
  exact ⟨rfl, ⟨_, HR.out.1⟩, HR.out.2⟩
theorem HS.pushed {w0 w w7 : World} {hb : Nat} {ok ok' : Nat → Prop} {A : Option Addr} {c : Nat} {l : List S33} {v v' : Value} {h : List Int} {x : Int} (H : HS w0 w hb ok A c l v h) (hx : 0 ≤ x ∧ x < l.length) (hr : Kd.R (Kd.int .i64) 3 w7 w0.heap.size ok' v' (h ++ [x])) (hb7 : Below w0.heap.size w0 w7) (hg : w.grownBy w7 v.ownBlock) :
    HS w0 (w7.setCell ⟨hb, 0, none⟩ v') hb ok' A c l v' (h ++ [x]) ∧ Chg (fun k => k = hb ∨ ok k) w (w7.setCell ⟨hb, 0, none⟩ v') ∧ w7.cell? ⟨hb, 0, none⟩ = some v ∧ w7.frozen? ⟨hb, 0, none⟩ = false := by
  have hblk : w7.heap[hb]? = some (.cells (nextV v A l.length c) 76 (0, 0)) := (hg.block hb (blk_lt H.blk) H.ne).trans H.blk
  have hc7 : Chg (fun k => k = hb ∨ ok k) w w7 := ⟨hg.os, hg.tape, hg.output, hg.size, fun k hk hs => hg.block k hk (fun e => hs (.inr (H.row.1 k e.symm)))⟩
  refine ⟨⟨blk_set hblk 0 v', Kd.R_set hr hblk (by decide) 0 v', Chg.below hb7 ((Chg.refl (· = hb) w7).setCell (p := ⟨hb, 0, none⟩) rfl v') (fun k e => by have := H.hb; omega) hb7.size, H.hb, H.parts, fun y hy => ?_⟩, hc7.setCell (p := ⟨hb, 0, none⟩) (.inl rfl) v', (blk_cell hblk 0).trans rfl, blk_frozen hblk 0⟩
  rcases List.mem_append.1 hy with k | k
  · exact H.rng y k
  · rw [List.mem_singleton.1 k]; exact hx
set_option maxHeartbeats 4000000 in
theorem pushm_is (w0 w : World) (hb : Nat) (ok : Nat → Prop) (A : Option Addr) (c : Nat) (l : List S33) (v : Value) (h : List Int) (x : Int) (H : HS w0 w hb ok A c l v h) (hx : 0 ≤ x ∧ x < l.length) (hl : h.length < 1000000) :
    Calls Tryd.prog 99 #[.pointer (some ⟨hb, 0, none⟩), .iface 3 (.int .i64 x)] w fun e w' => e = .returned (.tuple #[]) ∧ (∃ v', HS w0 w' hb (fun k => ok k ∨ w.heap.size ≤ k) A c l v' (h ++ [x])) ∧ Chg (fun k => k = hb ∨ ok k) w w' := by
  obtain ⟨q0, q1, q2⟩ := H.cells
  have HH := Lib.hid H
  have HX := Lib.hid hx
  have HL := Lib.hid hl
  have HRD := Lib.hid (Kd.R_mono (H.below (Below.refl w.heap.size w).drew).row (ok' := fun k => ok k ∨ w.heap.size ≤ k) (fun k hk => .inl hk))
  have HD := Lib.hid (H.below (Below.refl w.heap.size w).drew)
  have qa := ((H.below ((Below.refl w.heap.size w).alloc (Nat.le_refl _) (.cells #[.int .i64 x] 3))).cells).1
  clear H hx hl
  have hta : ∀ w : World, (Instr.typeAssert (.iface 3 (.int .i64 x)) 20 3 false).run Tryd.prog w = .ok (.int .i64 x) w := fun _ => by kernel_rfl
  go_enter Tryd.func99, Tryd.ntmps99
  go_wp2_with fail
  trace_state
  go_region_law (refine Kd.R_append_step (Kd.int .i64) (w0 := w0) (W := w.drew) w0.heap.size (by rfl) (.tmp 8) (.tmp 11) 22 3 (.int .i64 0) 8 rfl Tryd.underlying22 info3 rfl (by decide) (by decide) v h x [.int .i64 x] (fun k => ok k ∨ w.heap.size ≤ k) (fun _ => False) rfl rfl rfl (fun _ h => h.elim) (fun k hk => .inr hk) HRD.out HD.out.bel HD.out.bel.size (by have := HL.out; omega) ?_; intro v' w7 ho hb hg hat; obtain ⟨B7, m7, d7, rfl⟩ : ∃ B m d, v' = .slice B m d := (Kd.R_slice ho).elim fun B hB => hB.elim fun d hd => ⟨B, _, d, hd⟩; have HY := Lib.hid (HD.out.pushed HX.out ho hb hg); have k5 := HY.out.2.2.1; have k6 := HY.out.2.2.2; clear ho hb hg hat)
  all_goals
    trace_state
    go_end0
    exact ⟨rfl, ⟨_, HY.out.1⟩, (Chg.refl _ w).drew.trans HY.out.2.1⟩
end Go.Proofs.YtccjclmjoegibaaDoor.Ce
