/- What NewBreaker, NewBudget and a budget's methods answer, and what they leave in memory: for all numbers. -/
import Derived.Test.YtklccnnmdlckfaaBr
namespace Go.Proofs.Ytklccnnmdlckfaa.Br
open Go.RowKit Go.Maps Go.Proofs.Ytklccnnmdlckfaa Go.Proofs.YtklccnnmdlckfaaW.PrintWords Go.Proofs.YtklccnnmdlckfaaW.PrintLast Go.Proofs.YtklccnnmdlckfaaW.PrintMore
attribute [local go_sem] max2_int min2_int max_two min_two

theorem below_drewN (w : World) (n : Nat) : Below w.heap.size w (w.drewN n) := ⟨rfl, rfl, rfl, Nat.le_refl _, fun _ _ => rfl⟩

theorem new_bad (w : World) (l r : Int) (h : ¬ ((1 ≤ l ∧ l ≤ 1000) ∧ (1 ≤ r ∧ r ≤ 1099511627776))) :
    Calls Try.prog 31 #[.int .i64 l, .int .i64 r] w fun e w' => e = .returned (.tuple #[.pointer none, .int .i64 1]) ∧ ∃ n, w' = w.drewN n := by
  by_cases h1 : 1 ≤ l ∧ l ≤ 1000
  · have h2 : decide (1 ≤ r ∧ r ≤ 1099511627776) = false := by simp only [decide_eq_false_iff_not]; exact fun k => h ⟨h1, k⟩
    have h1' : decide (1 ≤ l ∧ l ≤ 1000) = true := by simpa using h1
    have HI := Lib.hid (in_is w (a := l) (lo := 1) (hi := 1000) h1')
    have HI2 := fun w => Lib.hid (in_is w (a := r) (lo := 1) (hi := 1099511627776) h2)
    clear h h1 h2 h1'
    go_enter Try.func31, Try.ntmps31
    go_wp2_with (first | (go_at_call 39; (with_reducible refine HI.out.mono ?_); rintro e w' ⟨rfl, ⟨nd, rfl⟩⟩) | (go_at_call 39; (with_reducible refine (HI2 _).out.mono ?_); rintro e w' ⟨rfl, ⟨nd, rfl⟩⟩))
    go_ret2
    exact ⟨rfl, _, rfl⟩
  · have h1' : decide (1 ≤ l ∧ l ≤ 1000) = false := by simpa using h1
    have HI := Lib.hid (in_is w (a := l) (lo := 1) (hi := 1000) h1')
    clear h h1 h1'
    go_enter Try.func31, Try.ntmps31
    go_wp2_with (first | (go_at_call 39; (with_reducible refine HI.out.mono ?_); rintro e w' ⟨rfl, ⟨nd, rfl⟩⟩))
    go_ret2
    exact ⟨rfl, _, rfl⟩

def fresh (l r : Int) : Brk := ⟨l, r, 1, 0, 0, 0, 0, 0⟩

theorem new_good (w : World) (l r : Int) (h1 : 1 ≤ l ∧ l ≤ 1000) (h2 : 1 ≤ r ∧ r ≤ 1099511627776) :
    Calls Try.prog 31 #[.int .i64 l, .int .i64 r] w fun e w' => ∃ b m, e = .returned (.tuple #[.pointer (some ⟨b, 0, none⟩), .int .i64 0]) ∧ At w' b m (fresh l r) ∧ Mp w' m 0 (.map []) ∧ Below w.heap.size w w' ∧ w.heap.size ≤ b ∧ w.heap.size ≤ m := by
  have h1' : decide (1 ≤ l ∧ l ≤ 1000) = true := by simpa using h1
  have h2' : decide (1 ≤ r ∧ r ≤ 1099511627776) = true := by simpa using h2
  have HI := Lib.hid (in_is w (a := l) (lo := 1) (hi := 1000) h1')
  have HI2 := fun w => Lib.hid (in_is w (a := r) (lo := 1) (hi := 1099511627776) h2')
  have hmm := @run_makeMap Try.prog
  clear h1 h2 h1' h2'
  go_enter Try.func31, Try.ntmps31
  go_wp2_with (first | (go_at_call 39; (with_reducible refine HI.out.mono ?_); rintro e w' ⟨rfl, ⟨nd, rfl⟩⟩) | (go_at_call 39; (with_reducible refine (HI2 _).out.mono ?_); rintro e w' ⟨rfl, ⟨nd', rfl⟩⟩))
  go_ret2
  refine ⟨w.heap.size + 1, w.heap.size, rfl, ?_, ?_, ?_, by omega, by omega⟩
  · have e := blk_new ((w.drewN (nd + nd')).alloc (.map #[] 0)) (.cells ((fresh l r).cells w.heap.size) 87)
    rw [World.size_alloc] at e
    exact e
  · have e := World.ownsMap_made (H := Unit) (w.drewN (nd + nd')) Try.prog 3 (plainElem Try.prog 3)
    exact Mp.chg (w := (w.drewN (nd + nd')).alloc (.map #[] 0)) (S := fun _ => False) e ((Chg.refl _ _).alloc _) (fun h => h)
  · exact ((below_drewN w (nd + nd')).alloc (Nat.le_refl _) _).alloc (by rw [World.size_alloc]; exact Nat.le_succ _) _

/-- A budget. -/
def Bud (w : World) (b : Nat) (most cost gain level : Int) : Prop := w.heap[b]? = some (.cells #[.int .i64 most, .int .i64 cost, .int .i64 gain, .int .i64 level] 84 (0, 0))
theorem Bud.facts {w : World} {b : Nat} {p q r s : Int} (h : Bud w b p q r s) : w.cell? ⟨b, 0, none⟩ = some (.int .i64 p) ∧ w.cell? ⟨b, 1, none⟩ = some (.int .i64 q) ∧ w.cell? ⟨b, 2, none⟩ = some (.int .i64 r) ∧ w.cell? ⟨b, 3, none⟩ = some (.int .i64 s) ∧ ∀ k, w.frozen? ⟨b, k, none⟩ = false :=
  ⟨(blk_cell h 0).trans rfl, (blk_cell h 1).trans rfl, (blk_cell h 2).trans rfl, (blk_cell h 3).trans rfl, fun k => blk_frozen h k⟩
theorem Bud.chg {S : Nat → Prop} {w w' : World} {b : Nat} {p q r s : Int} (h : Bud w b p q r s) (k : Chg S w w') (hs : ¬ S b) : Bud w' b p q r s := blk_chg h k hs
theorem Bud.s3 {w : World} {b : Nat} {p q r s : Int} (h : Bud w b p q r s) (x : Int) : Bud (w.setCell ⟨b, 3, none⟩ (.int .i64 x)) b p q r x := (blk_set h 3 _).trans rfl

def million (a : Int) : Bool := decide (0 ≤ a ∧ a ≤ 1000000)

theorem newbud_bad (w : World) (p q r : Int) (h : (million p && million q && million r) = false) :
    Calls Try.prog 16 #[.int .i64 p, .int .i64 q, .int .i64 r] w fun e w' => e = .returned (.tuple #[.pointer none, .int .i64 1]) ∧ ∃ n, w' = w.drewN n := by
  have I := fun (a : Int) (v : Bool) (h : million a = v) (w : World) => in_is w (a := a) (lo := 0) (hi := 1000000) (r := v) h
  cases h1 : million p
  · have HI := fun w => Lib.hid (I _ _ h1 w)
    clear I h h1
    go_enter Try.func16, Try.ntmps16
    go_wp2_with (first | (go_at_call 39; (with_reducible refine (HI _).out.mono ?_); rintro e w' ⟨rfl, ⟨nd, rfl⟩⟩))
    go_ret2
    exact ⟨rfl, _, rfl⟩
  cases h2 : million q
  · have HI := fun w => Lib.hid (I _ _ h1 w)
    have HI2 := fun w => Lib.hid (I _ _ h2 w)
    clear I h h1 h2
    go_enter Try.func16, Try.ntmps16
    go_wp2_with (first | (go_at_call 39; (with_reducible refine (HI _).out.mono ?_); rintro e w' ⟨rfl, ⟨nd, rfl⟩⟩) | (go_at_call 39; (with_reducible refine (HI2 _).out.mono ?_); rintro e w' ⟨rfl, ⟨nd, rfl⟩⟩))
    go_ret2
    exact ⟨rfl, _, rfl⟩
  cases h3 : million r
  · have HI := fun w => Lib.hid (I _ _ h1 w)
    have HI2 := fun w => Lib.hid (I _ _ h2 w)
    have HI3 := fun w => Lib.hid (I _ _ h3 w)
    clear I h h1 h2 h3
    go_enter Try.func16, Try.ntmps16
    go_wp2_with (first | (go_at_call 39; (with_reducible refine (HI _).out.mono ?_); rintro e w' ⟨rfl, ⟨nd, rfl⟩⟩) | (go_at_call 39; (with_reducible refine (HI2 _).out.mono ?_); rintro e w' ⟨rfl, ⟨nd, rfl⟩⟩) | (go_at_call 39; (with_reducible refine (HI3 _).out.mono ?_); rintro e w' ⟨rfl, ⟨nd, rfl⟩⟩))
    go_ret2
    exact ⟨rfl, _, rfl⟩
  simp [h1, h2, h3] at h

theorem newbud_good (w : World) (p q r : Int) (h1 : million p = true) (h2 : million q = true) (h3 : million r = true) :
    Calls Try.prog 16 #[.int .i64 p, .int .i64 q, .int .i64 r] w fun e w' => ∃ b, e = .returned (.tuple #[.pointer (some ⟨b, 0, none⟩), .int .i64 0]) ∧ Bud w' b p q r p ∧ Below w.heap.size w w' ∧ w.heap.size ≤ b := by
  have I := fun (a : Int) (v : Bool) (h : million a = v) (w : World) => in_is w (a := a) (lo := 0) (hi := 1000000) (r := v) h
  have HI := fun w => Lib.hid (I _ _ h1 w)
  have HI2 := fun w => Lib.hid (I _ _ h2 w)
  have HI3 := fun w => Lib.hid (I _ _ h3 w)
  clear I h1 h2 h3
  go_enter Try.func16, Try.ntmps16
  go_wp2_with (first | (go_at_call 39; (with_reducible refine (HI _).out.mono ?_); rintro e w' ⟨rfl, ⟨nd, rfl⟩⟩) | (go_at_call 39; (with_reducible refine (HI2 _).out.mono ?_); rintro e w' ⟨rfl, ⟨nd, rfl⟩⟩) | (go_at_call 39; (with_reducible refine (HI3 _).out.mono ?_); rintro e w' ⟨rfl, ⟨nd, rfl⟩⟩))
  go_ret2
  refine ⟨w.heap.size, rfl, ?_, ?_, by omega⟩
  · exact blk_new (w.drewN _) _
  · exact (below_drewN w _).alloc (Nat.le_refl _) _

theorem budask_any (w : World) (b : Nat) (p q r s : Int) (h : Bud w b p q r s) (hs0 : 0 ≤ s) (hs : s ≤ 1000000) :
    Calls Try.prog 18 #[.pointer (some ⟨b, 0, none⟩)] w fun e w' => e = .returned (.bool (decide (p < 2 * s))) ∧ ∃ n, w' = w.drewN n := by
  obtain ⟨c0, -, -, c3, -⟩ := h.facts
  clear h
  go_enter Try.func18, Try.ntmps18
  go_wp2
  go_quiet (fail)
  go_wp2
  go_ret
  exact ⟨rfl, _, rfl⟩

theorem budlevel_any (w : World) (b : Nat) (p q r s : Int) (h : Bud w b p q r s) :
    Calls Try.prog 20 #[.pointer (some ⟨b, 0, none⟩)] w fun e w' => e = .returned (.int .i64 s) ∧ w' = w := by
  obtain ⟨-, -, -, c3, -⟩ := h.facts
  clear h
  go_enter Try.func20, Try.ntmps20
  go_wp2
  go_ret
  exact ⟨rfl, rfl⟩

def budtold (most cost gain level : Int) (fine : Bool) : Int := if fine then (if level + gain < most then level + gain else most) else (if 0 < level - cost then level - cost else 0)

theorem budtell_any (w : World) (b : Nat) (p q r s : Int) (fine : Bool) (h : Bud w b p q r s) (hp : million p = true) (hq : million q = true) (hr : million r = true) (hs : million s = true) :
    Calls Try.prog 21 #[.pointer (some ⟨b, 0, none⟩), .bool fine] w fun e w' => e = .returned (.tuple #[]) ∧ Bud w' b p q r (budtold p q r s fine) ∧ Chg (· = b) w w' := by
  unfold million at hp hq hr hs
  simp only [decide_eq_true_eq] at hp hq hr hs
  obtain ⟨hp0, hp1⟩ := hp
  obtain ⟨hq0, hq1⟩ := hq
  obtain ⟨hr0, hr1⟩ := hr
  obtain ⟨hs0, hs1⟩ := hs
  have HB := Lib.hid h
  have HS : ∀ w1, Chg (· = b) w w1 → Bud w1 b p q r s → Bud (w1.setCell ⟨b, 3, none⟩ (.int .i64 (budtold p q r s fine))) b p q r (budtold p q r s fine) ∧ Chg (· = b) w (w1.setCell ⟨b, 3, none⟩ (.int .i64 (budtold p q r s fine))) :=
    fun w1 h1 h2 => ⟨h2.s3 _, h1.setCell rfl _⟩
  have HS := Lib.hid HS
  clear h
  cases fine
  · by_cases hm : 0 < s - q
    · have HO := Lib.hid (show budtold p q r s false = s - q by unfold budtold; rw [if_neg (by simp), if_pos hm])
      have hw : IntKind.i64.wrap (s - q) = s - q := IntWalk.i64_in _ (by omega)
      go_enter Try.func21, Try.ntmps21
      go_wp2
      refine region_tail 13 (by kernel_rfl) (by kernel_rfl) (fun w1 => Bud w1 b p q r s ∧ Chg (· = b) w w1) ⟨HB.out, (Chg.refl _ w).drew⟩ ?_
      rintro w1 ⟨k1, k2⟩
      have HX := Lib.hid (HS.out w1 k2 k1)
      obtain ⟨c0, c1, c2, c3, f⟩ := k1.facts
      clear k1 k2
      simp only [List.take_succ_cons, List.take_zero, List.drop_succ_cons, List.drop_zero]
      iterate 13 (refine wpStill_step (fun K hK => ?_); go_simp; refine hK _ ?_; clear hK K)
      refine wpStill_nil ?_
      clear hw
      go_wp2
      go_end0
      rw [HO.out] at HX ⊢
      exact ⟨rfl, HX.out⟩
    · have HO := Lib.hid (show budtold p q r s false = 0 by unfold budtold; rw [if_neg (by simp), if_neg hm])
      have hw : IntKind.i64.wrap (s - q) = s - q := IntWalk.i64_in _ (by omega)
      go_enter Try.func21, Try.ntmps21
      go_wp2
      refine region_tail 13 (by kernel_rfl) (by kernel_rfl) (fun w1 => Bud w1 b p q r s ∧ Chg (· = b) w w1) ⟨HB.out, (Chg.refl _ w).drew⟩ ?_
      rintro w1 ⟨k1, k2⟩
      have HX := Lib.hid (HS.out w1 k2 k1)
      obtain ⟨c0, c1, c2, c3, f⟩ := k1.facts
      clear k1 k2
      simp only [List.take_succ_cons, List.take_zero, List.drop_succ_cons, List.drop_zero]
      iterate 13 (refine wpStill_step (fun K hK => ?_); go_simp; refine hK _ ?_; clear hK K)
      refine wpStill_nil ?_
      clear hw
      go_wp2
      go_end0
      rw [HO.out] at HX ⊢
      exact ⟨rfl, HX.out⟩
  · by_cases hm : s + r < p
    · have HO := Lib.hid (show budtold p q r s true = s + r by unfold budtold; rw [if_pos rfl, if_pos hm])
      have hw : IntKind.i64.wrap (s + r) = s + r := IntWalk.i64_in _ (by omega)
      go_enter Try.func21, Try.ntmps21
      go_wp2
      refine region_tail 17 (by kernel_rfl) (by kernel_rfl) (fun w1 => Bud w1 b p q r s ∧ Chg (· = b) w w1) ⟨HB.out, (Chg.refl _ w).drew⟩ ?_
      rintro w1 ⟨k1, k2⟩
      have HX := Lib.hid (HS.out w1 k2 k1)
      obtain ⟨c0, c1, c2, c3, f⟩ := k1.facts
      clear k1 k2
      simp only [List.take_succ_cons, List.take_zero, List.drop_succ_cons, List.drop_zero]
      iterate 17 (refine wpStill_step (fun K hK => ?_); go_simp; refine hK _ ?_; clear hK K)
      refine wpStill_nil ?_
      clear hw
      go_wp2
      refine bodyPost_ret (results_none rfl _ _ _) rfl ?_
      rw [HO.out] at HX ⊢
      exact ⟨rfl, HX.out⟩
    · have HO := Lib.hid (show budtold p q r s true = p by unfold budtold; rw [if_pos rfl, if_neg hm])
      have hw : IntKind.i64.wrap (s + r) = s + r := IntWalk.i64_in _ (by omega)
      go_enter Try.func21, Try.ntmps21
      go_wp2
      refine region_tail 17 (by kernel_rfl) (by kernel_rfl) (fun w1 => Bud w1 b p q r s ∧ Chg (· = b) w w1) ⟨HB.out, (Chg.refl _ w).drew⟩ ?_
      rintro w1 ⟨k1, k2⟩
      have HX := Lib.hid (HS.out w1 k2 k1)
      obtain ⟨c0, c1, c2, c3, f⟩ := k1.facts
      clear k1 k2
      simp only [List.take_succ_cons, List.take_zero, List.drop_succ_cons, List.drop_zero]
      iterate 17 (refine wpStill_step (fun K hK => ?_); go_simp; refine hK _ ?_; clear hK K)
      refine wpStill_nil ?_
      clear hw
      go_wp2
      refine bodyPost_ret (results_none rfl _ _ _) rfl ?_
      rw [HO.out] at HX ⊢
      exact ⟨rfl, HX.out⟩
end Go.Proofs.Ytklccnnmdlckfaa.Br
