/- The walk of the law RetryRises: it answers true and leaves what was there as it was: for every policy and time. -/
import Derived.Test.YtklccnnmdlckfaaLwRises
import Derived.Test.YtklccnnmdlckfaaWlWaits
namespace Go.Proofs.Ytklccnnmdlckfaa.LwRises
open Go.RowKit Go.Maps Go.Proofs.Ytklccnnmdlckfaa Go.Proofs.Ytklccnnmdlckfaa.Br Go.Proofs.Ytklccnnmdlckfaa.LwWaits Go.Proofs.Ytklccnnmdlckfaa.PRetryWaits Go.Proofs.YtklccnnmdlckfaaW.PrintWords Go.Proofs.YtklccnnmdlckfaaW.PrintLast Go.Proofs.YtklccnnmdlckfaaW.PrintMore
attribute [local go_sem] max2_int max_two

section
variable {a b c d : Int} (hc : chk a b c d = 0)
include hc
theorem wait_k (k : Int) (h1 : 1 ≤ k) (h2 : k < a) : wait a b c d k = (wt b c d k, 0) := by unfold wait; rw [if_pos hc, if_neg (by omega), if_neg (by omega)]
theorem due_k (k x y : Int) (h1 : 1 ≤ k) (h2 : k < a) (hx : 0 ≤ x ∧ x ≤ 1099511627776) (hy : y = x + wt b c d k) (hy2 : y ≤ 1099511627776) : LwWaits.due a b c d k x = (y, 0) := by
  unfold LwWaits.due
  rw [wait_k hc k h1 h2]
  dsimp only
  rw [if_pos rfl, if_pos hx, if_neg (by omega), hy]
theorem due_end (k x : Int) (h1 : 1 ≤ k) (h2 : k < a) (hx : 0 ≤ x ∧ x ≤ 1099511627776) (hy : x + wt b c d k > 1099511627776) : LwWaits.due a b c d k x = (0, 3) := by
  unfold LwWaits.due
  rw [wait_k hc k h1 h2]
  dsimp only
  rw [if_pos rfl, if_pos hx, if_pos hy]
theorem may_k (k x y : Int) (h1 : 1 ≤ k) (h2 : k < a) (hx : 0 ≤ x ∧ x ≤ 1099511627776) (hy : y = x + wt b c d k) (hy2 : y ≤ 1099511627776) (hw : 0 ≤ wt b c d k) : may a b c d k x y = (true, 0) := by
  unfold may
  rw [due_k hc k x y h1 h2 hx hy hy2]
  dsimp only
  rw [if_pos rfl, if_pos (by omega)]
  simp
theorem may_less (k x y : Int) (h1 : 1 ≤ k) (h2 : k < a) (hx : 0 ≤ x ∧ x ≤ 1099511627776) (hy : y = x + wt b c d k) (hy2 : y ≤ 1099511627776) (hw : x < y) : may a b c d k x (y - 1) = (false, 0) := by
  unfold may
  rw [due_k hc k x y h1 h2 hx hy hy2]
  dsimp only
  rw [if_pos rfl, if_pos (by omega)]
  simp
  omega
end

/-- The policy's block and the list of times in a world. -/
def Two (w wr : World) (a b c d : Int) (v : Value) (T : List Int) : Prop := Boxed w wr a b c d ∧ IntsAt wr v T
theorem Two.below {w w1 w2 : World} {a b c d : Int} {v : Value} {T : List Int} (h : Two w w1 a b c d v T) (hb : Below w1.heap.size w1 w2) : Two w w2 a b c d v T := ⟨h.1.below hb, h.2.below hb⟩

set_option maxRecDepth 100000 in
theorem walk_bad (a b c d t e : Int) (w : World) (he : e ≠ 0) (hT : retry_Times.f 1000 a b c d t = some ([], e)) :
    Calls Try.prog 7 #[.agg #[.int .i64 a, .int .i64 b, .int .i64 c, .int .i64 d], .int .i64 t] w fun e w' => e = .returned (.bool true) ∧ Below w.heap.size w w' := by
  have HB := Lib.hid (Boxed.new w a b c d)
  have HT := Lib.hid hT
  have he' : (e != 0) = true := by simpa using he
  clear hT he
  go_enter Try.func7, Try.ntmps7
  go_wp2_with fail
  refine (works_any needs _).mono ?_
  rintro _ w1 ⟨rfl, hb⟩
  have HB1 := Lib.hid (HB.out.below hb)
  clear hb HB
  obtain ⟨c0, c1, c2, c3⟩ := HB1.out.pol
  go_wp2_with fail
  refine (retry_Times.calls 1000 a b c d t [] e _ HT.out).mono ?_
  rintro _ w2 ⟨v, rfl, hv, hb⟩
  obtain ⟨A, cc, rfl, _, _⟩ := IntsAt.of_R hv
  have HB2 := Lib.hid (HB1.out.below hb)
  clear hb hv HB1 c0 c1 c2 c3
  go_wp2_with fail
  go_ret
  exact ⟨rfl, HB2.out.1⟩

set_option maxRecDepth 100000 in
theorem walk_zero (a b c d t : Int) (w : World) (ha : a = 0) (hc : chk a b c d = 0) (hT : retry_Times.f 1000 a b c d t = some ([t], 0)) :
    Calls Try.prog 7 #[.agg #[.int .i64 a, .int .i64 b, .int .i64 c, .int .i64 d], .int .i64 t] w fun e w' => e = .returned (.bool true) ∧ Below w.heap.size w w' := by
  have HB := Lib.hid (Boxed.new w a b c d)
  have HT := Lib.hid hT
  have HW := Lib.hid (show wait a b c d 1 = (0, 4) by unfold wait; rw [if_pos hc, if_neg (by omega), if_pos (by omega)])
  clear hT hc
  have h1 : ¬ (1 : Int) < a := by omega
  have h2 : a < 1 := by omega
  clear ha
  go_enter Try.func7, Try.ntmps7
  go_wp2_with fail
  refine (works_any needs _).mono ?_
  rintro _ w1 ⟨rfl, hb⟩
  have HB1 := Lib.hid (HB.out.below hb)
  clear hb HB
  obtain ⟨c0, c1, c2, c3⟩ := HB1.out.pol
  go_wp2_with fail
  refine (retry_Times.calls 1000 a b c d t [t] 0 _ HT.out).mono ?_
  rintro _ w2 ⟨v, rfl, hv, hb⟩
  have HB2 := Lib.hid (show Two w w2 a b c d v [t] from ⟨HB1.out.below hb, IntsAt.of_R hv⟩)
  clear hb hv HB1 c0 c1 c2 c3
  obtain ⟨A, cc, rfl, _, hC⟩ := HB2.out.2
  obtain ⟨ad, rfl, hx⟩ := Kd.at_int hC 0 (by omega) (by simp)
  have hx0 : w2.cell? ad = some (.int .i64 t) := by
    have e : ad.add 0 = ad := by unfold Addr.add; rw [if_pos rfl]
    have h := hx
    rw [show (0 : Int).toNat = 0 from rfl, e] at h
    exact h
  clear hx hC
  obtain ⟨c0, c1, c2, c3⟩ := HB2.out.1.pol
  go_wp2_with fail
  go_loopw [7, 8] (fun l k wr => ∃ x : Int, l = .int .i64 x ∧ k = .int .i64 1 ∧ wr = w2) (fun _ _ _ => 0)
  case atStart => exact ⟨0, rfl, rfl, rfl⟩
  case round =>
    obtain ⟨x, rfl, rfl, rfl⟩ := hrel
    go_wp2_with fail
    refine (wait_c a b c d 1 _).mono ?_
    rintro _ w3 ⟨rfl, hb⟩
    have HB3 := Lib.hid (HB2.out.1.below hb)
    clear hb
    rw [HW.out]
    go_wp2_with fail
    go_ret
    exact ⟨rfl, HB3.out.1⟩

/-- One goes on from here: the facts of the k-th wait. -/
structure Kth (a b c d : Int) (T : List Int) (k : Int) : Prop where
  w0 : 0 ≤ wt b c d k
  wd : wt b c d k ≤ d
  up : k = 1 ∨ wt b c d (k - 1) ≤ wt b c d k
  one : k = 1 → wt b c d k = b

theorem kth {a b c d : Int} (h : Right a b c d) (T : List Int) (k : Int) (hk : 1 ≤ k) : Kth a b c d T k := by
  obtain ⟨h1, h2⟩ := wt_bound h k
  refine ⟨h1, h2, ?_, fun e => by rw [e]; exact wt_one h⟩
  by_cases h3 : k = 1
  · exact Or.inl h3
  · have := wt_mono h (k - 1) (by omega)
    rw [show k - 1 + 1 = k by omega] at this
    exact Or.inr this

set_option maxRecDepth 100000 in
set_option maxHeartbeats 2000000 in
theorem walk_right (a b c d t : Int) (T : List Int) (w : World) (h : Right a b c d) (hc : chk a b c d = 0) (hT : retry_Times.f 1000 a b c d t = some (t :: T, 0)) (hG : Good b c d a (t :: T) 1) :
    Calls Try.prog 7 #[.agg #[.int .i64 a, .int .i64 b, .int .i64 c, .int .i64 d], .int .i64 t] w fun e w' => e = .returned (.bool true) ∧ Below w.heap.size w w' := by
  have HB := Lib.hid (Boxed.new w a b c d)
  have HT := Lib.hid hT
  have HC := Lib.hid hc
  have HR := Lib.hid h
  have HG := Lib.hid hG
  have HW := Lib.hid (show wait a b c d a = (0, 4) by unfold wait; have := h.a1; rw [if_pos hc, if_neg (by omega), if_pos (by omega)])
  have h1 := h.a1
  have h2 := h.a2
  have h3 : ¬ a < 1 := by omega
  have hl := hG.len
  have ht : (0 : Int) < (t :: T).length := by simp
  have ht2 : 0 < (t :: T).length := by simp
  have hlen0 : (((t :: T).length : Int) == 0) = false := by simp; omega
  have hx0 : (t :: T)[0]? = some t := rfl
  clear hT hc h hG
  generalize t :: T = L at *
  go_enter Try.func7, Try.ntmps7
  go_wp2_with fail
  refine (works_any needs _).mono ?_
  rintro _ w1 ⟨rfl, hb⟩
  have HB1 := Lib.hid (HB.out.below hb)
  clear hb HB
  obtain ⟨c0, c1, c2, c3⟩ := HB1.out.pol
  go_wp2_with fail
  refine (retry_Times.calls 1000 a b c d t L 0 _ HT.out).mono ?_
  rintro _ w2 ⟨v, rfl, hv, hb⟩
  have HB2 := Lib.hid (show Two w w2 a b c d v L from ⟨HB1.out.below hb, IntsAt.of_R hv⟩)
  clear hb hv HB1 c0 c1 c2 c3
  obtain ⟨A, cc, rfl, hcc, hC⟩ := HB2.out.2
  obtain ⟨ad, rfl, hx⟩ := Kd.at_int hC 0 (by omega) (by omega)
  have hcell : w2.cell? ad = some (.int .i64 t) := by
    have e : ad.add 0 = ad := by unfold Addr.add; rw [if_pos rfl]
    rw [show (0 : Int).toNat = 0 from rfl, e] at hx
    rw [hx]
    unfold rd
    simp [List.getD, hx0]
  have hcell0 := hx
  clear hx hC hx0
  obtain ⟨c0, c1, c2, c3⟩ := HB2.out.1.pol
  go_wp2_with fail
  have HL := Lib.hid (show ∀ wr, Two w wr a b c d (.slice (some ad) L.length cc) L → ∀ k : Int, 0 ≤ k → k < L.length → wr.cell? (ad.add k.toNat) = some (.int .i64 (rd L k)) ∧ L[k.toNat]? = some (rd L k) from by
    intro wr h k h0 h1
    obtain ⟨A, c', e, _, hC⟩ := h.2
    obtain ⟨ad', e', hx⟩ := Kd.at_int hC k h0 h1
    injection e with e _ _
    rw [e'] at e
    injection e with e
    subst e
    exact ⟨hx, by unfold rd; rw [List.getD_eq_getElem?_getD, List.getElem?_eq_getElem (by omega)]; rfl⟩)
  clear hcell hcell0
  go_loopw [7, 8] (fun l k wr => ∃ (kk x : Int), 1 ≤ kk ∧ kk ≤ a ∧ l = .int .i64 x ∧ k = .int .i64 kk ∧ Hid ((kk = 1 ∧ x = 0) ∨ (2 ≤ kk ∧ x = wt b c d (kk - 1))) ∧ Hid (Two w wr a b c d (.slice (some ad) L.length cc) L)) (fun _ k _ => (a - intOf k).toNat)
  case atStart => exact ⟨1, 0, by omega, by omega, rfl, rfl, Or.inl ⟨rfl, rfl⟩, HB2⟩
  case round =>
    obtain ⟨kk, x, hk1, hk2, rfl, rfl, HX, HY⟩ := hrel
    clear HB2 c0 c1 c2 c3
    obtain ⟨c0, c1, c2, c3⟩ := HY.out.1.pol
    by_cases hlt : kk < a
    · have hK := kth HR.out L kk hk1
      have HK := Lib.hid hK
      have hxx : x ≤ wt b c d kk := by
        rcases HX.out with ⟨_, rfl⟩ | ⟨h, rfl⟩
        · exact hK.w0
        · rcases hK.up with e | e
          · omega
          · exact e
      have hd := hK.wd
      have HWk := Lib.hid (wait_k HC.out kk hk1 hlt)
      clear hK
      go_wp2_with fail
      refine (wait_c a b c d kk _).mono ?_
      rintro _ w3 ⟨rfl, hb⟩
      have HY1 := Lib.hid (HY.out.below hb)
      clear hb c0 c1 c2 c3
      obtain ⟨c0, c1, c2, c3⟩ := HY1.out.1.pol
      rw [HWk.out]
      have hb1 : kk = 1 → (wt b c d kk != b) = false := fun e => by rw [HK.out.one e]; simp
      have hnext : (kk + 1 = 1 ∧ wt b c d kk = 0) ∨ (2 ≤ kk + 1 ∧ wt b c d kk = wt b c d (kk + 1 - 1)) := Or.inr ⟨by omega, by rw [show kk + 1 - 1 = kk by omega]⟩
      have HNX := Lib.hid hnext
      have HKW := Lib.hid (And.intro HK.out.w0 trivial)
      clear hnext HWk HX HY HK
      -- the two tests of the first try
      have hcase : ((kk == 1) = false) ∨ ((kk == 1) = true ∧ (wt b c d kk != b) = false) := by
        by_cases e : kk = 1
        · exact Or.inr ⟨by simpa using e, hb1 e⟩
        · exact Or.inl (by simpa using e)
      clear hb1
      by_cases hkl : kk < L.length
      · obtain ⟨p1, q1⟩ := HL.out w3 HY1.out (kk - 1) (by omega) (by omega)
        obtain ⟨p2, q2⟩ := HL.out w3 HY1.out kk (by omega) hkl
        have hst := HG.out.step (kk - 1).toNat _ _ q1 (by rw [show (kk - 1).toNat + 1 = kk.toNat by omega]; exact q2)
        rw [show (1 : Int) + ((kk - 1).toNat : Int) = kk by omega] at hst
        have hr1 := HG.out.range _ (List.mem_of_getElem? q1)
        have hr2 := HG.out.range _ (List.mem_of_getElem? q2)
        have D1 := Lib.hid (due_k HC.out kk _ _ hk1 hlt hr1 hst hr2.2)
        have M1 := Lib.hid (may_k HC.out kk _ _ hk1 hlt hr1 hst hr2.2 HKW.out.1)
        have M2 := Lib.hid (fun h => may_less HC.out kk _ _ hk1 hlt hr1 hst hr2.2 h)
        have eT : (kk - 1).toNat = kk.toNat - 1 := by omega
        have C2 := Lib.hid (fun w4 (h : Two w w4 a b c d (.slice (some ad) L.length cc) L) => show w4.cell? (ad.add (kk.toNat - 1)) = some (.int .i64 (rd L (kk - 1))) ∧ w4.cell? (ad.add kk.toNat) = some (.int .i64 (rd L kk)) from ⟨eT ▸ (HL.out w4 h (kk - 1) (by omega) (by omega)).1, (HL.out w4 h kk (by omega) hkl).1⟩)
        rw [eT] at p1
        clear hst q1 q2 eT
        generalize rd L (kk - 1) = x1 at *
        generalize rd L kk = x2 at *
        generalize wt b c d kk = y at *
        have hw1 : IntKind.i64.wrap (kk - 1) = kk - 1 := IntWalk.i64_in _ (by omega)
        have hk0 : 0 ≤ kk - 1 := by omega
        have hkl1 : kk - 1 < (L.length : Int) := by omega
        have hkp : 0 ≤ kk := by omega
        have hr10 := hr1.1
        have hr20 := hr2.1
        have hr21 := hr2.2
        clear hr1 hr2
        -- the region of Due
        rcases hcase with hcase | ⟨hcase, hcase2⟩
        all_goals
          go_wp2_with fail
          have HD := Lib.hid (show Two w w3.drew a b c d (.slice (some ad) L.length cc) L from HY1.out.below (below_drewN w3 1))
          go_region_held3 (fun w' => w'.cell? ⟨w.heap.size, 0, none⟩ = some (.int .i64 a) ∧ w'.cell? ⟨w.heap.size, 1, none⟩ = some (.int .i64 b) ∧ w'.cell? ⟨w.heap.size, 2, none⟩ = some (.int .i64 c) ∧ w'.cell? ⟨w.heap.size, 3, none⟩ = some (.int .i64 d) ∧ w'.cell? (ad.add (kk.toNat - 1)) = some (.int .i64 x1) ∧ w'.cell? (ad.add kk.toNat) = some (.int .i64 x2)) (first | exact ⟨d0, d1, d2, d3, e1, e2⟩ | exact ⟨c0, c1, c2, c3, p1, p2⟩) (first | (go_at_call 25; refine (due_c a b c d kk x1 _).mono ?_; rintro _ w4 ⟨rfl, hb⟩; have HY2 := Lib.hid (HD.out.below hb); clear hb; obtain ⟨d0, d1, d2, d3⟩ := HY2.out.1.pol; obtain ⟨e1, e2⟩ := C2.out w4 HY2.out) | fail)
          clear c0 c1 c2 c3 p1 p2 HD
          rw [D1.out]
          go_wp2_with fail
          have HD := Lib.hid (show Two w w4.drew a b c d (.slice (some ad) L.length cc) L from HY2.out.below (below_drewN w4 1))
          go_region_held3 (fun w' => w'.cell? ⟨w.heap.size, 0, none⟩ = some (.int .i64 a) ∧ w'.cell? ⟨w.heap.size, 1, none⟩ = some (.int .i64 b) ∧ w'.cell? ⟨w.heap.size, 2, none⟩ = some (.int .i64 c) ∧ w'.cell? ⟨w.heap.size, 3, none⟩ = some (.int .i64 d) ∧ w'.cell? (ad.add (kk.toNat - 1)) = some (.int .i64 x1) ∧ w'.cell? (ad.add kk.toNat) = some (.int .i64 x2)) (first | exact ⟨f0, f1, f2, f3, g1, g2⟩ | exact ⟨d0, d1, d2, d3, e1, e2⟩) (first | (go_at_call 27; refine (may_c a b c d kk x1 x2 _).mono ?_; rintro _ w5 ⟨rfl, hb⟩; have HY3 := Lib.hid (HD.out.below hb); clear hb; obtain ⟨f0, f1, f2, f3⟩ := HY3.out.1.pol; obtain ⟨g1, g2⟩ := C2.out w5 HY3.out) | fail)
          clear d0 d1 d2 d3 e1 e2 HD
          rw [M1.out]
          by_cases hgt : x1 < x2
          · go_wp2_with fail
            go_quiet (fail)
            go_wp2_with fail
            have hw2 : IntKind.i64.wrap (x2 - 1) = x2 - 1 := IntWalk.i64_in _ (by omega)
            have HD := fun n => Lib.hid (show Two w (w5.drewN n).drew a b c d (.slice (some ad) L.length cc) L from HY3.out.below (below_drewN w5 (n + 1)))
            go_region_held3 (fun w' => w'.cell? ⟨w.heap.size, 0, none⟩ = some (.int .i64 a) ∧ w'.cell? ⟨w.heap.size, 1, none⟩ = some (.int .i64 b) ∧ w'.cell? ⟨w.heap.size, 2, none⟩ = some (.int .i64 c) ∧ w'.cell? ⟨w.heap.size, 3, none⟩ = some (.int .i64 d) ∧ w'.cell? (ad.add (kk.toNat - 1)) = some (.int .i64 x1) ∧ w'.cell? (ad.add kk.toNat) = some (.int .i64 x2)) (first | exact ⟨h0, h1', h2', h3', i1, i2⟩ | exact ⟨f0, f1, f2, f3, g1, g2⟩) (first | (go_at_call 27; refine (may_c a b c d kk x1 (x2 - 1) _).mono ?_; rintro _ w6 ⟨rfl, hb⟩; have HY4 := Lib.hid ((HD _).out.below hb); clear hb; obtain ⟨h0, h1', h2', h3'⟩ := HY4.out.1.pol; obtain ⟨i1, i2⟩ := C2.out w6 HY4.out) | fail)
            rw [M2.out hgt]
            clear hw2 hw1
            go_wp2_with fail
            go_roundw
            case rel => exact ⟨kk + 1, y, by omega, by omega, rfl, rfl, HNX, HY4⟩
            case measure => simp [intOf]; omega
          · go_wp2_with fail
            go_quiet (fail)
            clear hw1
            go_wp2_with fail
            go_roundw
            case rel => exact ⟨kk + 1, y, by omega, by omega, rfl, rfl, HNX, HY3.out.below (below_drewN w5 _)⟩
            case measure => simp [intOf]; omega
      · have hkl' : ¬ (kk < (L.length : Int)) := hkl
        by_cases hke : kk = L.length
        · obtain ⟨p1, q1⟩ := HL.out w3 HY1.out (kk - 1) (by omega) (by omega)
          have hst := HG.out.stop _ (by rw [show L.length - 1 = (kk - 1).toNat by omega]; exact q1) (by omega)
          rw [show (1 : Int) + (L.length : Int) - 1 = kk by omega] at hst
          have hr1 := HG.out.range _ (List.mem_of_getElem? q1)
          have D1 := Lib.hid (due_end HC.out kk _ hk1 hlt hr1 hst)
          have eT : (kk - 1).toNat = kk.toNat - 1 := by omega
          rw [eT] at p1
          clear hst q1 eT
          have E1 := Lib.hid (fun w4 (h : Two w w4 a b c d (.slice (some ad) L.length cc) L) => show w4.cell? (ad.add (kk.toNat - 1)) = some (.int .i64 (rd L (kk - 1))) from (show (kk - 1).toNat = kk.toNat - 1 by omega) ▸ (HL.out w4 h (kk - 1) (by omega) (by omega)).1)
          generalize rd L (kk - 1) = x1 at *
          generalize wt b c d kk = y at *
          have hw1 : IntKind.i64.wrap (kk - 1) = kk - 1 := IntWalk.i64_in _ (by omega)
          have hk0 : 0 ≤ kk - 1 := by omega
          have hkl1 : kk - 1 < (L.length : Int) := by omega
          have hkb : (kk == (L.length : Int)) = true := by simpa using hke
          clear hr1 hke
          rcases hcase with hcase | ⟨hcase, hcase2⟩
          all_goals
            go_wp2_with fail
            have HD := Lib.hid (show Two w w3.drew a b c d (.slice (some ad) L.length cc) L from HY1.out.below (below_drewN w3 1))
            go_region_held3 (fun w' => w'.cell? ⟨w.heap.size, 0, none⟩ = some (.int .i64 a) ∧ w'.cell? ⟨w.heap.size, 1, none⟩ = some (.int .i64 b) ∧ w'.cell? ⟨w.heap.size, 2, none⟩ = some (.int .i64 c) ∧ w'.cell? ⟨w.heap.size, 3, none⟩ = some (.int .i64 d) ∧ w'.cell? (ad.add (kk.toNat - 1)) = some (.int .i64 x1)) (first | exact ⟨d0, d1, d2, d3, e1⟩ | exact ⟨c0, c1, c2, c3, p1⟩) (first | (go_at_call 25; refine (due_c a b c d kk x1 _).mono ?_; rintro _ w4 ⟨rfl, hb⟩; have HY2 := Lib.hid (HD.out.below hb); clear hb; obtain ⟨d0, d1, d2, d3⟩ := HY2.out.1.pol; have e1 := E1.out w4 HY2.out) | fail)
            rw [D1.out]
            clear hw1 c0 c1 c2 c3 p1 HD d0 d1 d2 d3 e1
            go_wp2_with fail
            go_roundw
            case rel => exact ⟨kk + 1, y, by omega, by omega, rfl, rfl, HNX, HY2⟩
            case measure => simp [intOf]; omega
        · have hkb : (kk == (L.length : Int)) = false := by simpa using hke
          generalize wt b c d kk = y at *
          clear hke
          rcases hcase with hcase | ⟨hcase, hcase2⟩
          all_goals
            go_wp2_with fail
            go_roundw
            case rel => exact ⟨kk + 1, y, by omega, by omega, rfl, rfl, HNX, HY1⟩
            case measure => simp [intOf]; omega
    · have hka : kk = a := by omega
      go_wp2_with fail
      refine (wait_c a b c d a _).mono ?_
      rintro _ w3 ⟨rfl, hb⟩
      have HY1 := Lib.hid (HY.out.below hb)
      clear hb
      rw [HW.out]
      clear hka
      go_wp2_with fail
      go_ret
      exact ⟨rfl, HY1.out.1.1⟩

theorem walk (a b c d t : Int) (w : World) (_ : (Lit.int .i64 a).wf = true) (_ : (Lit.int .i64 b).wf = true) (_ : (Lit.int .i64 c).wf = true) (_ : (Lit.int .i64 d).wf = true) (_ : (Lit.int .i64 t).wf = true) :
    Calls Try.prog 7 #[.agg #[.int .i64 a, .int .i64 b, .int .i64 c, .int .i64 d], .int .i64 t] w fun e w' => e = .returned (.bool true) ∧ Below w.heap.size w w' := by
  rcases times_some a b c d t 1000 (by omega) with ⟨e, he, hT⟩ | ⟨h0, h1, hc, T, hT, ⟨ha, rfl⟩ | ⟨hr, hG⟩⟩
  · exact walk_bad a b c d t e w he hT
  · exact walk_zero a b c d t w ha hc hT
  · exact walk_right a b c d t T w hr hc hT hG
end Go.Proofs.Ytklccnnmdlckfaa.LwRises
