/- A circle is told just where there is one, link by link; else the task waits: the walk of DependTells. -/
import Derived.Test.YtohkobfamofkgaaLd
namespace Go.Proofs.Ytohkobfamofkgaa
open Go.RowKit Go.Maps Go.Proofs.Ytohkobfamofkgaa Go.Proofs.Ytohkobfamofkgaa.Wb Go.Proofs.YtohkobfamofkgaaW.PrintWords Go.Proofs.YtohkobfamofkgaaW.PrintLast Go.Proofs.YtohkobfamofkgaaW.PrintMore

section
variable {w0 w w' : World} {b : Nat} {m m' : Web} {vs : List (Value × List Int)}
theorem ask_state_k (t c : Nat) (ht : t < 128) (hc : c < 256) (h : Hid (Wb.Kept w0 w b m vs)) (hw : m.wai t ≠ 0) :
    Calls Try.prog 26 #[.pointer (some ⟨b, 0, none⟩), .int .i64 t, .int .i64 c] w fun e w' => e = .returned (.tuple #[.slice none 0 0, .int .i64 7]) ∧ w = w' := by
  obtain ⟨V, h1, _⟩ := h.out.web
  exact ask_state w b V m t c ht hc h1.blk (by have := h.out.wai0 ht; omega)
theorem wait_state_k (t c : Nat) (ht : t < 128) (hc : c < 256) (h : Hid (Wb.Kept w0 w b m vs)) (hw : m.wai t ≠ 0) :
    Calls Try.prog 20 #[.pointer (some ⟨b, 0, none⟩), .int .i64 t, .int .i64 c] w fun e w' => e = .returned (.tuple #[.slice none 0 0, .int .i64 7]) ∧ w = w' := by
  obtain ⟨V, h1, _⟩ := h.out.web
  exact wait_state w b V m t c ht hc h1.blk (by have := h.out.wai0 ht; omega)
theorem ask_ok_k (t c : Nat) (ht : t < 128) (hc : c < 256) (L : List Int) (hL : circle m t 129 c = L) (h : Hid (Wb.Kept w0 w b m vs)) (hw : m.wai t = 0) :
    Calls Try.prog 26 #[.pointer (some ⟨b, 0, none⟩), .int .i64 t, .int .i64 c] w fun e w' => ∃ A cap, e = .returned (.tuple #[.slice A L.length cap, .int .i64 0]) ∧ Hid (Wb.Kept w0 w' b m ((.slice A L.length cap, L) :: vs)) := by
  subst hL
  obtain ⟨V, h1, _⟩ := h.out.web
  refine (ask_ok _ w b V m t c 129 ht hc h1 h.out.iw.wf (h.out.iw.ends t c hc) (by omega) (by omega)).mono ?_
  rintro _ w' ⟨v, rfl, hr, hb⟩
  obtain ⟨A, cap, rfl⟩ := hr.shape
  exact ⟨A, cap, rfl, Lib.hid (h.out.add hr hb)⟩
theorem wait_none_k (t c : Nat) (ht : t < 128) (hc : c < 256) (h : Hid (Wb.Kept w0 w b m vs)) (hw : m.wai t = 0) (hr : m.run c = 0) :
    Calls Try.prog 20 #[.pointer (some ⟨b, 0, none⟩), .int .i64 t, .int .i64 c] w fun e w' => e = .returned (.tuple #[.slice none 0 0, .int .i64 4]) ∧ Hid (Wb.Kept w0 w' b m ((.slice none 0 0, []) :: vs)) := by
  obtain ⟨V, h1, _⟩ := h.out.web
  refine (wait_none _ w b V m t c 129 ht hc h1 h.out.iw.wf (h.out.iw.ends t c hc) (by omega) (by omega) hr).mono ?_
  rintro _ w' ⟨rfl, hb⟩
  exact ⟨rfl, Lib.hid (h.out.add ⟨rfl, Or.inl ⟨rfl, rfl⟩⟩ hb)⟩
theorem wait_cycle_k (t c : Nat) (ht : t < 128) (hc : c < 256) (L : List Int) (hL : circle m t 129 c = L) (h : Hid (Wb.Kept w0 w b m vs)) (hw : m.wai t = 0) (hr : m.run c ≠ 0) (hl : L ≠ []) :
    Calls Try.prog 20 #[.pointer (some ⟨b, 0, none⟩), .int .i64 t, .int .i64 c] w fun e w' => ∃ A cap, e = .returned (.tuple #[.slice A L.length cap, .int .i64 140]) ∧ Hid (Wb.Kept w0 w' b m ((.slice A L.length cap, L) :: vs)) := by
  subst hL
  obtain ⟨V, h1, _⟩ := h.out.web
  refine (wait_cycle _ w b V m t c 129 ht hc h1 h.out.iw.wf (h.out.iw.ends t c hc) (by omega) (by omega) hr hl).mono ?_
  rintro _ w' ⟨v, rfl, hr, hb⟩
  obtain ⟨A, cap, rfl⟩ := hr.shape
  exact ⟨A, cap, rfl, Lib.hid (h.out.add hr hb)⟩
theorem wait_ok_k (t c : Nat) (ht : t < 128) (hc : c < 256) (h : Hid (Wb.Kept w0 w b m vs)) (hw : m.wai t = 0) (hr : m.run c ≠ 0) (hl : circle m t 129 c = []) :
    Calls Try.prog 20 #[.pointer (some ⟨b, 0, none⟩), .int .i64 t, .int .i64 c] w fun e w' => e = .returned (.tuple #[.slice none 0 0, .int .i64 0]) ∧ Hid (Wb.Kept w0 w' b (Wb.waited m t c) ((.slice none 0 0, []) :: vs)) := by
  have h' := h.out
  obtain ⟨V, h1, h2⟩ := h'.web
  have he := h'.iw.ends t c hc
  refine (wait_ok _ w b V m t c 129 ht hc h1 h'.iw.wf he (by omega) (by omega) hr hl (by have := h'.iw.few c hc; omega)).mono ?_
  rintro _ w' ⟨rfl, k⟩
  have k2 := Kept.post (h'.iw.waited ht hc hw hr he hl) h1 h2 h'.bel k
  obtain ⟨V', j1, j2⟩ := k2.web
  refine ⟨rfl, Lib.hid ⟨k2.iw, ⟨V', j1, fun x hx => ?_⟩, k2.bel⟩⟩
  rcases List.mem_cons.1 hx with rfl | hx
  · exact ⟨⟨rfl, Or.inl ⟨rfl, rfl⟩⟩, fun k hk => absurd hk (by simp [Value.ownBlock])⟩
  · exact j2 x hx
theorem circle_zero {t n c : Nat} (hr : m.run c = 0) : circle m t n c = [] := by
  unfold circle
  split
  · rfl
  · cases n with
    | zero => rfl
    | succ n => rw [circ_zero hr]; rfl
end

set_option maxHeartbeats 8000000 in
set_option maxRecDepth 100000 in
theorem walk_tells (A : Option Addr) (l : List (Int × Int × Int)) (c : Nat) (x1 x2 : Int) (w : World) (hl : l.length ≤ c) (hC : Kd.C kcall w A l.length l) (hb : l.length * 24 ≤ 140737488351232) :
    Calls Try.prog 7 #[.slice A l.length c, .int .i64 x1, .int .i64 x2] w fun e w' => e = .returned (.bool true) ∧ Below w.heap.size w w' := by
  have HC := Lib.hid hC
  have HL := Lib.hid (And.intro hl hb)
  clear hC hl hb
  go_enter Try.func7, Try.ntmps7
  go_wp2_with (go_at_call 12; refine (works_true w).mono ?_; rintro _ w1 ⟨rfl, hb1⟩; have HB1 := Lib.hid hb1; clear hb1)
  refine (played_k A l c w w1 HB1 HL.out.1 HC HL.out.2).mono ?_
  rintro _ w2 ⟨b, m, rfl, H2⟩
  clear HB1 HL HC
  go_wp2_with fail
  refine (among_k x1 128 (by decide) (by decide) H2).mono ?_
  clear H2
  rintro _ w3 ⟨t, rfl, ht, H3⟩
  go_wp2_with fail
  refine (among_k x2 256 (by decide) (by decide) H3).mono ?_
  clear H3
  rintro _ w4 ⟨d, rfl, hd, H4⟩
  go_wp2_with (go_at_call 15; refine (stack_k t ht H4).mono ?_; clear H4; rintro _ w5 ⟨A5, c5, rfl, H5⟩)
  rcases H5.out.iw.wf.wai t ht with hz | ⟨d', hd', hz⟩
  · have HZ := Lib.hid hz
    refine (waiting_k t ht H5).mono ?_
    rintro _ w6 ⟨rfl, rfl⟩
    rw [hz]
    clear hz
    go_wp2_with fail
    rcases H5.out.iw.wf.run d hd with hr | ⟨r, hr, hrr, hmem⟩
    · have HR := Lib.hid hr
      refine (runner_k d hd H5).mono ?_
      rintro _ w6 ⟨rfl, rfl⟩
      rw [hr]
      clear hr
      go_wp2_with fail
      refine (ask_ok_k t d ht hd [] (circle_zero HR.out) H5 HZ.out).mono ?_
      clear H5
      rintro _ w6 ⟨A6, c6, rfl, H6⟩
      go_wp2_with fail
      refine (waiters_k d hd H6).mono ?_
      clear H6
      rintro _ w7 ⟨A7, c7, rfl, H7⟩
      go_wp2_with fail
      refine (wait_none_k t d ht hd H7 HZ.out HR.out).mono ?_
      clear H7
      rintro _ w8 ⟨rfl, H8⟩
      go_wp2_with fail
      refine (ints_k _ _ ([] : List Int) H8 (by simp) (by simp) (by simp)).mono ?_
      clear H8
      rintro _ w9 ⟨rfl, H9⟩
      go_wp2_with fail
      go_ret
      exact ⟨rfl, H9.out.bel⟩
    · have hr0 : m.run d ≠ 0 := by omega
      have hb1 : ((r : Int) + 1 != 0) = true := by simpa using (by omega : ¬ (r : Int) + 1 = 0)
      have HR := Lib.hid (And.intro hrr hmem)
      refine (runner_k d hd H5).mono ?_
      rintro _ w6 ⟨rfl, rfl⟩
      rw [hrr, if_neg (by omega), hb1, show (r : Int) + 1 - 1 = r by omega]
      clear hrr hmem hb1
      by_cases hL : circle m t 129 d = []
      · have HLc := Lib.hid hL
        have H5' := Lib.hid H5.out.iw
        clear hL
        go_wp2_with fail
        refine (ask_ok_k t d ht hd [] HLc.out H5 HZ.out).mono ?_
        clear H5
        rintro _ w6 ⟨A6, c6, rfl, H6⟩
        go_wp2_with fail
        refine (waiters_k d hd H6).mono ?_
        clear H6
        rintro _ w7 ⟨A7, c7, rfl, H7⟩
        go_wp2_with fail
        refine (wait_ok_k t d ht hd H7 HZ.out hr0 HLc.out).mono ?_
        clear H7
        rintro _ w8 ⟨rfl, H8⟩
        go_wp2_with fail
        refine (ints_k _ _ ([] : List Int) H8 (by simp) (by simp) (by simp)).mono ?_
        clear H8
        rintro _ w9 ⟨rfl, H9⟩
        have HWt := Lib.hid (show (Wb.waited m t d).wai t = (d : Int) + 1 from upd_same _ _ _)
        have HLs := Lib.hid (show (Wb.waited m t d).ls (128 + d) = m.ls (128 + d) ++ [(t : Int)] from upd_same _ _ _)
        have HRn := Lib.hid (show (Wb.waited m t d).run d = (r : Int) + 1 from HR.out.1)
        have hne : (r : Int) ≠ t := by have := H5'.out.other (n := 128) hd HR.out.1 HLc.out; omega
        have hb2 : ((r : Int) == (t : Int)) = false := by simpa using hne
        have HS := Lib.hid (show (m.ls (128 + d)).length ≤ 128 from H5'.out.few d hd)
        generalize m.ls (128 + d) = q at *
        generalize Wb.waited m t d = m2 at *
        clear hne
        go_wp2_with (go_at_call 25; refine (waiting_k t ht H9).mono ?_; rintro _ w10 ⟨rfl, rfl⟩; rw [HWt.out, if_neg (by omega), show (d : Int) + 1 - 1 = d by omega, show ((d : Int) + 1 != 0) = true by simpa using (by omega : ¬ (d : Int) + 1 = 0)])
        refine (waiters_k d hd H9).mono ?_
        rw [HLs.out]
        clear H9
        rintro _ w10 ⟨A10, c10, rfl, H10⟩
        have HI := H10.out.ints (v := .slice A10 (q ++ [(t : Int)]).length c10) (l := q ++ [(t : Int)]) (by simp)
        obtain ⟨ad, rfl⟩ := HI.head_ (by simp)
        have q0 := HI.cell_ (q.length : Int) (by omega) (by simp; omega)
        rw [Int.toNat_natCast, rd_some (l := q ++ [(t : Int)]) (j := q.length) (x := (t : Int)) (by simp)] at q0
        have hlen : (q ++ [(t : Int)]).length = q.length + 1 := by simp
        have HI2 := Lib.hid HI
        have hw : IntKind.i64.wrap ((q.length : Int) + 1) = (q.length : Int) + 1 := IntWalk.i64_in _ (by have := HS.out; omega)
        clear HI
        rw [hlen]
        go_wp2_with fail
        have hr128 : r < 128 := hr
        have HAp := Lib.hid (H10.out.iw.apart ht HWt.out HRn.out hr128)
        have HOf := Lib.hid (H10.out.iw.off (r : Int) (by omega) (by omega))
        have HRg := Lib.hid (Cy.it_range H10.out.iw.nexts_good (x := (r : Int)) (by omega) (by rw [nexts_length]; omega))
        clear q0 hlen HI2 hb2 HR hr0 hw HS HLs HRn HWt HLc H5' hr
        go_loopw [13, 33] (fun k n wr => ∃ j : Nat, n = .int .i64 j ∧ j ≤ 128 ∧ k = .int .i64 (Cy.it (nexts m2 128) j r) ∧ 0 ≤ Cy.it (nexts m2 128) j r ∧ wr = w10) (fun _ n _ => (129 - intOf n).toNat)
        case atStart => exact ⟨0, rfl, by omega, rfl, by show (0 : Int) ≤ r; omega, rfl⟩
        case round =>
          obtain ⟨j, rfl, hj, rfl, hx, rfl⟩ := hrel
          have hne := HAp.out j hx
          have hj1 : j < 128 := by
            rcases Nat.lt_or_ge j 128 with k | k
            · exact k
            · obtain rfl : j = 128 := by omega
              exact absurd HOf.out (by omega)
          have hx1 := (HRg.out j).1
          rw [nexts_length] at hx1
          have HX := Lib.hid (show Cy.it (nexts m2 128) (j + 1) r = Cy.nx (nexts m2 128) (Cy.it (nexts m2 128) j r) from rfl)
          generalize hxe : Cy.it (nexts m2 128) j r = x at *
          obtain ⟨y, rfl⟩ : ∃ y : Nat, x = y := ⟨x.toNat, by omega⟩
          have hy : y < 128 := by omega
          have hb3 : ((y : Int) == (t : Int)) = false := by simpa using hne
          have hj2 : (j : Int) ≤ 128 := by omega
          have hw : IntKind.i64.wrap ((j : Int) + 1) = (j : Int) + 1 := IntWalk.i64_in _ (by omega)
          clear hxe hne hx1 hx
          by_cases hwy : m2.wai y = 0
          · have HW := Lib.hid hwy
            clear hwy
            go_wp2_with (go_at_call 25; refine (waiting_k y hy H10).mono ?_; rintro _ w11 ⟨rfl, rfl⟩; rw [HW.out])
            go_ret
            exact ⟨rfl, H10.out.bel⟩
          · obtain ⟨e, f, he, hf, k1, k2, k3, _⟩ := H10.out.iw.next_some hy hwy
            have HK := Lib.hid (And.intro k1 (And.intro k2 k3))
            clear k1 k2 k3 hwy
            go_wp2_with (first | (go_at_call 25; refine (waiting_k y hy H10).mono ?_; rintro _ w11 ⟨rfl, rfl⟩; rw [HK.out.1, if_neg (by omega), show (e : Int) + 1 - 1 = e by omega, show ((e : Int) + 1 != 0) = true by simpa using (by omega : ¬ (e : Int) + 1 = 0)]) | (go_at_call 19; refine (runner_k e he H10).mono ?_; rintro _ w11 ⟨rfl, rfl⟩; rw [HK.out.2.1, if_neg (by omega), show (f : Int) + 1 - 1 = f by omega, show ((f : Int) + 1 != 0) = true by simpa using (by omega : ¬ (f : Int) + 1 = 0)]))
            have HX2 := Lib.hid (show Cy.it (nexts m2 128) (j + 1) r = (f : Int) from by rw [HX.out, Cy.nx_pos (by omega), nexts_rd _ _ (by omega) (by omega), Int.toNat_natCast]; exact HK.out.2.2)
            go_roundw
            case measure => simp [intOf]; omega
            case rel => exact ⟨j + 1, by simp, by omega, by rw [HX2.out], by rw [HX2.out]; omega, trivial⟩
      · have H5' := Lib.hid H5.out.iw
        generalize hLe : circle m t 129 d = L at hL
        have HT := Lib.hid (show Wb.Told m t d L from hLe ▸ H5.out.iw.told (n := 129) hd (by rw [hLe]; exact hL))
        have HLe := Lib.hid hLe
        go_wp2_with fail
        refine (ask_ok_k t d ht hd L hLe H5 HZ.out).mono ?_
        clear H5
        rintro _ w6 ⟨A6, c6, rfl, H6⟩
        go_wp2_with fail
        refine (waiters_k d hd H6).mono ?_
        clear H6
        rintro _ w7 ⟨A7, c7, rfl, H7⟩
        go_wp2_with fail
        refine (wait_cycle_k t d ht hd L hLe H7 HZ.out hr0 hL).mono ?_
        clear H7
        rintro _ w8 ⟨A8, c8, rfl, H8⟩
        clear hLe hL
        go_wp2_with fail
        refine (ints_k _ _ L H8 (by simp) (by simp) (by have := H5'.out.circle_few hd HLe.out; omega)).mono ?_
        clear H8
        rintro _ w9 ⟨rfl, H9⟩
        have HI6 := H9.out.ints (v := .slice A6 L.length c6) (l := L) (by simp)
        have HI5 := H9.out.ints (v := .slice A5 (m.ls t).length c5) (l := m.ls t) (by simp)
        obtain ⟨ad6, rfl⟩ := HI6.head_ HT.out.ne
        obtain ⟨ad5, rfl⟩ := HI5.head_ HT.out.ne2
        have HII := Lib.hid (And.intro HI6 HI5)
        have HLen := Lib.hid (show L.length ≤ 100000 from H5'.out.circle_few hd HLe.out)
        have hlp : 0 < L.length := HT.out.ne
        have hlp2 : (0 : Int) < L.length := by omega
        clear HI6 HI5 H5' HLe
        have HLk := Lib.hid HT.out.lk
        have e1 := HT.out.first
        have e2 := HT.out.last
        have e3 := HT.out.ne2
        clear HT
        generalize hss : m.ls t = ss at *
        have HSS := Lib.hid hss
        clear hss
        have HSL := Lib.hid (show ss.length ≤ 48 from HSS.out ▸ H9.out.iw.wf.len t ht)
        obtain ⟨k1, hk1⟩ : ∃ k1, L.length = k1 + 1 := ⟨L.length - 1, by omega⟩
        obtain ⟨k2, hk2⟩ : ∃ k2, ss.length = k2 + 1 := ⟨ss.length - 1, by omega⟩
        have q0 := HII.out.1.cell_ 0 (by omega) (by omega)
        have q1 := HII.out.1.cell_ (k1 : Int) (by omega) (by omega)
        have q2 := HII.out.2.cell_ (k2 : Int) (by omega) (by omega)
        rw [show (L.length : Int) - 1 = k1 by omega, show (ss.length : Int) - 1 = k2 by omega] at e2
        rw [e1] at q0
        rw [e2] at q1
        have e0 : ad6.add (0 : Int).toNat = ad6 := by show ad6.add 0 = ad6; unfold Addr.add; rw [if_pos rfl]
        rw [e0] at q0
        rw [Int.toNat_natCast] at q1 q2
        have hw1 : IntKind.i64.wrap ((L.length : Int) - 1) = (k1 : Int) := by rw [IntWalk.i64_in _ (by have := HLen.out; omega)]; omega
        have hw2 : IntKind.i64.wrap ((ss.length : Int) - 1) = (k2 : Int) := by rw [IntWalk.i64_in _ (by have := HSL.out; omega)]; omega
        have l1 : (k1 : Int) < L.length := by omega
        have l2 : (k2 : Int) < ss.length := by omega
        have l3 : (k1 : Nat) < L.length := by omega
        have l4 : (k2 : Nat) < ss.length := by omega
        have n1 : ((ss.length : Int) == 0) = false := by simpa using (by omega : ¬ (ss.length : Int) = 0)
        have n2 : ¬ (ss = []) := fun e => by rw [e] at hk2; simp at hk2
        have n3 : ¬ (L = []) := fun e => by rw [e] at hk1; simp at hk1
        clear e0 e1 e2 e3 hk2
        have HK1 := Lib.hid hk1
        clear hk1
        generalize rd ss (k2 : Int) = z at *
        go_wp2_with fail
        go_quiet (fail)
        clear q0 q1 q2
        go_wp2_with fail
        go_loopg [24] L.length (fun gk i wr => ∃ j : Nat, i = .int .i64 j ∧ j + gk = L.length ∧ Hid (Wb.Kept w wr b m [(.slice (some ad6) L.length c6, L)]))
        case atStart => exact ⟨0, rfl, by omega, Lib.hid (by
          obtain ⟨V, h1, h2⟩ := H9.out.web
          have hk : Wb.Kept w w9 b m [(.slice (some ad6) L.length c6, L)] := ⟨H9.out.iw, ⟨V, h1, fun x hx => h2 x (by simp at hx ⊢; exact Or.inr (Or.inr (Or.inl hx)))⟩, H9.out.bel⟩
          exact hk.to (below_drewN (Below.refl _ _) _))⟩
        case round =>
          obtain ⟨j, rfl, hj, HY⟩ := hrel
          clear H9 hw1 hw2 l1 l2 l3 l4 n1 n2 n3
          have hw : IntKind.i64.wrap ((j : Int) + 1) = (j : Int) + 1 := IntWalk.i64_in _ (by have := HLen.out; omega)
          by_cases hjl : j + 1 < L.length
          · have hjl2 : (j : Int) + 1 < L.length := by omega
            have hj0 : (j : Int) < L.length := by omega
            have hp0 : (0 : Int) ≤ (j : Int) + 1 := by omega
            go_wp2_with fail
            refine region_tail 10 (by kernel_rfl) (by kernel_rfl) (fun w1 => Wb.Kept w w1 b m [(.slice (some ad6) L.length c6, L)]) (HY.out.to ((Below.refl _ _).drew)) ?_
            intro w1 hk1
            have HY1 := Lib.hid hk1
            have HI1 := hk1.ints (v := .slice (some ad6) L.length c6) (l := L) (by simp)
            have q0 := HI1.cell_ (j : Int) (by omega) hj0
            have q1 := HI1.cell_ ((j + 1 : Nat) : Int) (by omega) (by omega)
            rw [Int.toNat_natCast] at q0
            rw [Int.toNat_natCast, add_pos_ _ _ (by omega)] at q1
            have HLd := Lib.hid (HLk.out.at_ j _ _ ((rd_at L (j : Int) (by omega) hj0)) ((rd_at L ((j + 1 : Nat) : Int) (by omega) (by omega))))
            clear hk1 HI1 HY
            generalize rd L (j : Int) = x at *
            generalize rd L ((j + 1 : Nat) : Int) = y at *
            simp only [List.take_succ_cons, List.take_zero, List.drop_succ_cons, List.drop_zero]
            iterate 10 (refine wpStill_step (fun K hK => ?_); go_simp; refine hK _ ?_; clear hK K)
            refine wpStill_nil ?_
            clear q0 q1
            go_wp2_with (go_at_call 27; refine (leads_k x y HLd HY1).mono ?_; clear HY1; rintro _ w2 ⟨rfl, HY2, _⟩)
            go_roundg (gk - 1)
            case measure => omega
            case rel => exact ⟨j + 1, by simp, by omega, HY2⟩
          · have hjl2 : ¬ ((j : Int) + 1 < L.length) := by omega
            go_wp2_with (go_at_call 25; refine (waiting_k t ht HY).mono ?_; rintro _ w11 ⟨rfl, rfl⟩; rw [HZ.out])
            go_ret
            exact ⟨rfl, HY.out.bel⟩
  · have hz0 : m.wai t ≠ 0 := by omega
    have HZ := Lib.hid hz0
    have hb1 : ((d' : Int) + 1 != 0) = true := by simpa using (by omega : ¬ (d' : Int) + 1 = 0)
    refine (waiting_k t ht H5).mono ?_
    rintro _ w6 ⟨rfl, rfl⟩
    rw [hz, hb1]
    clear hz hz0 hb1
    generalize (if (d' : Int) + 1 = 0 then 0 else (d' : Int) + 1 - 1) = zz
    go_wp2_with fail
    refine (runner_k d hd H5).mono ?_
    rintro _ w6 ⟨rfl, rfl⟩
    generalize (if m.run d = 0 then 0 else m.run d - 1) = zz2
    generalize (m.run d != 0) = rr
    go_wp2_with fail
    refine (ask_state_k t d ht hd H5 HZ.out).mono ?_
    rintro _ w6 ⟨rfl, rfl⟩
    go_wp2_with fail
    refine (wait_state_k t d ht hd H5 HZ.out).mono ?_
    rintro _ w6 ⟨rfl, rfl⟩
    go_wp2_with fail
    go_ret
    exact ⟨rfl, H5.out.bel⟩
end Go.Proofs.Ytohkobfamofkgaa
