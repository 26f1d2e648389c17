/- The heap of the parts that may be closed next, in memory: up, down, Push, Pop of Go's library. -/
import Derived.Test.YtccjclmjoegibaaDoorHx
namespace Go.Proofs.YtccjclmjoegibaaDoor.Ce
open Go.RowKit Go.Maps Go.Proofs.YtccjclmjoegibaaDoor Go.Proofs.YtccjclmjoegibaaDoorW.PrintWords Go.Proofs.YtccjclmjoegibaaDoorW.PrintLast Go.Proofs.YtccjclmjoegibaaDoorW.PrintMore PCloserOrders Hp
attribute [local go_sem] max2_int min2_int max_two min_two max_three min_three max_four min_four
set_option linter.unusedVariables false
set_option linter.unusedSimpArgs false

theorem m_less (p : Value) (w : World) : (method 219 73 p "Less").run Tryd.prog w = .ok (97, p) w := by kernel_rfl
theorem m_swap (p : Value) (w : World) : (method 219 73 p "Swap").run Tryd.prog w = .ok (100, p) w := by kernel_rfl
theorem m_push (p : Value) (w : World) : (method 219 73 p "Push").run Tryd.prog w = .ok (99, p) w := by kernel_rfl
theorem m_pop (p : Value) (w : World) : (method 219 73 p "Pop").run Tryd.prog w = .ok (98, p) w := by kernel_rfl
theorem m_len (p : Value) (w : World) : (method 219 73 p "Len").run Tryd.prog w = .ok (53, p) w := by kernel_rfl
set_option maxHeartbeats 4000000 in
set_option maxRecDepth 100000 in
theorem up_is (w0 w : World) (hb : Nat) (ok : Nat → Prop) (A : Option Addr) (c : Nat) (l : List S33) (v : Value) (h : List Int) (j : Nat) (H : HS w0 w hb ok A c l v h) (hj : j < h.length) (hl : h.length < 1000000) :
    Calls Tryd.prog 70 #[.iface 73 (.pointer (some ⟨hb, 0, none⟩)), .int .i64 j] w fun e w' => e = .returned (.tuple #[]) ∧ HS w0 w' hb ok A c l v (upL (aheadB l) h j) ∧ Chg ok w w' := by
  have HH := Lib.hid H
  have HL := Lib.hid hl
  have HJ := Lib.hid hj
  obtain ⟨r, hr⟩ : ∃ r, r = upL (aheadB l) h j := ⟨_, rfl⟩
  rw [← hr]
  have HRR := Lib.hid hr
  clear H hj hl hr
  go_enter Tryd.func70, Tryd.ntmps70
  go_wp2_with fail
  go_loopg [1] j (fun gk v1 wr => ∃ (h' : List Int), v1 = .int .i64 gk ∧ Hid (gk < h'.length ∧ h'.length = h.length ∧ r = upL (aheadB l) h' gk) ∧ Hid (HS w0 wr hb ok A c l v h') ∧ Hid (Chg ok w wr))
  case atStart => exact ⟨h, rfl, Lib.hid ⟨HJ.out, rfl, HRR.out⟩, HH, Lib.hid (Chg.refl _ _)⟩
  case round =>
    obtain ⟨h', rfl, HJ', HI, HC⟩ := hrel
    clear HRR HJ HH
    by_cases h0 : gk = 0
    · subst h0
      go_wp2_with fail
      go_end0
      exact ⟨rfl, by rw [HJ'.out.2.2, upL_stop _ _ _ (.inl rfl)]; exact HI.out, HC.out⟩
    · have hq : wrap64 (Int.tdiv (wrap64 ((gk : Int) - 1)) 2) = ((par gk : Nat) : Int) := by
        rw [← i64_w, ← i64_w]
        have := HJ'.out
        have := HL.out
        rw [IntWalk.i64_in ((gk : Int) - 1) (by omega)]
        rw [Int.tdiv_eq_ediv_of_nonneg (by omega), IntWalk.i64_in _ (by omega)]
        unfold par; omega
      have hp := par_lt (k := gk) (by omega)
      have hne : (((par gk : Nat) : Int) == (gk : Int)) = false := by simp; omega
      have HLE := Lib.hid (less_is w0 wr hb ok A c l v h' gk (par gk) HI.out HJ'.out.1 (by have := HJ'.out.1; omega))
      have hm1 := m_less
      have hm2 := m_swap
      cases hlt : aheadB l (at_ h' gk) (at_ h' (par gk)) with
      | false =>
        have HS1 := Lib.hid (show r = h' from HJ'.out.2.2.trans (upL_stop _ _ _ (.inr hlt)))
        rw [hlt] at HLE
        clear hlt
        go_wp2_with (go_at_call 97; refine HLE.out.mono ?_; rintro _ w3 ⟨rfl, ⟨m3, rfl⟩⟩)
        go_end0
        exact ⟨rfl, by rw [HS1.out]; exact HI.out.below (pw_below_drewN (Below.refl _ _) m3), HC.out.drewN m3⟩
      | true =>
        have HS1 := Lib.hid (show r = upL (aheadB l) (swap h' (par gk) gk) (par gk) from HJ'.out.2.2.trans (upL_go _ _ _ h0 hlt))
        rw [hlt] at HLE
        clear hlt
        have HSW := Lib.hid (fun m => swap_is w0 (wr.drewN m) hb ok A c l v h' (par gk) gk (HI.out.below (pw_below_drewN (Below.refl _ _) m)) (by have := HJ'.out.1; omega) HJ'.out.1)
        go_wp2_with (first | (go_at_call 97; refine HLE.out.mono ?_; rintro _ w3 ⟨rfl, ⟨m3, rfl⟩⟩) | (go_at_call 100; refine (HSW.out m3).mono ?_; rintro _ w4 ⟨rfl, h4, c4⟩; have H4 := Lib.hid h4; have C4 := Lib.hid c4; clear h4 c4))
        go_roundg (par gk)
        case measure => omega
        case rel => exact ⟨_, rfl, Lib.hid ⟨by rw [swap_len]; have := HJ'.out.1; omega, by rw [swap_len]; exact HJ'.out.2.1, HS1.out⟩, H4, Lib.hid ((HC.out.drewN m3).trans C4.out)⟩
/-- DOWN -/
def AnyB (e : Ending) : Prop := ∃ b, e = .returned (.bool b)
set_option maxHeartbeats 8000000 in
set_option maxRecDepth 100000 in
theorem down_is (w0 w : World) (hb : Nat) (ok : Nat → Prop) (A : Option Addr) (c : Nat) (l : List S33) (v : Value) (h : List Int) (i0 n : Nat) (H : HS w0 w hb ok A c l v h) (hn : n ≤ h.length) (hi : i0 ≤ n) (hl : h.length < 1000000) :
    Calls Tryd.prog 71 #[.iface 73 (.pointer (some ⟨hb, 0, none⟩)), .int .i64 i0, .int .i64 n] w fun e w' => AnyB e ∧ HS w0 w' hb ok A c l v (downL (aheadB l) h i0 n) ∧ Chg ok w w' := by
  have HH := Lib.hid H
  have HL := Lib.hid (And.intro hn hl)
  have HJ := Lib.hid hi
  obtain ⟨r, hr⟩ : ∃ r, r = downL (aheadB l) h i0 n := ⟨_, rfl⟩
  rw [← hr]
  have HRR := Lib.hid hr
  clear H hi hn hl hr
  go_enter Tryd.func71, Tryd.ntmps71
  go_wp2_with fail
  go_loopg [7] (n - i0) (fun gk v7 wr => ∃ (h' : List Int) (i : Nat), v7 = .int .i64 i ∧ gk = n - i ∧ Hid (i ≤ n ∧ h'.length = h.length ∧ r = downL (aheadB l) h' i n) ∧ Hid (HS w0 wr hb ok A c l v h') ∧ Hid (Chg ok w wr))
  case atStart => exact ⟨h, i0, rfl, rfl, Lib.hid ⟨HJ.out, rfl, HRR.out⟩, HH, Lib.hid (Chg.refl _ _)⟩
  case round =>
    obtain ⟨h', i, rfl, rfl, HJ', HI, HC⟩ := hrel
    clear HRR HJ HH
    obtain ⟨k1, hk1⟩ : ∃ k, k = 2 * i + 1 := ⟨_, rfl⟩
    obtain ⟨k2, hk2⟩ : ∃ k, k = 2 * i + 2 := ⟨_, rfl⟩
    have HK1 := Lib.hid (And.intro hk1 hk2)
    clear hk1 hk2
    have ea : wrap64 (wrap64 (2 * (i : Int)) + 1) = (k1 : Int) := by
      have := HL.out; have := HJ'.out; have := HK1.out
      rw [← i64_w, ← i64_w, IntWalk.i64_in (2 * (i : Int)) (by omega), IntWalk.i64_in _ (by omega)]; omega
    have eb : wrap64 ((k1 : Int) + 1) = (k2 : Int) := by
      have := HL.out; have := HJ'.out; have := HK1.out
      rw [← i64_w, IntWalk.i64_in _ (by omega)]; omega
    have hm1 := m_less
    have hm2 := m_swap
    have a0 : ¬ ((k1 : Int) < 0) := by omega
    by_cases h1 : k1 < n
    rotate_left
    · have h1' : (k1 : Int) ≥ (n : Int) := by omega
      have HS1 := Lib.hid (show r = h' from HJ'.out.2.2.trans (downL_stop _ _ _ _ (.inl (by have := HK1.out; omega))))
      go_wp2_with fail
      go_ret
      exact ⟨⟨_, rfl⟩, by rw [HS1.out]; exact HI.out, HC.out⟩
    have h1' : ¬ (k1 : Int) ≥ (n : Int) := by omega
    have HIN := Lib.hid (show i < h'.length ∧ k1 < h'.length ∧ 2 * i + 1 < n from by have := HJ'.out; have := HL.out; have := HK1.out; omega)
    clear h1
    by_cases h2 : k2 < n
    · have h2' : (k2 : Int) < (n : Int) := by omega
      have HL1 := Lib.hid (less_is w0 wr hb ok A c l v h' k2 k1 HI.out (by have := HIN.out; have := HJ'.out; have := HL.out; omega) HIN.out.2.1)
      have H22 := Lib.hid h2
      clear h2
      cases hk : aheadB l (at_ h' k2) (at_ h' k1) with
      | true =>
        rw [hk] at HL1
        have HK := Lib.hid (show kid (aheadB l) h' i n = k2 from by
          obtain ⟨e1, e2⟩ := HK1.out
          unfold kid; rw [← e2, ← e1, if_pos ⟨H22.out, hk⟩])
        clear hk
        have HLJ := Lib.hid (fun m => less_is w0 (wr.drewN m) hb ok A c l v h' k2 i (HI.out.below (pw_below_drewN (Below.refl _ _) m)) (by have := HIN.out; have := HJ'.out; have := HL.out; have := HK1.out; omega) HIN.out.1)
        cases hlt : aheadB l (at_ h' k2) (at_ h' i) with
        | false =>
          have HS1 := Lib.hid (show r = h' from HJ'.out.2.2.trans (downL_stop _ _ _ _ (.inr (by rw [HK.out]; exact hlt))))
          rw [hlt] at HLJ
          clear hlt
          go_wp2_with fail
          refine HL1.out.mono ?_
          rintro _ w3 ⟨rfl, ⟨m3, rfl⟩⟩
          clear HL1
          go_wp2_with fail
          refine (HLJ.out _).mono ?_
          rintro _ w5 ⟨rfl, ⟨m5, rfl⟩⟩
          go_wp2_with fail
          go_ret
          exact ⟨⟨_, rfl⟩, by rw [HS1.out]; exact HI.out.below (pw_below_drewN (Below.refl _ _) _), HC.out.drewN _⟩
        | true =>
          have HS1 := Lib.hid (show r = downL (aheadB l) (swap h' i k2) k2 n from by
            have e := HJ'.out.2.2.trans (downL_go _ _ _ _ HIN.out.2.2 (by rw [HK.out]; exact hlt))
            rw [HK.out] at e
            exact e)
          rw [hlt] at HLJ
          clear hlt
          have HSW := Lib.hid (fun m => swap_is w0 (wr.drewN m) hb ok A c l v h' i k2 (HI.out.below (pw_below_drewN (Below.refl _ _) m)) HIN.out.1 (by have := HIN.out; have := HJ'.out; have := HL.out; have := HK1.out; omega))
          go_wp2_with fail
          refine HL1.out.mono ?_
          rintro _ w3 ⟨rfl, ⟨m3, rfl⟩⟩
          clear HL1
          go_wp2_with fail
          refine (HLJ.out _).mono ?_
          rintro _ w5 ⟨rfl, ⟨m5, rfl⟩⟩
          clear HLJ
          go_wp2_with fail
          try rw [World.drewN_drewN]
          refine (HSW.out _).mono ?_
          rintro _ w4 ⟨rfl, h4, c4⟩
          have H4 := Lib.hid h4
          have C4 := Lib.hid c4
          clear h4 c4 HSW
          go_wp2_with fail
          go_roundg (n - k2)
          case measure => have := HIN.out; have := HJ'.out.1; have := HK1.out; omega
          case rel => exact ⟨_, k2, rfl, rfl, Lib.hid ⟨by have := HIN.out; have := HJ'.out; have := HL.out; have := HK1.out; omega, by rw [swap_len]; exact HJ'.out.2.1, HS1.out⟩, H4, Lib.hid ((HC.out.drewN _).trans C4.out)⟩
      | false =>
        rw [hk] at HL1
        have HK := Lib.hid (show kid (aheadB l) h' i n = k1 from by
          obtain ⟨e1, e2⟩ := HK1.out
          unfold kid; rw [← e2, ← e1, if_neg (fun q => by rw [hk] at q; exact absurd q.2 (by decide))])
        clear hk
        have HLJ := Lib.hid (fun m => less_is w0 (wr.drewN m) hb ok A c l v h' k1 i (HI.out.below (pw_below_drewN (Below.refl _ _) m)) (by have := HIN.out; have := HJ'.out; have := HL.out; have := HK1.out; omega) HIN.out.1)
        cases hlt : aheadB l (at_ h' k1) (at_ h' i) with
        | false =>
          have HS1 := Lib.hid (show r = h' from HJ'.out.2.2.trans (downL_stop _ _ _ _ (.inr (by rw [HK.out]; exact hlt))))
          rw [hlt] at HLJ
          clear hlt
          go_wp2_with fail
          refine HL1.out.mono ?_
          rintro _ w3 ⟨rfl, ⟨m3, rfl⟩⟩
          clear HL1
          go_wp2_with fail
          refine (HLJ.out _).mono ?_
          rintro _ w5 ⟨rfl, ⟨m5, rfl⟩⟩
          go_wp2_with fail
          go_ret
          exact ⟨⟨_, rfl⟩, by rw [HS1.out]; exact HI.out.below (pw_below_drewN (Below.refl _ _) _), HC.out.drewN _⟩
        | true =>
          have HS1 := Lib.hid (show r = downL (aheadB l) (swap h' i k1) k1 n from by
            have e := HJ'.out.2.2.trans (downL_go _ _ _ _ HIN.out.2.2 (by rw [HK.out]; exact hlt))
            rw [HK.out] at e
            exact e)
          rw [hlt] at HLJ
          clear hlt
          have HSW := Lib.hid (fun m => swap_is w0 (wr.drewN m) hb ok A c l v h' i k1 (HI.out.below (pw_below_drewN (Below.refl _ _) m)) HIN.out.1 (by have := HIN.out; have := HJ'.out; have := HL.out; have := HK1.out; omega))
          go_wp2_with fail
          refine HL1.out.mono ?_
          rintro _ w3 ⟨rfl, ⟨m3, rfl⟩⟩
          clear HL1
          go_wp2_with fail
          refine (HLJ.out _).mono ?_
          rintro _ w5 ⟨rfl, ⟨m5, rfl⟩⟩
          clear HLJ
          go_wp2_with fail
          try rw [World.drewN_drewN]
          refine (HSW.out _).mono ?_
          rintro _ w4 ⟨rfl, h4, c4⟩
          have H4 := Lib.hid h4
          have C4 := Lib.hid c4
          clear h4 c4 HSW
          go_wp2_with fail
          go_roundg (n - k1)
          case measure => have := HIN.out; have := HJ'.out.1; have := HK1.out; omega
          case rel => exact ⟨_, k1, rfl, rfl, Lib.hid ⟨by have := HIN.out; have := HJ'.out; have := HL.out; have := HK1.out; omega, by rw [swap_len]; exact HJ'.out.2.1, HS1.out⟩, H4, Lib.hid ((HC.out.drewN _).trans C4.out)⟩
    · have h2' : ¬ (k2 : Int) < (n : Int) := by omega
      have HK := Lib.hid (show kid (aheadB l) h' i n = k1 from by
        obtain ⟨e1, e2⟩ := HK1.out
        unfold kid; rw [← e2, ← e1, if_neg (fun q => h2 q.1)])
      clear h2
      have HLJ := Lib.hid (fun m => less_is w0 (wr.drewN m) hb ok A c l v h' k1 i (HI.out.below (pw_below_drewN (Below.refl _ _) m)) (by have := HIN.out; have := HJ'.out; have := HL.out; have := HK1.out; omega) HIN.out.1)
      cases hlt : aheadB l (at_ h' k1) (at_ h' i) with
      | false =>
        have HS1 := Lib.hid (show r = h' from HJ'.out.2.2.trans (downL_stop _ _ _ _ (.inr (by rw [HK.out]; exact hlt))))
        rw [hlt] at HLJ
        clear hlt
        go_wp2_with fail
        refine (HLJ.out 0).mono ?_
        rintro _ w5 ⟨rfl, ⟨m5, rfl⟩⟩
        go_wp2_with fail
        go_ret
        exact ⟨⟨_, rfl⟩, by rw [HS1.out]; exact HI.out.below (pw_below_drewN (Below.refl _ _) _), HC.out.drewN _⟩
      | true =>
        have HS1 := Lib.hid (show r = downL (aheadB l) (swap h' i k1) k1 n from by
          have e := HJ'.out.2.2.trans (downL_go _ _ _ _ HIN.out.2.2 (by rw [HK.out]; exact hlt))
          rw [HK.out] at e
          exact e)
        rw [hlt] at HLJ
        clear hlt
        have HSW := Lib.hid (fun m => swap_is w0 (wr.drewN m) hb ok A c l v h' i k1 (HI.out.below (pw_below_drewN (Below.refl _ _) m)) HIN.out.1 (by have := HIN.out; have := HJ'.out; have := HL.out; have := HK1.out; omega))
        go_wp2_with fail
        refine (HLJ.out 0).mono ?_
        rintro _ w5 ⟨rfl, ⟨m5, rfl⟩⟩
        clear HLJ
        go_wp2_with fail
        try rw [World.drewN_drewN]
        refine (HSW.out _).mono ?_
        rintro _ w4 ⟨rfl, h4, c4⟩
        have H4 := Lib.hid h4
        have C4 := Lib.hid c4
        clear h4 c4 HSW
        go_wp2_with fail
        go_roundg (n - k1)
        case measure => have := HIN.out; have := HJ'.out.1; have := HK1.out; omega
        case rel => exact ⟨_, k1, rfl, rfl, Lib.hid ⟨by have := HIN.out; have := HJ'.out; have := HL.out; have := HK1.out; omega, by rw [swap_len]; exact HJ'.out.2.1, HS1.out⟩, H4, Lib.hid ((HC.out.drewN _).trans C4.out)⟩
end Go.Proofs.YtccjclmjoegibaaDoor.Ce
