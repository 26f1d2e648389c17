/- Whether scopes and parts are right, by the program; a copy of a row of whole numbers. -/
import Derived.Test.YtccjclmjoegibaaDoorRi
import Derived.WalkSpells
namespace Go.Proofs.YtccjclmjoegibaaDoor.Ce
open Go.RowKit Go.Maps Go.Proofs.YtccjclmjoegibaaDoor Go.Proofs.YtccjclmjoegibaaDoorW.PrintWords Go.Proofs.YtccjclmjoegibaaDoorW.PrintLast Go.Proofs.YtccjclmjoegibaaDoorW.PrintMore PCloserOrders Hp
attribute [local go_sem] max2_int min2_int max_two min_two max_three min_three max_four min_four
set_option linter.unusedVariables false
set_option linter.unusedSimpArgs false
/-- Each scope's parent is ahead of it, or none. -/
def upB (up : List Int) : Nat → Nat → Bool
  | 0, _ => true
  | n + 1, i => decide (-1 ≤ rd up (i : Int)) && decide (rd up (i : Int) < i) && upB up n (i + 1)
def scopesE (up : List Int) : Int := if up.length > 32 then 3 else if upB up up.length 0 = true then 0 else 5
theorem scopes_l0 (up : List Int) (h : up.length ≤ 32) : ∀ n i : Nat, n = up.length - i → i ≤ up.length → ∃ k, closer_scopes.l0 k up (up.length : Int) (i : Int) = some (if upB up n i = true then 0 else 5)
  | 0, i, hn, hi => ⟨1, by rw [closer_scopes.l0, if_neg (by omega)]; rfl⟩
  | n + 1, i, hn, hi => by
    obtain ⟨k, hk⟩ := scopes_l0 up h n (i + 1) (by omega) (by omega)
    have hw : wrap64 ((i : Int) + 1) = ((i + 1 : Nat) : Int) := by rw [← i64_w, IntWalk.i64_in _ (by omega)]; omega
    refine ⟨k + 1, ?_⟩
    rw [closer_scopes.l0, if_pos (by omega), if_pos (by omega), if_pos (by omega), upB]
    by_cases h1 : rd up (i : Int) < -1
    · rw [if_pos h1, decide_eq_false (show ¬ (-1 ≤ rd up (i : Int)) by omega)]; rfl
    · rw [if_neg h1, decide_eq_true (show -1 ≤ rd up (i : Int) by omega)]
      by_cases h2 : rd up (i : Int) ≥ (i : Int)
      · rw [if_pos h2, decide_eq_false (show ¬ (rd up (i : Int) < (i : Int)) by omega)]; rfl
      · rw [if_neg h2, decide_eq_true (show rd up (i : Int) < (i : Int) by omega), hw, hk]; rfl
theorem scopes_is (w : World) (A : Option Addr) (c : Nat) (up : List Int) (hr : Kd.C (Kd.int .i64) w A up.length up) (hc : up.length ≤ c) : Calls Tryd.prog 30 #[.slice A up.length c] w fun e w' => e = .returned (.int .i64 (scopesE up)) ∧ Drawn0 w w' := by
  by_cases h : up.length > 32
  · refine closer_scopes.calls 0 A c up _ w hr hc ?_
    unfold closer_scopes.f scopesE
    rw [if_pos (by omega), if_pos h]
  · obtain ⟨k, hk⟩ := scopes_l0 up (by omega) up.length 0 rfl (Nat.zero_le _)
    refine closer_scopes.calls k A c up _ w hr hc ?_
    unfold closer_scopes.f scopesE
    rw [if_neg (by omega), if_neg h]
    exact hk
/-- What is wrong with scopes and parts. -/
def partsB (sc pa : Int) (l : List S33) : Nat → Nat → Bool
  | 0, _ => true
  | n + 1, i => rightB sc pa (rd_T33 l (i : Int)) && partsB sc pa l n (i + 1)
def checkE (up : List Int) (l : List S33) : Int := if scopesE up ≠ 0 then scopesE up else if l.length > 256 then 3 else if partsB up.length l.length l l.length 0 = true then 0 else 190
theorem scopesE_cases (up : List Int) : scopesE up = 0 ∨ scopesE up = 3 ∨ scopesE up = 5 := by unfold scopesE; split <;> first | (split <;> simp) | simp
set_option maxHeartbeats 4000000 in
theorem check_is (w : World) (U : Option Addr) (cu : Nat) (up : List Int) (A : Option Addr) (c : Nat) (l : List S33) (hla : Laid w) (hu : Kd.C (Kd.int .i64) w U up.length up) (hcu : up.length ≤ cu) (hl : Kd.C k33 w A l.length l) (hc : l.length ≤ c) (hus : ∀ x ∈ l, x.f4.length ≤ 1048576) :
    Calls Tryd.prog 14 #[.slice U up.length cu, .slice A l.length c] w fun e w' => e = .returned (.int .i64 (checkE up l)) ∧ Below w.heap.size w w' := by
  have HLA := Lib.hid hla
  have HU := Lib.hid hu
  have HL := Lib.hid hl
  have HUS := Lib.hid hus
  have HSC := Lib.hid (scopes_is w U cu up hu hcu)
  have HUC := Lib.hid hcu
  obtain ⟨rr, hrr⟩ : ∃ rr, rr = checkE up l := ⟨_, rfl⟩
  have HRR := Lib.hid hrr
  rw [← hrr]
  obtain ⟨se, hse⟩ : ∃ se, se = scopesE up := ⟨_, rfl⟩
  have HSE := Lib.hid hse
  rw [← hse] at HSC
  clear hla hu hl hc hus hcu hrr hse
  by_cases h0 : se = 0
  rotate_left
  · have h0b : (se != 0) = true := by simpa using h0
    have HD := Lib.hid (show rr = se by rw [HRR.out, checkE, ← HSE.out, if_pos h0])
    clear h0
    go_enter Tryd.func14, Tryd.ntmps14
    go_wp2_with fail
    refine HSC.out.mono ?_
    rintro _ w2 ⟨rfl, ⟨n, rfl⟩⟩
    go_wp2_with fail
    go_ret
    exact ⟨by rw [HD.out]; rfl, pw_below_drewN (Below.refl _ _) n⟩
  have HD := Lib.hid (show rr = if l.length > 256 then 3 else if partsB up.length l.length l l.length 0 = true then 0 else 190 by rw [HRR.out, checkE, ← HSE.out, if_neg (fun q => q h0)])
  subst h0
  clear HRR HSE
  by_cases h1 : l.length > 256
  · have h1' : (l.length : Int) > 256 := by omega
    have HE := Lib.hid (HD.out.trans (if_pos h1))
    clear HD h1
    go_enter Tryd.func14, Tryd.ntmps14
    go_wp2_with fail
    refine HSC.out.mono ?_
    rintro _ w2 ⟨rfl, ⟨n, rfl⟩⟩
    go_wp2_with fail
    go_ret
    exact ⟨by rw [HE.out]; rfl, pw_below_drewN (Below.refl _ _) n⟩
  have h1' : ¬ (l.length : Int) > 256 := by omega
  have HE := Lib.hid (HD.out.trans (if_neg h1))
  have HN := Lib.hid (show l.length ≤ 256 by omega)
  clear HD h1
  go_enter Tryd.func14, Tryd.ntmps14
  go_wp2_with fail
  refine HSC.out.mono ?_
  rintro _ w2 ⟨rfl, ⟨n, rfl⟩⟩
  clear HSC
  go_wp2_with fail
  go_loopg [18] l.length (fun gk v18 wr => ∃ i : Nat, v18 = .int .i64 i ∧ gk = l.length - i ∧ Hid (i ≤ l.length ∧ rr = if partsB up.length l.length l (l.length - i) i = true then 0 else 190) ∧ Hid (Below w.heap.size w wr))
  case atStart => exact ⟨0, rfl, by simp, Lib.hid ⟨Nat.zero_le _, HE.out⟩, Lib.hid (pw_below_drewN (Below.refl _ _) n)⟩
  case round =>
    obtain ⟨i, rfl, rfl, HI, HB⟩ := hrel
    by_cases hlt : i < l.length
    · have hlt' : (i : Int) < (l.length : Int) := by omega
      have hwi : wrap64 ((i : Int) + 1) = ((i + 1 : Nat) : Int) := by
        have := HN.out
        rw [← i64_w, IntWalk.i64_in _ (by omega)]; omega
      obtain ⟨ad, A4, c4, rfl, p0, p1, p2, p3, p4, p5, p6, p7, p8⟩ := part_at (Kd.C_below HL.out HB.out) i hlt
      have HPT := Lib.hid (show rr = if (rightB up.length l.length (rd_T33 l (i : Int)) && partsB up.length l.length l (l.length - (i + 1)) (i + 1)) = true then 0 else 190 by
        rw [HI.out.2, show l.length - i = (l.length - (i + 1)) + 1 by omega, partsB])
      have HX := Lib.hid (show (rd_T33 l (i : Int)) ∈ l by
        unfold rd_T33
        rw [Int.toNat_natCast, List.getD_eq_getElem?_getD, List.getElem?_eq_getElem hlt]
        exact List.getElem_mem hlt)
      have HP8 := Lib.hid (And.intro p7 p8)
      generalize rd_T33 l (i : Int) = x at *
      clear p7 p8
      go_upto_region 9 with fail
      obtain ⟨w3, e3⟩ : ∃ w3, w3 = wr.alloc (.cells #[.int .i64 x.f0, .string x.f1, .bool x.f2, .int .i64 x.f3, .slice A4 x.f4.length c4, .int .i64 x.f5.f0, .string x.f5.f1] 33) := ⟨_, rfl⟩
      have hbw : Below wr.heap.size wr w3 := by rw [e3]; exact below_alloc (Below.refl _ _) _
      have k3 : w3.heap[wr.heap.size]? = some (.cells #[.int .i64 x.f0, .string x.f1, .bool x.f2, .int .i64 x.f3, .slice A4 x.f4.length c4, .int .i64 x.f5.f0, .string x.f5.f1] 33 (0, 0)) := by rw [e3]; exact blk_new _ _
      rw [← e3]
      have q0 := (blk_cell k3 0).trans rfl
      have q1 := (blk_cell k3 1).trans rfl
      have q2 := (blk_cell k3 2).trans rfl
      have q3 := (blk_cell k3 3).trans rfl
      have q4 := (blk_cell k3 4).trans rfl
      have q5 := (blk_cell k3 5).trans rfl
      have q6 := (blk_cell k3 6).trans rfl
      have HB3 := Lib.hid (below_step HB.out hbw)
      have HRT := Lib.hid (right_is w3 x A4 c4 (up.length : Int) (l.length : Int) (HLA.out.below HB3.out) (Kd.C_below HP8.out.2 hbw) HP8.out.1 (by have := HUS.out x HX.out; omega))
      clear e3 hbw k3 p0 p1 p2 p3 p4 p5 p6
      cases hrb : rightB (up.length : Int) (l.length : Int) x with
      | false =>
        rw [hrb] at HRT
        have HQ := Lib.hid (show rr = 190 by rw [HPT.out, hrb]; rfl)
        clear hrb
        go_wp2_with fail
        refine HRT.out.mono ?_
        rintro _ w4 ⟨rfl, hb4⟩
        have HB4 := Lib.hid (below_step HB3.out hb4)
        clear hb4
        go_wp2_with fail
        go_ret
        exact ⟨by rw [HQ.out]; rfl, HB4.out⟩
      | true =>
        rw [hrb] at HRT
        have HQ := Lib.hid (show rr = if partsB up.length l.length l (l.length - (i + 1)) (i + 1) = true then 0 else 190 by rw [HPT.out, hrb, Bool.true_and])
        clear hrb
        go_wp2_with fail
        refine HRT.out.mono ?_
        rintro _ w4 ⟨rfl, hb4⟩
        have HB4 := Lib.hid (below_step HB3.out hb4)
        clear hb4
        go_wp2_with fail
        go_roundg (l.length - (i + 1))
        case measure => omega
        case rel => exact ⟨i + 1, by first | rfl | rw [hwi], rfl, Lib.hid ⟨hlt, HQ.out⟩, HB4⟩
    · have hlt' : ¬ (i : Int) < (l.length : Int) := by omega
      have HQ := Lib.hid (show rr = 0 by rw [HI.out.2, show l.length - i = 0 by omega]; rfl)
      go_wp2_with fail
      go_ret
      exact ⟨by rw [HQ.out]; rfl, HB.out⟩
set_option maxRecDepth 100000 in
theorem clone_is (w : World) (A : Option Addr) (c : Nat) (l : List Int) (hr : Kd.C (Kd.int .i64) w A l.length l) (hl : l.length ≤ 1000000000) :
    Calls Tryd.prog 49 #[.slice A l.length c] w fun e w' => ∃ v, e = .returned v ∧ Kd.R (Kd.int .i64) 3 w' w.heap.size (fun _ => True) v l ∧ Below w.heap.size w w' := by
  have hnil := fun w => Lib.run_eql_slice_nil (P := Tryd.prog) w 22 3 A l.length c 0 0 Tryd.underlying22
  cases A with
  | none =>
    have h0 : l.length = 0 := by
      rcases Nat.eq_zero_or_pos l.length with h | h
      · exact h
      · obtain ⟨ad, h, _⟩ := hr.2.2 h
        cases h
    obtain rfl := List.eq_nil_of_length_eq_zero h0
    clear hr hl h0
    simp only [Option.isNone, List.length_nil] at hnil
    rw [List.length_nil]
    go_enter Tryd.func49, Tryd.ntmps49
    go_wp2_with fail
    go_ret
    exact ⟨_, rfl, Kd.R_nil _ _ _ _ _, Below.refl _ _⟩
  | some ad =>
    have HR := Lib.hid hr
    have HL := Lib.hid hl
    clear hr hl
    simp only [Option.isNone] at hnil
    go_enter Tryd.func49, Tryd.ntmps49
    go_wp2_with (first | ((with_reducible refine gate_dst (N := 5) rfl ?_); refine Kd.R_lit (Kd.int .i64) (w0 := w) w.heap.size 3 rfl (N := 5) rfl (xs := ([] : List Int)) (inner := []) (ok := fun _ => True) (okp := fun _ => True) (by first | (go_simp; done) | (go_simp; rfl)) (Reps.none _ _) (fun _ hk => hk) trivial (Below.refl _ _) (Nat.le_refl _) (by simp) ?_; intro v1 w1 ho hb hg hn; have HO := Lib.hid ho; have HB := Lib.hid hb; clear ho hb hg hn) | ((with_reducible refine gate_builtin (b := .append) (xs := #[.tmp 5, .tmp 6]) rfl ?_); at_builtin; refine Kd.R_append_rows (Kd.int .i64) (w0 := w) w.heap.size rfl (.tmp 5) (.tmp 6) 22 3 (.int .i64 0) 8 rfl Tryd.underlying22 info3 rfl (by decide) (by omega) v1 [] l _ _ _ (fun _ => True) (fun _ => False) rfl rfl HO.out (Kd.C_below HR.out HB.out) (fun _ _ h => h) (fun _ h => h.elim) (fun _ _ => trivial) HB.out HB.out.size (by have := HL.out; simp; omega) ?_; intro v2 w2 ho hb hg hat; have HO2 := Lib.hid ho; have HB2 := Lib.hid hb; clear ho hb hg hat))
    rw [List.nil_append] at HO2
    go_ret
    exact ⟨_, rfl, HO2.out, HB2.out⟩
end Go.Proofs.YtccjclmjoegibaaDoor.Ce
