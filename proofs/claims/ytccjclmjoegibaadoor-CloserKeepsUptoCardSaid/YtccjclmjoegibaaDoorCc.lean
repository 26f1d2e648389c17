/- Whether scopes and parts are right, by the program. Whether scopes and parts are right, by the program; a copy of a row of whole numbers. What lies in memory while it is found whom each part uses. Whom each part uses, at once or by way of others: the walk. A scope and all beneath it: what the printed function comes to, in plain Lean. What is closed, in order: the walk of closer.Order. -/
import Derived.Test.YtccjclmjoegibaaDoorNa
import Derived.Test.YtccjclmjoegibaaDoorOb
import Derived.WalkSpells
import Derived.Test.YtccjclmjoegibaaDoorQ2
namespace Go.Proofs.YtccjclmjoegibaaDoor.Ce
open Go.RowKit Go.Maps Go.Proofs.YtccjclmjoegibaaDoor Go.Proofs.YtccjclmjoegibaaDoorW.PrintWords Go.Proofs.YtccjclmjoegibaaDoorW.PrintLast Go.Proofs.YtccjclmjoegibaaDoorW.PrintMore PCloserOrders Hp
attribute [local go_sem] max2_int min2_int max_two min_two max_three min_three max_four min_four
set_option linter.unusedVariables false
set_option linter.unusedSimpArgs false
def outB (m n : Int) : Bool := decide (n < 0) || decide (n ≥ m)
theorem fn55_is (w : World) (ad : Addr) (m n : Int) (h : w.cell? ad = some (.int .i64 m)) : Calls Tryd.prog 55 #[.int .i64 n, .pointer (some ad)] w fun e w' => e = .returned (.bool (outB m n)) ∧ w' = w := by
 unfold outB
 by_cases h0 : n < 0
 ·rw [decide_eq_true h0]
  go_enter Tryd.func55, Tryd.ntmps55
  go_wp2_with fail
  go_ret
  exact ⟨rfl, rfl⟩
 ·rw [decide_eq_false h0]
  go_enter Tryd.func55, Tryd.ntmps55
  go_wp2_with fail
  go_ret
  exact ⟨by simp, rfl⟩
theorem index_is (w : World) (A : Option Addr) (c : Nat) (l : List Int) (ad : Addr) (m : Int) (hr : Kd.C (Kd.int .i64) w A l.length l) (hc : l.length ≤ c) (hm : l.length ≤ 1000000000) (h : w.cell? ad = some (.int .i64 m)) :
  Calls Tryd.prog 56 #[.slice A l.length c, .func (.func 55) #[] #[.pointer (some ad)]] w fun e w' => ∃ r, e = .returned (.int .i64 r) ∧ decide (r ≥ 0) = l.any (outB m) ∧ w' = w := by
 have HR := Lib.hid hr
 have HM := Lib.hid hm
 clear hr hc hm
 go_enter Tryd.func56, Tryd.ntmps56
 go_wp2_with fail
 go_loopg [8] l.length (fun gk v8 wr => ∃ i : Nat, v8 = .int .i64 i ∧ gk = l.length - i ∧ Hid (i ≤ l.length ∧ l.any (outB m) = (l.drop i).any (outB m)) ∧ wr = w)
 case atStart => exact ⟨0, rfl, by simp, Lib.hid ⟨Nat.zero_le _, rfl⟩, rfl⟩
 case round =>
  obtain ⟨i, rfl, rfl, HI, rfl⟩ := hrel
  by_cases hlt : i < l.length
  ·have hlt' : (i : Int) < (l.length : Int) := by omega
   have hwi : wrap64 ((i : Int) + 1) = ((i + 1 : Nat) : Int) := by
    have := HM.out
    rw [← i64_w, IntWalk.i64_in _ (by omega)]; omega
   obtain ⟨a7, rfl, q0⟩ := Kd.at_int HR.out (i : Int) (by omega) hlt'
   rw [Int.toNat_natCast] at q0
   have HD := Lib.hid (show l.any (outB m) = (outB m (rd l (i : Int)) || (l.drop (i + 1)).any (outB m)) by
    rw [HI.out.2, drop_at l i hlt, List.any_cons]; rfl)
   generalize rd l (i : Int) = x at *
   have HF := Lib.hid (fn55_is _ ad m x h)
   cases hx : outB m x with
   | true =>
    rw [hx] at HF HD
    go_wp2_with fail
    refine HF.out.mono ?_
    rintro _ w2 ⟨rfl, rfl⟩
    go_wp2_with fail
    go_ret
    exact ⟨_, rfl, by rw [HD.out]; simp, rfl⟩
   | false =>
    rw [hx] at HF HD
    go_wp2_with fail
    refine HF.out.mono ?_
    rintro _ w2 ⟨rfl, rfl⟩
    go_wp2_with fail
    go_roundg (l.length - (i + 1))
    case measure => omega
    case rel => exact ⟨i + 1, by first | rfl | rw [hwi], rfl, Lib.hid ⟨hlt, by rw [HD.out]; simp⟩, rfl⟩
  ·have hlt' : ¬ (i : Int) < (l.length : Int) := by omega
   have HD := Lib.hid (show l.any (outB m) = false by rw [HI.out.2, List.drop_eq_nil_of_le (by omega)]; rfl)
   go_wp2_with fail
   go_ret
   exact ⟨-1, rfl, by rw [HD.out]; rfl, rfl⟩
theorem has_out (w : World) (A : Option Addr) (c : Nat) (l : List Int) (ad : Addr) (m : Int) (hr : Kd.C (Kd.int .i64) w A l.length l) (hc : l.length ≤ c) (hm : l.length ≤ 1000000000) (h : w.cell? ad = some (.int .i64 m)) :
  Calls Tryd.prog 37 #[.slice A l.length c, .func (.func 55) #[] #[.pointer (some ad)]] w fun e w' => e = .returned (.bool (l.any (outB m))) ∧ w' = w := by
 have HI := Lib.hid (index_is w A c l ad m hr hc hm h)
 clear hr hc hm h
 go_enter Tryd.func37, Tryd.ntmps37
 go_wp2_with fail
 refine HI.out.mono ?_
 rintro _ w2 ⟨r, rfl, hr, rfl⟩
 have HRR := Lib.hid hr
 clear hr HI
 go_wp2_with fail
 go_ret
 exact ⟨by rw [← HRR.out]; rfl, rfl⟩

def closerB (k : Int) (t : ByteArray) : Bool := if k = 2 ∨ k = 3 then decide (t.size ≤ 4096) else if k = 0 ∨ k = 1 then t.toList == [] else false
theorem closer_is (w : World) (k : Int) (t : ByteArray) : Calls Tryd.prog 40 #[.agg #[.int .i64 k, .string t]] w fun e w' => e = .returned (.bool (closerB k t)) ∧ Below w.heap.size w w' := by
 refine closer_closer.calls k t _ w ?_
 unfold closer_closer.f closerB
 by_cases h2 : k = 2
 ·rw [if_pos h2, if_pos (.inl h2)]; exact congrArg some (by rw [decide_eq_decide]; omega)
 ·rw [if_neg h2]
  by_cases h3 : k = 3
  ·rw [if_pos h3, if_pos (.inr h3)]; exact congrArg some (by rw [decide_eq_decide]; omega)
  ·rw [if_neg h3, if_neg (show ¬ (k = 2 ∨ k = 3) by omega)]
   by_cases h0 : k = 0
   ·rw [if_pos h0, if_pos (.inl h0)]
   ·rw [if_neg h0]
    by_cases h1 : k = 1
    ·rw [if_pos h1, if_pos (.inr h1)]
    ·rw [if_neg h1, if_neg (show ¬ (k = 0 ∨ k = 1) by omega)]
/-- Is a part right? -/
def rightB (sc pa : Int) (x : S33) : Bool := decide (0 ≤ x.f0) && (decide (x.f0 < sc) && (nameB x.f1 && (closerB x.f5.f0 x.f5.f1 && ((if x.f2 = true then decide (1 ≤ x.f3) && decide (x.f3 ≤ 1099511627776) else decide (x.f3 = 0)) && !x.f4.any (outB pa)))))
set_option maxHeartbeats 4000000 in
theorem right_is (w : World) (x : S33) (A4 : Option Addr) (c4 : Nat) (sc pa : Int) (hla : Laid w) (hr : Kd.C (Kd.int .i64) w A4 x.f4.length x.f4) (hc : x.f4.length ≤ c4) (hm : x.f4.length ≤ 1000000000) :
  Calls Tryd.prog 31 #[.agg #[.int .i64 x.f0, .string x.f1, .bool x.f2, .int .i64 x.f3, .slice A4 x.f4.length c4, .int .i64 x.f5.f0, .string x.f5.f1], .int .i64 sc, .int .i64 pa] w fun e w' => e = .returned (.bool (rightB sc pa x)) ∧ Below w.heap.size w w' := by
 obtain ⟨w2, e2⟩ : ∃ w2, w2 = (w.alloc (.cells #[.int .i64 x.f0, .string x.f1, .bool x.f2, .int .i64 x.f3, .slice A4 x.f4.length c4, .int .i64 x.f5.f0, .string x.f5.f1] 33)).alloc (.cells #[.int .i64 pa] 3) := ⟨_, rfl⟩
 have hb2 : Below w.heap.size w w2 := by rw [e2]; exact below_alloc (below_alloc (Below.refl _ _) _) _
 have k3 : w2.heap[w.heap.size]? = some (.cells #[.int .i64 x.f0, .string x.f1, .bool x.f2, .int .i64 x.f3, .slice A4 x.f4.length c4, .int .i64 x.f5.f0, .string x.f5.f1] 33 (0, 0)) := by rw [e2]; exact blk_alloc (blk_new _ _) _
 have k4 : w2.heap[w.heap.size + 1]? = some (.cells #[.int .i64 pa] 3 (0, 0)) := by
  rw [e2]
  have := blk_new (w.alloc (.cells #[.int .i64 x.f0, .string x.f1, .bool x.f2, .int .i64 x.f3, .slice A4 x.f4.length c4, .int .i64 x.f5.f0, .string x.f5.f1] 33)) (.cells #[.int .i64 pa] 3)
  rw [World.size_alloc] at this
  exact this
 have HB2 := Lib.hid hb2
 have HLA := Lib.hid (hla.below hb2)
 have HK3 := Lib.hid k3
 have HRW := Lib.hid (Kd.C_below hr hb2)
 have HK4 := Lib.hid k4
 have HC := Lib.hid (And.intro hc hm)
 have HNM := Lib.hid (name_is w2 x.f1 (hla.below hb2))
 clear hla hr hc hm hb2 k3 k4
 obtain ⟨rr, hrr⟩ : ∃ rr, rr = rightB sc pa x := ⟨_, rfl⟩
 have HRR := Lib.hid hrr
 rw [← hrr]
 clear hrr
 go_enter Tryd.func31, Tryd.ntmps31
 go_upto_region 1 with fail
 rw [← e2]
 clear e2
 have q0 := (blk_cell HK3.out 0).trans rfl
 have q1 := (blk_cell HK3.out 1).trans rfl
 have q2 := (blk_cell HK3.out 2).trans rfl
 have q3 := (blk_cell HK3.out 3).trans rfl
 have q4 := (blk_cell HK3.out 4).trans rfl
 have q5 := (blk_cell HK3.out 5).trans rfl
 have q6 := (blk_cell HK3.out 6).trans rfl
 have HB0 := Lib.hid (show ∀ b : Bool, (false && b) = false ∧ (true && b) = b from fun b => ⟨rfl, rfl⟩)
 by_cases h0 : x.f0 < 0
 ·have HD := Lib.hid (show decide (0 ≤ x.f0) = false by simp; omega)
  go_wp2_with fail
  go_ret
  exact ⟨by rw [HRR.out, rightB, HD.out]; rfl, HB2.out⟩
 have HD0 := Lib.hid (show decide (0 ≤ x.f0) = true by simp; omega)
 by_cases h1 : x.f0 ≥ sc
 ·have HD := Lib.hid (show decide (x.f0 < sc) = false by simp; omega)
  go_wp2_with fail
  go_ret
  exact ⟨by rw [HRR.out, rightB, HD0.out, HD.out]; rfl, HB2.out⟩
 have HD1 := Lib.hid (show decide (x.f0 < sc) = true by simp; omega)
 have H0 := Lib.hid h0
 have H1 := Lib.hid h1
 have h0' : decide (x.f0 < 0) = false := decide_eq_false h0
 have h1' : decide (x.f0 ≥ sc) = false := decide_eq_false h1
 obtain ⟨nb, hnb⟩ : ∃ nb, nb = nameB x.f1 := ⟨_, rfl⟩
 have HNB := Lib.hid hnb
 rw [← hnb] at HNM
 clear hnb
 go_wp2_with fail
 refine HNM.out.mono ?_
 rintro _ w3 ⟨rfl, ⟨n, rfl⟩⟩
 clear HNM
 cases nb with
 | false =>
  go_wp2_with fail
  go_ret
  exact ⟨by rw [HRR.out, rightB, HD0.out, HD1.out, ← HNB.out]; rfl, HB2.out.trans (pw_below_drewN (Below.refl _ _) n)⟩
 | true =>
  have HCL := Lib.hid (closer_is (w2.drewN n) x.f5.f0 x.f5.f1)
  obtain ⟨cb, hcb⟩ : ∃ cb, cb = closerB x.f5.f0 x.f5.f1 := ⟨_, rfl⟩
  have HCB := Lib.hid hcb
  rw [← hcb] at HCL
  clear hcb
  go_wp2_with fail
  refine HCL.out.mono ?_
  rintro _ w3 ⟨rfl, hb3⟩
  have HB3 := Lib.hid (below_step (HB2.out.trans (pw_below_drewN (Below.refl _ _) n)) hb3)
  have HK3b := Lib.hid (blk_below (w := w2.drewN n) HK3.out hb3)
  have HK4b := Lib.hid (blk_below (w := w2.drewN n) HK4.out hb3)
  have HRW3 := Lib.hid (Kd.C_below (Kd.C_drewN HRW.out n) hb3)
  clear hb3 HCL q0 q1 q2 q3 q4 q5 q6
  cases cb with
  | false =>
   go_wp2_with fail
   go_ret
   exact ⟨by rw [HRR.out, rightB, HD0.out, HD1.out, ← HNB.out, ← HCB.out]; rfl, HB3.out⟩
  | true =>
   have q2 := (blk_cell HK3b.out 2).trans rfl
   have q3 := (blk_cell HK3b.out 3).trans rfl
   have q4 := (blk_cell HK3b.out 4).trans rfl
   have q8 := (blk_cell HK4b.out 0).trans rfl
   have HOUT := Lib.hid (has_out w3 A4 c4 x.f4 ⟨w.heap.size + 1, 0, none⟩ pa HRW3.out HC.out.1 HC.out.2 q8)
   obtain ⟨ob, hob⟩ : ∃ ob, ob = x.f4.any (outB pa) := ⟨_, rfl⟩
   have HOB := Lib.hid hob
   rw [← hob] at HOUT
   clear hob
   cases hf2 : x.f2 with
   | true =>
    rw [hf2] at q2
    by_cases e0 : x.f3 < 1
    ·have HE := Lib.hid (show (decide (1 ≤ x.f3) && decide (x.f3 ≤ 1099511627776)) = false by simp; omega)
     go_wp2_with fail
     go_ret
     exact ⟨by rw [HRR.out, rightB, HD0.out, HD1.out, ← HNB.out, ← HCB.out, if_pos hf2, HE.out]; rfl, HB3.out⟩
    by_cases e1 : x.f3 > 1099511627776
    ·have HE := Lib.hid (show (decide (1 ≤ x.f3) && decide (x.f3 ≤ 1099511627776)) = false by simp; omega)
     go_wp2_with fail
     go_ret
     exact ⟨by rw [HRR.out, rightB, HD0.out, HD1.out, ← HNB.out, ← HCB.out, if_pos hf2, HE.out]; rfl, HB3.out⟩
    have HE := Lib.hid (show (decide (1 ≤ x.f3) && decide (x.f3 ≤ 1099511627776)) = true by simp; omega)
    go_wp2_with fail
    refine HOUT.out.mono ?_
    rintro _ w4 ⟨rfl, rfl⟩
    go_wp2_with fail
    go_ret
    exact ⟨by rw [HRR.out, rightB, HD0.out, HD1.out, ← HNB.out, ← HCB.out, if_pos hf2, HE.out, ← HOB.out]; rfl, HB3.out⟩
   | false =>
    rw [hf2] at q2
    by_cases e0 : x.f3 = 0
    ·have HE := Lib.hid (show decide (x.f3 = 0) = true by simp [e0])
     rw [e0] at q3
     go_wp2_with fail
     refine HOUT.out.mono ?_
     rintro _ w4 ⟨rfl, rfl⟩
     go_wp2_with fail
     go_ret
     exact ⟨by rw [HRR.out, rightB, HD0.out, HD1.out, ← HNB.out, ← HCB.out, if_neg (by rw [hf2]; decide), HE.out, ← HOB.out]; rfl, HB3.out⟩
    ·have HE := Lib.hid (show decide (x.f3 = 0) = false by simp [e0])
     have eb : (x.f3 != 0) = true := by simpa using e0
     go_wp2_with fail
     go_ret
     exact ⟨by rw [HRR.out, rightB, HD0.out, HD1.out, ← HNB.out, ← HCB.out, if_neg (by rw [hf2]; decide), HE.out]; rfl, HB3.out⟩
end Go.Proofs.YtccjclmjoegibaaDoor.Ce
namespace Go.Proofs.YtccjclmjoegibaaDoor.Ce
open Go.RowKit Go.Maps Go.Proofs.YtccjclmjoegibaaDoor Go.Proofs.YtccjclmjoegibaaDoorW.PrintWords Go.Proofs.YtccjclmjoegibaaDoorW.PrintLast Go.Proofs.YtccjclmjoegibaaDoorW.PrintMore PCloserOrders Hp
attribute [local go_sem] max2_int min2_int max_two min_two max_three min_three max_four min_four
set_option linter.unusedVariables false
set_option linter.unusedSimpArgs false
/-- Each scope's parent is ahead of it, or none. -/
def upB (up : List Int) : Nat → Nat → Bool
 | 0, _ => true
 | n + 1, i => decide (-1 ≤ rd up (i : Int)) && decide (rd up (i : Int) < i) && upB up n (i + 1)
def scopesE (up : List Int) : Int := if up.length > 32 then 3 else if upB up up.length 0 = true then 0 else 5
theorem scopes_l0 (up : List Int) (h : up.length ≤ 32) : ∀ n i : Nat, n = up.length - i → i ≤ up.length → ∃ k, closer_scopes.l0 k up (up.length : Int) (i : Int) = some (if upB up n i = true then 0 else 5)
 | 0, i, hn, hi => ⟨1, by rw [closer_scopes.l0, if_neg (by omega)]; rfl⟩
 | n + 1, i, hn, hi => by
  obtain ⟨k, hk⟩ := scopes_l0 up h n (i + 1) (by omega) (by omega)
  have hw : wrap64 ((i : Int) + 1) = ((i + 1 : Nat) : Int) := by rw [← i64_w, IntWalk.i64_in _ (by omega)]; omega
  refine ⟨k + 1, ?_⟩
  rw [closer_scopes.l0, if_pos (by omega), if_pos (by omega), if_pos (by omega), upB]
  by_cases h1 : rd up (i : Int) < -1
  ·rw [if_pos h1, decide_eq_false (show ¬ (-1 ≤ rd up (i : Int)) by omega)]; rfl
  ·rw [if_neg h1, decide_eq_true (show -1 ≤ rd up (i : Int) by omega)]
   by_cases h2 : rd up (i : Int) ≥ (i : Int)
   ·rw [if_pos h2, decide_eq_false (show ¬ (rd up (i : Int) < (i : Int)) by omega)]; rfl
   ·rw [if_neg h2, decide_eq_true (show rd up (i : Int) < (i : Int) by omega), hw, hk]; rfl
theorem scopes_is (w : World) (A : Option Addr) (c : Nat) (up : List Int) (hr : Kd.C (Kd.int .i64) w A up.length up) (hc : up.length ≤ c) : Calls Tryd.prog 30 #[.slice A up.length c] w fun e w' => e = .returned (.int .i64 (scopesE up)) ∧ Drawn0 w w' := by
 by_cases h : up.length > 32
 ·refine closer_scopes.calls 0 A c up _ w hr hc ?_
  unfold closer_scopes.f scopesE
  rw [if_pos (by omega), if_pos h]
 ·obtain ⟨k, hk⟩ := scopes_l0 up (by omega) up.length 0 rfl (Nat.zero_le _)
  refine closer_scopes.calls k A c up _ w hr hc ?_
  unfold closer_scopes.f scopesE
  rw [if_neg (by omega), if_neg h]
  exact hk
/-- What is wrong with scopes and parts. -/
def partsB (sc pa : Int) (l : List S33) : Nat → Nat → Bool
 | 0, _ => true
 | n + 1, i => rightB sc pa (rd_T33 l (i : Int)) && partsB sc pa l n (i + 1)
def checkE (up : List Int) (l : List S33) : Int := if scopesE up ≠ 0 then scopesE up else if l.length > 256 then 3 else if partsB up.length l.length l l.length 0 = true then 0 else 190
theorem scopesE_cases (up : List Int) : scopesE up = 0 ∨ scopesE up = 3 ∨ scopesE up = 5 := by unfold scopesE; split <;> first | (split <;> simp) | simp
set_option maxHeartbeats 4000000 in
theorem check_is (w : World) (U : Option Addr) (cu : Nat) (up : List Int) (A : Option Addr) (c : Nat) (l : List S33) (hla : Laid w) (hu : Kd.C (Kd.int .i64) w U up.length up) (hcu : up.length ≤ cu) (hl : Kd.C k33 w A l.length l) (hc : l.length ≤ c) (hus : ∀ x ∈ l, x.f4.length ≤ 1048576) :
  Calls Tryd.prog 14 #[.slice U up.length cu, .slice A l.length c] w fun e w' => e = .returned (.int .i64 (checkE up l)) ∧ Below w.heap.size w w' := by
 have HLA := Lib.hid hla
 have HU := Lib.hid hu
 have HL := Lib.hid hl
 have HUS := Lib.hid hus
 have HSC := Lib.hid (scopes_is w U cu up hu hcu)
 have HUC := Lib.hid hcu
 obtain ⟨rr, hrr⟩ : ∃ rr, rr = checkE up l := ⟨_, rfl⟩
 have HRR := Lib.hid hrr
 rw [← hrr]
 obtain ⟨se, hse⟩ : ∃ se, se = scopesE up := ⟨_, rfl⟩
 have HSE := Lib.hid hse
 rw [← hse] at HSC
 clear hla hu hl hc hus hcu hrr hse
 by_cases h0 : se = 0
 rotate_left
 ·have h0b : (se != 0) = true := by simpa using h0
  have HD := Lib.hid (show rr = se by rw [HRR.out, checkE, ← HSE.out, if_pos h0])
  clear h0
  go_enter Tryd.func14, Tryd.ntmps14
  go_wp2_with fail
  refine HSC.out.mono ?_
  rintro _ w2 ⟨rfl, ⟨n, rfl⟩⟩
  go_wp2_with fail
  go_ret
  exact ⟨by rw [HD.out]; rfl, pw_below_drewN (Below.refl _ _) n⟩
 have HD := Lib.hid (show rr = if l.length > 256 then 3 else if partsB up.length l.length l l.length 0 = true then 0 else 190 by rw [HRR.out, checkE, ← HSE.out, if_neg (fun q => q h0)])
 subst h0
 clear HRR HSE
 by_cases h1 : l.length > 256
 ·have h1' : (l.length : Int) > 256 := by omega
  have HE := Lib.hid (HD.out.trans (if_pos h1))
  clear HD h1
  go_enter Tryd.func14, Tryd.ntmps14
  go_wp2_with fail
  refine HSC.out.mono ?_
  rintro _ w2 ⟨rfl, ⟨n, rfl⟩⟩
  go_wp2_with fail
  go_ret
  exact ⟨by rw [HE.out]; rfl, pw_below_drewN (Below.refl _ _) n⟩
 have h1' : ¬ (l.length : Int) > 256 := by omega
 have HE := Lib.hid (HD.out.trans (if_neg h1))
 have HN := Lib.hid (show l.length ≤ 256 by omega)
 clear HD h1
 go_enter Tryd.func14, Tryd.ntmps14
 go_wp2_with fail
 refine HSC.out.mono ?_
 rintro _ w2 ⟨rfl, ⟨n, rfl⟩⟩
 clear HSC
 go_wp2_with fail
 go_loopg [18] l.length (fun gk v18 wr => ∃ i : Nat, v18 = .int .i64 i ∧ gk = l.length - i ∧ Hid (i ≤ l.length ∧ rr = if partsB up.length l.length l (l.length - i) i = true then 0 else 190) ∧ Hid (Below w.heap.size w wr))
 case atStart => exact ⟨0, rfl, by simp, Lib.hid ⟨Nat.zero_le _, HE.out⟩, Lib.hid (pw_below_drewN (Below.refl _ _) n)⟩
 case round =>
  obtain ⟨i, rfl, rfl, HI, HB⟩ := hrel
  by_cases hlt : i < l.length
  ·have hlt' : (i : Int) < (l.length : Int) := by omega
   have hwi : wrap64 ((i : Int) + 1) = ((i + 1 : Nat) : Int) := by
    have := HN.out
    rw [← i64_w, IntWalk.i64_in _ (by omega)]; omega
   obtain ⟨ad, A4, c4, rfl, p0, p1, p2, p3, p4, p5, p6, p7, p8⟩ := part_at (Kd.C_below HL.out HB.out) i hlt
   have HPT := Lib.hid (show rr = if (rightB up.length l.length (rd_T33 l (i : Int)) && partsB up.length l.length l (l.length - (i + 1)) (i + 1)) = true then 0 else 190 by
    rw [HI.out.2, show l.length - i = (l.length - (i + 1)) + 1 by omega, partsB])
   have HX := Lib.hid (show (rd_T33 l (i : Int)) ∈ l by
    unfold rd_T33
    rw [Int.toNat_natCast, List.getD_eq_getElem?_getD, List.getElem?_eq_getElem hlt]
    exact List.getElem_mem hlt)
   have HP8 := Lib.hid (And.intro p7 p8)
   generalize rd_T33 l (i : Int) = x at *
   clear p7 p8
   go_upto_region 9 with fail
   obtain ⟨w3, e3⟩ : ∃ w3, w3 = wr.alloc (.cells #[.int .i64 x.f0, .string x.f1, .bool x.f2, .int .i64 x.f3, .slice A4 x.f4.length c4, .int .i64 x.f5.f0, .string x.f5.f1] 33) := ⟨_, rfl⟩
   have hbw : Below wr.heap.size wr w3 := by rw [e3]; exact below_alloc (Below.refl _ _) _
   have k3 : w3.heap[wr.heap.size]? = some (.cells #[.int .i64 x.f0, .string x.f1, .bool x.f2, .int .i64 x.f3, .slice A4 x.f4.length c4, .int .i64 x.f5.f0, .string x.f5.f1] 33 (0, 0)) := by rw [e3]; exact blk_new _ _
   rw [← e3]
   have q0 := (blk_cell k3 0).trans rfl
   have q1 := (blk_cell k3 1).trans rfl
   have q2 := (blk_cell k3 2).trans rfl
   have q3 := (blk_cell k3 3).trans rfl
   have q4 := (blk_cell k3 4).trans rfl
   have q5 := (blk_cell k3 5).trans rfl
   have q6 := (blk_cell k3 6).trans rfl
   have HB3 := Lib.hid (below_step HB.out hbw)
   have HRT := Lib.hid (right_is w3 x A4 c4 (up.length : Int) (l.length : Int) (HLA.out.below HB3.out) (Kd.C_below HP8.out.2 hbw) HP8.out.1 (by have := HUS.out x HX.out; omega))
   clear e3 hbw k3 p0 p1 p2 p3 p4 p5 p6
   cases hrb : rightB (up.length : Int) (l.length : Int) x with
   | false =>
    rw [hrb] at HRT
    have HQ := Lib.hid (show rr = 190 by rw [HPT.out, hrb]; rfl)
    clear hrb
    go_wp2_with fail
    refine HRT.out.mono ?_
    rintro _ w4 ⟨rfl, hb4⟩
    have HB4 := Lib.hid (below_step HB3.out hb4)
    clear hb4
    go_wp2_with fail
    go_ret
    exact ⟨by rw [HQ.out]; rfl, HB4.out⟩
   | true =>
    rw [hrb] at HRT
    have HQ := Lib.hid (show rr = if partsB up.length l.length l (l.length - (i + 1)) (i + 1) = true then 0 else 190 by rw [HPT.out, hrb, Bool.true_and])
    clear hrb
    go_wp2_with fail
    refine HRT.out.mono ?_
    rintro _ w4 ⟨rfl, hb4⟩
    have HB4 := Lib.hid (below_step HB3.out hb4)
    clear hb4
    go_wp2_with fail
    go_roundg (l.length - (i + 1))
    case measure => omega
    case rel => exact ⟨i + 1, by first | rfl | rw [hwi], rfl, Lib.hid ⟨hlt, HQ.out⟩, HB4⟩
  ·have hlt' : ¬ (i : Int) < (l.length : Int) := by omega
   have HQ := Lib.hid (show rr = 0 by rw [HI.out.2, show l.length - i = 0 by omega]; rfl)
   go_wp2_with fail
   go_ret
   exact ⟨by rw [HQ.out]; rfl, HB.out⟩
set_option maxRecDepth 100000 in
theorem clone_is (w : World) (A : Option Addr) (c : Nat) (l : List Int) (hr : Kd.C (Kd.int .i64) w A l.length l) (hl : l.length ≤ 1000000000) :
  Calls Tryd.prog 49 #[.slice A l.length c] w fun e w' => ∃ v, e = .returned v ∧ Kd.R (Kd.int .i64) 3 w' w.heap.size (fun _ => True) v l ∧ Below w.heap.size w w' := by
 have hnil := fun w => Lib.run_eql_slice_nil (P := Tryd.prog) w 22 3 A l.length c 0 0 Tryd.underlying22
 cases A with
 | none =>
  have h0 : l.length = 0 := by
   rcases Nat.eq_zero_or_pos l.length with h | h
   ·exact h
   ·obtain ⟨ad, h, _⟩ := hr.2.2 h
    cases h
  obtain rfl := List.eq_nil_of_length_eq_zero h0
  clear hr hl h0
  simp only [Option.isNone, List.length_nil] at hnil
  rw [List.length_nil]
  go_enter Tryd.func49, Tryd.ntmps49
  go_wp2_with fail
  go_ret
  exact ⟨_, rfl, Kd.R_nil _ _ _ _ _, Below.refl _ _⟩
 | some ad =>
  have HR := Lib.hid hr
  have HL := Lib.hid hl
  clear hr hl
  simp only [Option.isNone] at hnil
  go_enter Tryd.func49, Tryd.ntmps49
  go_wp2_with (first | ((with_reducible refine gate_dst (N := 5) rfl ?_); refine Kd.R_lit (Kd.int .i64) (w0 := w) w.heap.size 3 rfl (N := 5) rfl (xs := ([] : List Int)) (inner := []) (ok := fun _ => True) (okp := fun _ => True) (by first | (go_simp; done) | (go_simp; rfl)) (Reps.none _ _) (fun _ hk => hk) trivial (Below.refl _ _) (Nat.le_refl _) (by simp) ?_; intro v1 w1 ho hb hg hn; have HO := Lib.hid ho; have HB := Lib.hid hb; clear ho hb hg hn) | ((with_reducible refine gate_builtin (b := .append) (xs := #[.tmp 5, .tmp 6]) rfl ?_); at_builtin; refine Kd.R_append_rows (Kd.int .i64) (w0 := w) w.heap.size rfl (.tmp 5) (.tmp 6) 22 3 (.int .i64 0) 8 rfl Tryd.underlying22 info3 rfl (by decide) (by omega) v1 [] l _ _ _ (fun _ => True) (fun _ => False) rfl rfl HO.out (Kd.C_below HR.out HB.out) (fun _ _ h => h) (fun _ h => h.elim) (fun _ _ => trivial) HB.out HB.out.size (by have := HL.out; simp; omega) ?_; intro v2 w2 ho hb hg hat; have HO2 := Lib.hid ho; have HB2 := Lib.hid hb; clear ho hb hg hat))
  rw [List.nil_append] at HO2
  go_ret
  exact ⟨_, rfl, HO2.out, HB2.out⟩
end Go.Proofs.YtccjclmjoegibaaDoor.Ce
namespace Go.Proofs.YtccjclmjoegibaaDoor.Ce
open Go.RowKit Go.Maps Go.Proofs.YtccjclmjoegibaaDoor Go.Proofs.YtccjclmjoegibaaDoorW.PrintWords Go.Proofs.YtccjclmjoegibaaDoorW.PrintLast Go.Proofs.YtccjclmjoegibaaDoorW.PrintMore PCloserOrders Hp
set_option linter.unusedVariables false
set_option linter.unusedSimpArgs false
structure UM (w wr : World) (gm : Nat) (l : List S33) (i : Nat) (M : List (List Bool)) : Prop where
 blk : ∃ cur, wr.heap[gm]? = some (.cells cur 34 (0, 0)) ∧ l.length ≤ cur.size ∧ ∀ (j : Nat) x, M[j]? = some x → ∃ v, cur[j]? = some v ∧ Kd.R Kd.bool 4 wr w.heap.size (fun _ => True) v x
 len : M.length = i
 gmb : w.heap.size ≤ gm
 bel : Below w.heap.size w wr
 rows : ∀ (j : Nat) x, M[j]? = some x → x.length = l.length ∧ ∀ k : Int, 0 ≤ k → k < l.length → (rdOf false x k = true ↔ Rch l j k)
structure UC (w wr : World) (gm B : Nat) (l : List S33) (i : Nat) (M : List (List Bool)) (gr capr : Nat) (row : List Bool) (vt : Value) (todo : List Int) : Prop where
 blk : ∃ cur, wr.heap[gm]? = some (.cells cur 34 (0, 0)) ∧ l.length ≤ cur.size ∧ cur[i]? = some (.slice (some ⟨gr, 0, none⟩) l.length capr) ∧ ∀ (j : Nat) x, M[j]? = some x → ∃ v, cur[j]? = some v ∧ Kd.R Kd.bool 4 wr w.heap.size (fun k => k < B) v x
 row : Kd.R Kd.bool 4 wr w.heap.size (fun k => B ≤ k) (.slice (some ⟨gr, 0, none⟩) l.length capr) row
 todo : Kd.R (Kd.int .i64) 3 wr w.heap.size (fun _ => True) vt todo
 gmb : w.heap.size ≤ gm
 bel : Below w.heap.size w wr
section
variable {w wr : World} {gm B : Nat} {l : List S33} {i : Nat} {M : List (List Bool)} {gr capr : Nat} {row : List Bool} {vt : Value} {todo : List Int}
theorem UM.cell {w5 : World} (H : UM w wr gm l i M) (hi : i < l.length) (hb : Below wr.heap.size wr w5) : (∃ u, w5.cell? ⟨gm, i, none⟩ = some u) ∧ w5.frozen? ⟨gm, i, none⟩ = false := by
 obtain ⟨cur, h1, h2, _⟩ := H.blk
 have h5 := blk_below h1 hb
 refine ⟨⟨cur[i], ?_⟩, blk_frozen h5 i⟩
 rw [blk_cell h5, Array.getElem?_eq_getElem (by omega)]
theorem UM.begin {w5 w7 : World} (H : UM w wr gm l i M) (hi : i < l.length) (hb : Below wr.heap.size wr w5) (hr : Kd.R Kd.bool 4 w5 wr.heap.size (fun _ => True) (.slice (some ⟨gr, 0, none⟩) l.length capr) row)
  (hb7 : Below w5.heap.size (w5.setCell ⟨gm, i, none⟩ (.slice (some ⟨gr, 0, none⟩) l.length capr)) w7) (ht : Kd.R (Kd.int .i64) 3 w7 w5.heap.size (fun _ => True) vt todo) : UC w w7 gm wr.heap.size l i M gr capr row vt todo := by
 obtain ⟨cur, h1, h2, h3⟩ := H.blk
 have h5 := blk_below h1 hb
 have h6 := blk_set h5 i (.slice (some ⟨gr, 0, none⟩) l.length capr)
 have hs6 : (w5.setCell ⟨gm, i, none⟩ (.slice (some ⟨gr, 0, none⟩) l.length capr)).heap.size = w5.heap.size := by simp [World.setCell]
 have hb7' : Below (w5.setCell ⟨gm, i, none⟩ (.slice (some ⟨gr, 0, none⟩) l.length capr)).heap.size (w5.setCell ⟨gm, i, none⟩ (.slice (some ⟨gr, 0, none⟩) l.length capr)) w7 := by rw [hs6]; exact hb7
 have h7 := blk_below h6 hb7'
 have hw5 := below_step H.bel hb
 have hw6 : Below w.heap.size w (w5.setCell ⟨gm, i, none⟩ (.slice (some ⟨gr, 0, none⟩) l.length capr)) := Chg.below hw5 ((Chg.refl (· = gm) w5).setCell (p := ⟨gm, i, none⟩) rfl _) (fun k e => by have := H.gmb; omega) hw5.size
 refine ⟨⟨_, h7, by simpa using h2, ?_, fun j x hj => ?_⟩, ?_, Kd.R_lower ht hw5.size, H.gmb, below_step hw6 hb7'⟩
 ·rw [Array.getElem?_setIfInBounds_self_of_lt (by omega)]
 ·obtain ⟨v, e1, e2⟩ := h3 j x hj
  have hjl : j < i := by
   have := H.len
   rcases Nat.lt_or_ge j M.length with q | q
   ·omega
   ·rw [List.getElem?_eq_none q] at hj; exact absurd hj (by simp)
  refine ⟨v, by rw [Array.getElem?_setIfInBounds_ne (by omega)]; exact e1, ?_⟩
  have r1 := Kd.R_mono (Kd.R_bound e2) (ok' := fun k => k < wr.heap.size) (fun k q => q.2.2.1)
  exact Kd.R_below (Kd.R_set (Kd.R_below r1 hb) h5 (by decide) i _) hb7'
 ·have r1 := Kd.R_mono (Kd.R_bound hr) (ok' := fun k => wr.heap.size ≤ k) (fun k q => q.2.1)
  exact Kd.R_lower (Kd.R_below (Kd.R_set r1 h5 (by decide) i _) hb7') H.bel.size
theorem UC.below {w2 : World} (H : UC w wr gm B l i M gr capr row vt todo) (hb : Below wr.heap.size wr w2) : UC w w2 gm B l i M gr capr row vt todo := by
 obtain ⟨cur, h1, h2, h3, h4⟩ := H.blk
 exact ⟨⟨cur, blk_below h1 hb, h2, h3, fun j x hj => (h4 j x hj).elim fun v hv => ⟨v, hv.1, Kd.R_below hv.2 hb⟩⟩, Kd.R_below H.row hb, Kd.R_below H.todo hb, H.gmb, below_step H.bel hb⟩
theorem UC.mcell (H : UC w wr gm B l i M gr capr row vt todo) : wr.cell? ⟨gm, i, none⟩ = some (.slice (some ⟨gr, 0, none⟩) l.length capr) := by
 obtain ⟨cur, h1, h2, h3, h4⟩ := H.blk
 rw [blk_cell h1, h3]
theorem UC.rcell (H : UC w wr gm B l i M gr capr row vt todo) (b : Int) (h0 : 0 ≤ b) (h1 : b < l.length) : wr.cell? ⟨gr, b.toNat, none⟩ = some (.bool (rdOf false row b)) ∧ wr.frozen? ⟨gr, b.toNat, none⟩ = false :=
 Kd.R_celln false H.row b h0 h1
theorem UC.pop {B7 : Option Addr} {n d7 : Nat} (H : UC w wr gm B l i M gr capr row (.slice B7 n d7) todo) (m : Nat) (hm : m ≤ todo.length) : UC w wr gm B l i M gr capr row (.slice B7 m d7) (todo.take m) :=
 ⟨H.blk, H.row, Kd.R_take H.todo hm, H.gmb, H.bel⟩
theorem UC.mark (H : UC w wr gm B l i M gr capr row vt todo) (b : Int) : UC w (wr.setCell ⟨gr, b.toNat, none⟩ (.bool true)) gm B l i M gr capr (row.set b.toNat true) vt todo := by
 obtain ⟨cur, h1, h2, h3, h4⟩ := H.blk
 obtain ⟨cs, hcs⟩ := Kd.R_typed H.row gr rfl
 have hgB := H.row.1 gr rfl
 have hgb := Kd.R_base H.row gr rfl
 have hne : gm ≠ gr := fun e => by
  rw [← e, h1] at hcs
  injection hcs with hcs
  injection hcs with _ h2 _
  exact absurd h2 (by decide)
 have hc : Chg (· = gr) wr (wr.setCell ⟨gr, b.toNat, none⟩ (.bool true)) := (Chg.refl (· = gr) wr).setCell (p := ⟨gr, b.toNat, none⟩) rfl _
 refine ⟨⟨cur, blk_chg h1 hc hne, h2, h3, fun j x hj => ?_⟩, Kd.R_putn H.row b true, Kd.R_set H.todo hcs (by decide) b.toNat (.bool true), H.gmb, Chg.below H.bel hc (fun k e => by omega) H.bel.size⟩
 obtain ⟨v, e1, e2⟩ := h4 j x hj
 exact ⟨v, e1, Kd.R_far e2 (p := ⟨gr, b.toNat, none⟩) (fun k hk e => by have : k = gr := e; omega) _⟩
theorem UC.grown {w7 : World} {vt' : Value} {todo' : List Int} (H : UC w wr gm B l i M gr capr row vt todo) (hr : Kd.R (Kd.int .i64) 3 w7 w.heap.size (fun _ => True) vt' todo') (hb : Below w.heap.size w w7) (hg : wr.grownBy w7 vt.ownBlock) : UC w w7 gm B l i M gr capr row vt' todo' := by
 obtain ⟨cur, h1, h2, h3, h4⟩ := H.blk
 have hty := Kd.R_typed H.todo
 have hne : some gm ≠ vt.ownBlock := fun e => by
  obtain ⟨cs, hcs⟩ := hty gm e.symm
  rw [h1] at hcs
  injection hcs with hcs
  injection hcs with _ h2 _
  exact absurd h2 (by decide)
 exact ⟨⟨cur, (hg.block gm (blk_lt h1) hne).trans h1, h2, h3, fun j x hj => (h4 j x hj).elim fun v hv => ⟨v, hv.1, Kd.R_over' hv.2 hty (by decide) hg⟩⟩, Kd.R_over' H.row hty (by decide) hg, hr, H.gmb, hb⟩
theorem UC.finish (H : UC w wr gm B l i M gr capr row vt todo) (hM : M.length = i) (hrl : row.length = l.length) (hrr : ∀ k : Int, 0 ≤ k → k < l.length → (rdOf false row k = true ↔ Rch l (i : Int) k))
  (hrows : ∀ (j : Nat) x, M[j]? = some x → x.length = l.length ∧ ∀ k : Int, 0 ≤ k → k < l.length → (rdOf false x k = true ↔ Rch l j k)) : UM w wr gm l (i + 1) (M ++ [row]) := by
 obtain ⟨cur, h1, h2, h3, h4⟩ := H.blk
 have hsplit : ∀ (j : Nat) x, (M ++ [row])[j]? = some x → M[j]? = some x ∨ j = i ∧ x = row := fun j x hj => by
  rcases Nat.lt_or_ge j M.length with q | q
  ·rw [List.getElem?_append_left q] at hj; exact .inl hj
  ·rw [List.getElem?_append_right q] at hj
   have : j - M.length = 0 := by
    rcases Nat.eq_zero_or_pos (j - M.length) with z | z
    ·exact z
    ·rw [List.getElem?_eq_none (by simp; omega)] at hj; exact absurd hj (by simp)
   rw [this] at hj
   simp at hj
   exact .inr ⟨by omega, hj.symm⟩
 refine ⟨⟨cur, h1, h2, fun j x hj => ?_⟩, by simp [hM], H.gmb, H.bel, fun j x hj => ?_⟩
 ·rcases hsplit j x hj with q | ⟨rfl, rfl⟩
  ·obtain ⟨v, e1, e2⟩ := h4 j x q
   exact ⟨v, e1, Kd.R_mono e2 (fun _ _ => trivial)⟩
  ·exact ⟨_, h3, Kd.R_mono H.row (fun _ _ => trivial)⟩
 ·rcases hsplit j x hj with q | ⟨rfl, rfl⟩
  ·exact hrows j x q
  ·exact ⟨hrl, hrr⟩
theorem UM.reads (H : UM w wr gm l l.length M) (hm : l.length ≤ 1000000) : Kd.C (Kd.slice 4 Kd.bool) wr (some ⟨gm, 0, none⟩) M.length M := by
 obtain ⟨cur, h1, h2, h3⟩ := H.blk
 refine ⟨rfl, by rw [H.len]; (try unfold maxLen); omega, fun _ => ⟨⟨gm, 0, none⟩, rfl, fun j x hj => ?_⟩⟩
 obtain ⟨v, e1, e2⟩ := h3 j x hj
 obtain ⟨A0, c0, rfl, l0, g0⟩ := Kd.R_reads e2
 refine ⟨[.slice A0 x.length c0], rfl, ⟨A0, c0, rfl, l0, g0⟩, fun k u hu => ?_⟩
 cases k with
 | zero =>
  simp at hu
  subst hu
  have e : (⟨gm, 0, none⟩ : Addr).add (j * (Kd.slice 4 Kd.bool).sz + 0) = ⟨gm, j, none⟩ := by
   show (⟨gm, 0, none⟩ : Addr).add (j * 1 + 0) = ⟨gm, j, none⟩
   unfold Addr.add
   split
   ·rename_i h2
    have : j = 0 := by omega
    subst this
    rfl
   ·simp
  rw [e, blk_cell h1, e1]
 | succ k => simp at hu
end
end Go.Proofs.YtccjclmjoegibaaDoor.Ce
namespace Go.Proofs.YtccjclmjoegibaaDoor.Ce
open Go.RowKit Go.Maps Go.Proofs.YtccjclmjoegibaaDoor Go.Proofs.YtccjclmjoegibaaDoorW.PrintWords Go.Proofs.YtccjclmjoegibaaDoorW.PrintLast Go.Proofs.YtccjclmjoegibaaDoorW.PrintMore PCloserOrders Hp
attribute [local go_sem] max2_int min2_int max_two min_two max_three min_three max_four min_four
set_option linter.unusedVariables false
set_option linter.unusedSimpArgs false
/-- What has been found: of each part, of each other one, whether it is used. -/
structure Found (l : List S33) (M : List (List Bool)) : Prop where
 len : M.length = l.length
 rows : ∀ i : Int, 0 ≤ i → i < l.length → (rd_L6 M i).length = l.length
 is : ∀ i k : Int, 0 ≤ i → i < l.length → 0 ≤ k → k < l.length → (rdOf false (rd_L6 M i) k = true ↔ Rch l i k)
theorem UM.found {w wr : World} {gm : Nat} {l : List S33} {M : List (List Bool)} (H : UM w wr gm l l.length M) : Found l M := by
 have hg : ∀ i : Int, 0 ≤ i → i < l.length → M[i.toNat]? = some (rd_L6 M i) := fun i h0 h1 => by
  unfold rd_L6
  have : i.toNat < M.length := by rw [H.len]; omega
  rw [List.getD_eq_getElem?_getD, List.getElem?_eq_getElem this]
  rfl
 refine ⟨H.len, fun i h0 h1 => (H.rows _ _ (hg i h0 h1)).1, fun i k h0 h1 k0 k1 => ?_⟩
 have := (H.rows _ _ (hg i h0 h1)).2 k k0 k1
 rw [Int.toNat_of_nonneg h0] at this
 exact this
set_option maxHeartbeats 8000000 in
set_option maxRecDepth 100000 in
theorem uses_is (w : World) (A : Option Addr) (c : Nat) (l : List S33) (hl : Kd.C k33 w A l.length l) (hlc : l.length ≤ c) (hn : l.length ≤ 256) (hv : Valid l) (ht : unS l [] l.length ≤ 1048576) :
  Calls Tryd.prog 27 #[.slice A l.length c] w fun e w' => ∃ U cu M, e = .returned (.slice U M.length cu) ∧ Kd.C (Kd.slice 4 Kd.bool) w' U M.length M ∧ Found l M ∧ Below w.heap.size w w' := by
 have HLP := Lib.hid hl
 have HN := Lib.hid hn
 have HV := Lib.hid hv
 have HT := Lib.hid ht
 clear hl hn hlc hv ht
 go_enter Tryd.func27, Tryd.ntmps27
 go_wp2_with (first | ((with_reducible refine gate_dst (N := 9) rfl ?_); refine Kd.R_make (Kd.slice 4 Kd.bool) _ 34 rfl (N := 9) rfl 28 _ _ rfl (l.length : Int) rfl rfl Tryd.underlying28 (.slice none 0 0) 24 info34 rfl (by decide) (by omega) [] (ok := fun _ => True) (okp := fun _ => True) ⟨_, rfl, Kd.R_nil _ _ _ _ _⟩ (fun _ hk => hk) trivial (by omega) (by have := HN.out; omega) (Below.refl _ _) (Nat.le_refl _) ?_; intro v9 w5 ho hb hg hnew; have HO := Lib.hid ho; have HB5 := Lib.hid hb; clear ho hb hg hnew) | fail)
 obtain ⟨B9, d9, rfl⟩ := Kd.R_slice HO.out
 rw [Int.toNat_natCast] at HO
 rw [Int.toNat_natCast, List.length_replicate]
 by_cases hz : l.length = 0
 ·have hz' : (l.length : Int) = 0 := by omega
  obtain rfl : l = [] := List.eq_nil_of_length_eq_zero hz
  clear hz hz'
  go_wp2_with fail
  go_loopg [12] 0 (fun gk v12 wr => v12 = .int .i64 0 ∧ Hid (Below w.heap.size w wr))
  case atStart => exact ⟨rfl, HB5⟩
  case round =>
   obtain ⟨rfl, HB⟩ := hrel
   go_wp2_with fail
   go_ret
   exact ⟨B9, d9, [], rfl, ⟨rfl, by simp, fun h => absurd h (by simp)⟩, ⟨rfl, fun i h0 h1 => by simp at h1; omega, fun i k h0 h1 => by simp at h1; omega⟩, HB.out⟩
 obtain ⟨gm, capm, em, hgm, hgl, ⟨cur, hcur⟩⟩ := Kd.R_form HO.out (by rw [List.length_replicate]; omega)
 rw [List.length_replicate] at em
 injection em with em _ ec
 subst em
 subst ec
 have hsz : l.length ≤ cur.size := by
  obtain ⟨inner, _, h | ⟨g, cap, cur2, e, hg, hb, hc, hm, hs, ht⟩⟩ := Kd.R_own HO.out
  ·exact absurd h.1 (by simp)
  ·injection e with e _ _
   injection e with e
   injection e with e _ _
   subst e
   rw [hcur] at hb
   injection hb with hb
   injection hb with hb _ _
   subst hb
   rw [List.length_replicate] at hc
   have : (Kd.slice 4 Kd.bool).sz = 1 := rfl
   rw [this] at hs
   omega
 have HU0 := Lib.hid (show UM w w5 gm l 0 [] from ⟨⟨cur, hcur, hsz, fun j x hj => absurd hj (by simp)⟩, rfl, hgm, HB5.out, fun j x hj => absurd hj (by simp)⟩)
 clear HO HB5 hgm hgl hcur hsz hz
 go_wp2_with fail
 go_loopg [12] l.length (fun gk v12 wr => ∃ (i : Nat) (M : List (List Bool)), v12 = .int .i64 i ∧ gk = l.length - i ∧ Hid (i ≤ l.length) ∧ Hid (UM w wr gm l i M))
 case atStart => exact ⟨0, [], rfl, by simp, Lib.hid (Nat.zero_le _), HU0⟩
 case round =>
  clear HU0
  obtain ⟨i, M, rfl, rfl, HI, HM⟩ := hrel
  by_cases hlt : i < l.length
  rotate_left
  ·have hlt' : ¬ (i : Int) < (l.length : Int) := by omega
   obtain rfl : i = l.length := by have := HI.out; omega
   have HFD := Lib.hid (And.intro (HM.out.reads (by have := HN.out; omega)) HM.out.found)
   have HML := Lib.hid HM.out.len
   go_wp2_with fail
   go_ret
   exact ⟨_, d9, M, by rw [HML.out]; rfl, HFD.out.1, HFD.out.2, HM.out.bel⟩
  have hlt' : (i : Int) < (l.length : Int) := by omega
  have hwi : wrap64 ((i : Int) + 1) = ((i + 1 : Nat) : Int) := by
   have := HN.out
   rw [← i64_w, IntWalk.i64_in _ (by omega)]; omega
  have HLT := Lib.hid hlt
  clear hlt
  go_upto_region 6 with (first | ((with_reducible refine gate_dst (N := 19) rfl ?_); refine Kd.R_make Kd.bool _ 4 rfl (N := 19) rfl 34 _ _ rfl (l.length : Int) rfl rfl Tryd.underlying34 (.bool false) 1 info4 rfl (by decide) (by omega) false (ok := fun _ => True) (okp := fun _ => True) rfl (fun _ hk => hk) trivial (by omega) (by have := HN.out; omega) (Below.refl _ _) (Nat.le_refl _) ?_; intro v19 w6 ho hb hg hnew; rw [Int.toNat_natCast] at ho; obtain ⟨gr, capr, eg, _⟩ := Kd.R_form ho (by rw [List.length_replicate]; have := HLT.out; omega); rw [List.length_replicate] at eg; subst eg; have HO := Lib.hid ho; have HB6 := Lib.hid hb; obtain ⟨⟨u0, y0⟩, y1⟩ := HM.out.cell HLT.out hb; clear ho hb hg hnew) | fail)
  obtain ⟨w7, e7⟩ : ∃ w7, w7 = w6.setCell ⟨gm, i, none⟩ (.slice (some ⟨gr, 0, none⟩) l.length capr) := ⟨_, rfl⟩
  rw [← e7]
  have hs7 : w7.heap.size = w6.heap.size := by rw [e7]; simp [World.setCell]
  have hb7 : Below w.heap.size w w7 := by
   rw [e7]
   have h6 := below_step HM.out.bel HB6.out
   exact Chg.below h6 ((Chg.refl (· = gm) w6).setCell (p := ⟨gm, i, none⟩) rfl _) (fun k e => by have := HM.out.gmb; omega) h6.size
  have HW7 := Lib.hid (And.intro e7 hs7)
  have HB7 := Lib.hid hb7
  clear e7 hs7 hb7 y0 y1
  obtain ⟨ad, A4, c4, rfl, -, -, -, -, p4, -, -, p7, p8⟩ := part_at (Kd.C_below HLP.out HB7.out) i HLT.out
  have HUL := Lib.hid (show (usesOf l (i : Int)).length ≤ 1048576 from Nat.le_trans (unS_one l (i : Int) (by omega) l.length hlt') HT.out)
  have HCL := Lib.hid (clone_is w7 A4 c4 (usesOf l (i : Int)) p8 (by have := HUL.out; omega))
  obtain ⟨B, hB⟩ : ∃ B, B = wr.heap.size := ⟨_, rfl⟩
  have HBB := Lib.hid hB
  clear p7 p8 hB
  go_wp2_with fail
  refine HCL.out.mono ?_
  rintro _ w8 ⟨vt, rfl, hrt, hb8⟩
  rw [HW7.out.2] at hrt hb8
  rw [HW7.out.1] at hb8
  have hUC := HM.out.begin HLT.out HB6.out HO.out hb8 hrt
  rw [← HBB.out] at hUC
  have HU0 := Lib.hid hUC
  have HML := Lib.hid (And.intro HM.out.len HM.out.rows)
  clear hUC hrt hb8 HCL HW7 HB7 HO HB6 HM HBB p4
  go_wp2_with fail
  go_loopg [5] ((usesOf l (i : Int)).length + unS l (List.replicate l.length false) l.length) (fun gk v5 wr2 => ∃ (row : List Bool) (todo : List Int), gk = todo.length + unS l row l.length ∧ Hid (gk ≤ 2097152 ∧ DI l (i : Int) row todo) ∧ Hid (UC w wr2 gm B l i M gr capr row v5 todo))
  case atStart => exact ⟨_, _, rfl, Lib.hid ⟨by have := HUL.out; have := unS_le l (List.replicate l.length false) l.length; have := HT.out; omega, DI.start l (i : Int)⟩, HU0⟩
  case round =>
   clear HU0
   obtain ⟨row, todo, hgk, HD, HU⟩ := hrel
   have HG := Lib.hid hgk
   clear hgk
   obtain ⟨B5, d5, rfl⟩ := Kd.R_slice HU.out.todo
   by_cases hp : 0 < todo.length
   rotate_left
   ·have hp' : ¬ (todo.length : Int) > 0 := by omega
    obtain rfl : todo = [] := List.eq_nil_of_length_eq_zero (by omega)
    have HM2 := Lib.hid (HU.out.finish HML.out.1 HD.out.2.rl (HD.out.2.done HV.out (by omega) (by have := HLT.out; omega)) HML.out.2)
    clear hp
    go_wp2_with fail
    go_roundg (l.length - (i + 1))
    case measure => have := HLT.out; omega
    case rel => exact ⟨i + 1, _, by first | rfl | rw [hwi], rfl, Lib.hid HLT.out, HM2⟩
   have hp' : (todo.length : Int) > 0 := by omega
   obtain ⟨m, hm⟩ : ∃ m, m = todo.length - 1 := ⟨_, rfl⟩
   have HMM := Lib.hid (And.intro hm hp)
   have hw1 : wrap64 ((todo.length : Int) - 1) = (m : Int) := by
    have := HD.out.1; have := HG.out
    rw [← i64_w, IntWalk.i64_in _ (by omega)]; omega
   have hm0 : (0 : Int) ≤ (m : Int) := by omega
   have hm1 : (m : Int) < (todo.length : Int) := by omega
   have hm2 : (m : Int) ≤ (d5 : Int) := by have := (Kd.R_reads' HU.out.todo).2.1; omega
   obtain ⟨g5, cap5, e5, -, -, -⟩ := Kd.R_form HU.out.todo hp
   injection e5 with e5 _ ec5
   subst e5
   subst ec5
   have q5 : wr.cell? ⟨g5, m, none⟩ = some (.int .i64 (at_ todo m)) := (Kd.R_celln (0 : Int) HU.out.todo (m : Int) hm0 hm1).1
   have HTP := Lib.hid (show Rch l (i : Int) (at_ todo m) from hm ▸ HD.out.2.top hp)
   have HBR := Lib.hid (HTP.out.rng HV.out (by omega) (by have := HLT.out; omega))
   have HTL := Lib.hid (show (todo.take m).length = m by rw [List.length_take]; omega)
   have HSE := Lib.hid (fun h => hm ▸ HD.out.2.seen hp h)
   have HFR := Lib.hid (fun h => hm ▸ HD.out.2.fresh HV.out (by omega) (by have := HLT.out; omega) hp h)
   rw [← hm] at HSE HFR
   obtain ⟨b, hb⟩ : ∃ b, b = at_ todo m := ⟨_, rfl⟩
   rw [← hb] at q5 HTP HBR HSE HFR
   clear hb hm hp
   have b0 : (0 : Int) ≤ b := HBR.out.1
   have b1 : b < (l.length : Int) := HBR.out.2
   have i0 : (0 : Int) ≤ (i : Int) := by omega
   have qm := HU.out.mcell
   obtain ⟨r0, r1⟩ := HU.out.rcell b b0 b1
   cases hs : rdOf false row b with
   | true =>
    rw [hs] at r0
    have HD2 := Lib.hid (HSE.out hs)
    clear hs
    have HU2 := Lib.hid (HU.out.pop m (by have := HMM.out; omega))
    go_wp2_with fail
    go_roundg (gk - 1)
    case measure => have := HG.out; have := HMM.out; omega
    case rel => exact ⟨row, todo.take m, by rw [HTL.out]; have := HG.out; have := HMM.out; omega, Lib.hid ⟨by have := HD.out.1; omega, HD2.out⟩, HU2⟩
   | false =>
    rw [hs] at r0
    have HD2 := Lib.hid (HFR.out hs)
    have HUS := Lib.hid (show unS l (row.set b.toNat true) l.length + (usesOf l b).length = unS l row l.length by
     have := unS_set l row b b0 (by have := HD.out.2.rl; omega) hs l.length
     rw [if_pos b1] at this
     exact this)
    have HAL := Lib.hid (show (m + (usesOf l b).length) * 8 ≤ 140737488355328 by have := HUS.out; have := HD.out.1; have := HG.out; have := HMM.out; omega)
    clear hs
    go_upto_region 12 with fail
    obtain ⟨w9, e9⟩ : ∃ w9, w9 = wr.setCell ⟨gr, b.toNat, none⟩ (.bool true) := ⟨_, rfl⟩
    have hU9 := (HU.out.pop m (by have := HMM.out; omega)).mark b
    rw [← e9] at hU9
    have HU9 := Lib.hid hU9
    rw [← e9]
    clear e9 hU9 r0 r1 qm q5 HU
    obtain ⟨ad', A5, c5, ea, -, -, -, -, p4, -, -, p7, p8⟩ := at_T33 (Kd.C_below HLP.out HU9.out.bel) b b0 b1
    obtain rfl : ad = ad' := by injection ea
    have HP8 := Lib.hid p8
    clear ea p8
    go_wp2_with (first | ((with_reducible refine gate_builtin (b := .append) (xs := #[.tmp 55, .tmp 60]) rfl ?_); (try (refine gate_guard (by rfl) ?_; dsimp only)); at_builtin; refine Kd.R_append_rows (Kd.int .i64) (w0 := w) w.heap.size rfl (.tmp 55) (.tmp 60) 22 3 (.int .i64 0) 8 rfl Tryd.underlying22 info3 rfl (by decide) (by omega) (.slice (some ⟨g5, 0, none⟩) m d5) (todo.take m) (usesOf l b) _ _ _ (fun _ => True) (fun _ => False) rfl rfl HU9.out.todo HP8.out (fun _ _ h => h) (fun _ h => h.elim) (fun _ _ => trivial) HU9.out.bel HU9.out.bel.size ?aL ?_; (case aL => rw [HTL.out]; exact HAL.out); intro v61 w10 ho hb hg hat; have HU10 := Lib.hid (HU9.out.grown ho hb hg); clear ho hb hg hat) | fail)
    go_roundg (gk - 1)
    case measure => have := HG.out; have := HMM.out; omega
    case rel => exact ⟨_, _, by rw [List.length_append, HTL.out]; have := HG.out; have := HMM.out; have := HUS.out; omega, Lib.hid ⟨by have := HD.out.1; omega, HD2.out⟩, HU10⟩
end Go.Proofs.YtccjclmjoegibaaDoor.Ce
namespace Go.Proofs.YtccjclmjoegibaaDoor.Ce
open Go.RowKit Go.Maps Go.Proofs.YtccjclmjoegibaaDoor Go.Proofs.YtccjclmjoegibaaDoorW.PrintWords Go.Proofs.YtccjclmjoegibaaDoorW.PrintLast Go.Proofs.YtccjclmjoegibaaDoorW.PrintMore PCloserOrders Hp
set_option linter.unusedVariables false
set_option linter.unusedSimpArgs false
/-- The reversal loop between two places. -/
theorem rev_l0 (o : List Int) (hl : o.length ≤ 1000000) : ∀ (n : Nat) (x : List Int) (i : Nat), o.length - 2 * i = n → 2 * i ≤ o.length + 1 → x.length = o.length → (∀ p, p < o.length → at_ x p = if p < i ∨ o.length - 1 - p < i then at_ o (o.length - 1 - p) else at_ o p) →
  ∃ k, slices_Reverse_int_int.l0 k x (i : Int) ((o.length : Int) - 1 - i) = some o.reverse := by
 intro n
 induction n using Nat.strongRecOn with
 | _ n ih =>
  intro x i hn hi hx hp
  by_cases hlt : (i : Int) < (o.length : Int) - 1 - i
  ·have hj0 : (0 : Int) ≤ (o.length : Int) - 1 - i := by omega
   have e1 : wrap64 ((i : Int) + 1) = ((i + 1 : Nat) : Int) := by rw [w64s (by omega) (by omega)]; omega
   have e2 : wrap64 (((o.length : Int) - 1 - i) - 1) = (o.length : Int) - 1 - ((i + 1 : Nat) : Int) := by rw [w64s (by omega) (by omega)]; omega
   obtain ⟨j, hj⟩ : ∃ j : Nat, (j : Int) = (o.length : Int) - 1 - i := ⟨((o.length : Int) - 1 - i).toNat, by omega⟩
   have hjn : ((o.length : Int) - 1 - i).toNat = j := by omega
   obtain ⟨k, hk⟩ := ih (o.length - 2 * (i + 1)) (by omega) (swap x i j) (i + 1) rfl (by omega) (by rw [swap_len, hx]) (fun p hpl => by
    rw [at_swap x i j p (by omega) (by omega)]
    by_cases c1 : p = j
    ·rw [if_pos c1, hp i (by omega), if_neg (by omega), if_pos (by omega)]
     congr 1
     omega
    ·rw [if_neg c1]
     by_cases c2 : p = i
     ·rw [if_pos c2, hp j (by omega), if_neg (by omega), if_pos (by omega)]
      congr 1
      omega
     ·rw [if_neg c2, hp p hpl]
      by_cases c3 : p < i ∨ o.length - 1 - p < i
      ·rw [if_pos c3, if_pos (by omega)]
      ·rw [if_neg c3, if_neg (by omega)])
   refine ⟨k + 1, ?_⟩
   rw [slices_Reverse_int_int.l0, if_pos hlt, if_pos hj0, if_pos (by omega), if_pos (by omega), if_pos (by omega), e1, e2]
   rw [hjn, Int.toNat_natCast]
   have hs : (x.set i (rd x ((o.length : Int) - 1 - i))).set j (rd x (i : Int)) = swap x i j := by
    unfold swap
    rw [rd_nat, rd_nat, hjn, Int.toNat_natCast]
   rw [hs]
   exact hk
  ·refine ⟨1, ?_⟩
   rw [slices_Reverse_int_int.l0, if_neg hlt]
   refine congrArg some (list_ext (by rw [hx, List.length_reverse]) (fun p hpl => ?_))
   rw [hx] at hpl
   rw [hp p hpl]
   have hr : at_ o.reverse p = at_ o (o.length - 1 - p) := by
    rw [at_get _ _ (by rw [List.length_reverse]; exact hpl), at_get _ _ (by omega), List.getElem_reverse]
   rw [hr]
   by_cases c : p < i ∨ o.length - 1 - p < i
   ·rw [if_pos c]
   ·rw [if_neg c]
    congr 1
    omega
theorem rev_ok (o : List Int) (hl : o.length ≤ 1000000) : ∃ k, slices_Reverse_int_int.f k o = some o.reverse := by
 obtain ⟨k, hk⟩ := rev_l0 o hl _ o 0 rfl (by omega) rfl (fun p hp => by rw [if_neg (by omega)])
 refine ⟨k, ?_⟩
 unfold slices_Reverse_int_int.f
 rw [w64s (by omega) (by omega)]
 have : ((o.length : Int) - 1 - ((0 : Nat) : Int)) = (o.length : Int) - 1 := by omega
 rw [this] at hk
 exact hk

/-- From a scope one comes up to another one. -/
inductive Up (up : List Int) (top : Int) : Int → Prop
 | here : Up up top top
 | step {s : Int} : 0 ≤ s → s < up.length → Up up top (rd up s) → Up up top s
def UpOk (up : List Int) : Prop := ∀ s : Int, 0 ≤ s → s < up.length → -1 ≤ rd up s ∧ rd up s < s
theorem upB_ok (up : List Int) : ∀ n i : Nat, upB up n i = true → ∀ s : Int, (i : Int) ≤ s → s < i + n → -1 ≤ rd up s ∧ rd up s < s
 | 0, i, _, s, h1, h2 => by omega
 | n + 1, i, h, s, h1, h2 => by
  rw [upB] at h
  simp only [Bool.and_eq_true, decide_eq_true_eq] at h
  by_cases e : s = i
  ·subst e; exact h.1
  ·exact upB_ok up n (i + 1) h.2 s (by omega) (by omega)
theorem scopes_ok (up : List Int) (h : scopesE up = 0) : UpOk up ∧ up.length ≤ 32 := by
 unfold scopesE at h
 by_cases h1 : up.length > 32
 ·rw [if_pos h1] at h; exact absurd h (by decide)
 ·rw [if_neg h1] at h
  by_cases h2 : upB up up.length 0 = true
  ·exact ⟨fun s h0 hs => upB_ok up up.length 0 h2 s (by omega) (by omega), by omega⟩
  ·rw [if_neg h2] at h; exact absurd h (by decide)
theorem Up.cases (up : List Int) (top s : Int) (ht : 0 ≤ top) (h0 : 0 ≤ s) (h1 : s < up.length) : Up up top s ↔ s = top ∨ (rd up s ≥ 0 ∧ Up up top (rd up s)) := by
 constructor
 ·intro h
  cases h with
  | here => exact .inl rfl
  | step _ _ h =>
   refine .inr ⟨?_, h⟩
   cases h with
   | here => exact ht
   | step q _ _ => exact q
 ·rintro (rfl | ⟨_, h⟩)
  ·exact .here
  ·exact .step h0 h1 h
/-- A scope and all beneath it, falling. -/
structure Ben (up : List Int) (top : Int) (r : List Int) : Prop where
 mem : ∀ x, x ∈ r ↔ 0 ≤ x ∧ x < up.length ∧ Up up top x
 fall : r.Pairwise (fun a b => a > b)
theorem ben_l0 (up : List Int) (U : UpOk up) (hl : up.length ≤ 32) (top : Int) (ht : 0 ≤ top) : ∀ (n i : Nat) (is : List Bool) (out : List Int), n = up.length - i → i ≤ up.length → is.length = up.length →
  (∀ j : Int, 0 ≤ j → j < i → (rdOf false is j = true ↔ Up up top j)) → (∀ x, x ∈ out ↔ 0 ≤ x ∧ x < i ∧ Up up top x) → out.Pairwise (fun a b => a < b) → out.length ≤ i →
  ∃ k r, closer_beneath.l0 k top is out up (up.length : Int) (i : Int) = some r ∧ Ben up top r
 | 0, i, is, out, hn, hi, hl1, H, M, S, L => by
  obtain ⟨k, hk⟩ := rev_ok out (by omega)
  have he : i = up.length := by omega
  subst he
  refine ⟨k + 1, out.reverse, ?_, fun x => ?_, ?_⟩
  ·rw [closer_beneath.l0, if_neg (by omega), hk]; rfl
  ·rw [List.mem_reverse, M]
  ·rw [List.pairwise_reverse]; exact S
 | n + 1, i, is, out, hn, hi, hl1, H, M, S, L => by
  have hw : wrap64 ((i : Int) + 1) = ((i + 1 : Nat) : Int) := by rw [w64s (by omega) (by omega)]; omega
  have hb : i < is.length := by omega
  have hset : ∀ (v : Bool) (j : Int), 0 ≤ j → rdOf false (is.set (i : Int).toNat v) j = if j = i then v else rdOf false is j := fun v j h0 => rdOf_set is (i : Int) v j (by omega) (by omega) h0
  have hups := U (i : Int) (by omega) (by omega)
  have key : ∀ v : Bool, (v = true ↔ Up up top (i : Int)) → ∃ k r, (if rdOf false (is.set (i : Int).toNat v) (i : Int) = true then (if out.length < 17592186044416 then (closer_beneath.l0 k top (is.set (i : Int).toNat v) (out ++ [(i : Int)]) up (up.length : Int) (wrap64 ((i : Int) + 1))) else none) else closer_beneath.l0 k top (is.set (i : Int).toNat v) out up (up.length : Int) (wrap64 ((i : Int) + 1))) = some r ∧ Ben up top r := by
   intro v hv
   have HH : ∀ j : Int, 0 ≤ j → j < ((i + 1 : Nat) : Int) → (rdOf false (is.set (i : Int).toNat v) j = true ↔ Up up top j) := fun j h0 h1 => by
    rw [hset v j h0]
    by_cases e : j = i
    ·rw [if_pos e, e]; exact hv
    ·rw [if_neg e]; exact H j h0 (by omega)
   rw [hset v (i : Int) (by omega), if_pos rfl, hw]
   cases hvv : v with
   | true =>
    obtain ⟨k, r, h1, h2⟩ := ben_l0 up U hl top ht n (i + 1) (is.set (i : Int).toNat v) (out ++ [(i : Int)]) (by omega) (by omega) (by simpa using hl1) HH (fun x => by
     rw [List.mem_append, M, List.mem_singleton]
     constructor
     ·rintro (⟨a, b, c⟩ | rfl)
      ·exact ⟨a, by omega, c⟩
      ·exact ⟨by omega, by omega, hv.1 hvv⟩
     ·rintro ⟨a, b, c⟩
      by_cases e : x = i
      ·exact .inr e
      ·exact .inl ⟨a, by omega, c⟩) (by
     rw [List.pairwise_append]
     refine ⟨S, by simp, fun a ha b hb => ?_⟩
     rw [List.mem_singleton.1 hb]
     exact ((M a).1 ha).2.1) (by simp; omega)
    rw [hvv] at h1
    exact ⟨k, r, by rw [if_pos rfl, if_pos (by omega)]; exact h1, h2⟩
   | false =>
    obtain ⟨k, r, h1, h2⟩ := ben_l0 up U hl top ht n (i + 1) (is.set (i : Int).toNat v) out (by omega) (by omega) (by simpa using hl1) HH (fun x => by
     rw [M]
     constructor
     ·rintro ⟨a, b, c⟩; exact ⟨a, by omega, c⟩
     ·rintro ⟨a, b, c⟩
      refine ⟨a, ?_, c⟩
      by_cases e : x = i
      ·rw [e] at c; have := hv.2 c; rw [hvv] at this; exact absurd this (by decide)
      ·omega) S (by omega)
    rw [hvv] at h1
    exact ⟨k, r, by rw [if_neg (by decide)]; exact h1, h2⟩
  have hcs := Up.cases up top (i : Int) ht (by omega) (by omega)
  by_cases c1 : (i : Int) = top
  ·obtain ⟨k, r, h1, h2⟩ := key true ⟨fun _ => hcs.2 (.inl c1), fun _ => rfl⟩
   exact ⟨k + 1, r, by rw [closer_beneath.l0, if_pos (by omega), if_pos (by omega), if_pos (by omega), if_pos c1, if_pos (by omega)]; exact h1, h2⟩
  ·by_cases c2 : rd up (i : Int) ≥ 0
   ·obtain ⟨k, r, h1, h2⟩ := key (rdOf false is (rd up (i : Int))) (by
     rw [H _ c2 hups.2, hcs]
     exact ⟨fun q => .inr ⟨c2, q⟩, fun q => q.elim (fun q => absurd q c1) (fun q => q.2)⟩)
    exact ⟨k + 1, r, by rw [closer_beneath.l0, if_pos (by omega), if_pos (by omega), if_pos (by omega), if_neg c1, if_pos c2, if_pos c2, if_pos (by omega), if_pos (by omega)]; exact h1, h2⟩
   ·obtain ⟨k, r, h1, h2⟩ := key false (by
     rw [hcs]
     exact ⟨fun q => absurd q (by decide), fun q => q.elim (fun q => absurd q c1) (fun q => absurd q.1 c2)⟩)
    exact ⟨k + 1, r, by rw [closer_beneath.l0, if_pos (by omega), if_pos (by omega), if_pos (by omega), if_neg c1, if_neg c2, if_pos (by omega)]; exact h1, h2⟩
theorem beneath_is (w : World) (U : Option Addr) (cu : Nat) (up : List Int) (top : Int) (hu : Kd.C (Kd.int .i64) w U up.length up) (hcu : up.length ≤ cu) (ho : UpOk up) (hl : up.length ≤ 32) (ht : 0 ≤ top) :
  ∃ r, Ben up top r ∧ Calls Tryd.prog 28 #[.slice U up.length cu, .int .i64 top] w fun e w' => ∃ v, e = .returned v ∧ Kd.R (Kd.int .i64) 3 w' w.heap.size (fun _ => True) v r ∧ Below w.heap.size w w' := by
 obtain ⟨k, r, h1, h2⟩ := ben_l0 up ho hl top ht up.length 0 (List.replicate up.length false) [] rfl (Nat.zero_le _) (by simp) (fun j h0 h1 => by omega) (fun x => by simp; omega) List.Pairwise.nil (Nat.zero_le _)
 refine ⟨r, h2, closer_beneath.calls k U cu up top r w hu hcu ?_⟩
 unfold closer_beneath.f
 rw [if_pos (by omega), if_pos (by omega), Int.toNat_natCast]
 exact h1
theorem Ben.len {up : List Int} {top : Int} {r : List Int} (B : Ben up top r) : r.length ≤ up.length := by
 have hn : r.Nodup := B.fall.imp (fun h => by omega)
 have := nodup_len r ((List.range up.length).map Int.ofNat) hn (fun x hx => by
  obtain ⟨h0, h1, _⟩ := (B.mem x).1 hx
  exact List.mem_map.2 ⟨x.toNat, List.mem_range.2 (by omega), by show ((x.toNat : Nat) : Int) = x; omega⟩)
 simpa using this
end Go.Proofs.YtccjclmjoegibaaDoor.Ce
namespace Go.Proofs.YtccjclmjoegibaaDoor.Ce
open Go.RowKit Go.Maps Go.Proofs.YtccjclmjoegibaaDoor Go.Proofs.YtccjclmjoegibaaDoorW.PrintWords Go.Proofs.YtccjclmjoegibaaDoorW.PrintLast Go.Proofs.YtccjclmjoegibaaDoorW.PrintMore PCloserOrders Hp
attribute [local go_sem] max2_int min2_int max_two min_two max_three min_three max_four min_four
set_option linter.unusedVariables false
set_option linter.unusedSimpArgs false
theorem rd_L6_nat (M : List (List Bool)) (a : Int) : rd_L6 M a = rd_L6 M (a.toNat : Int) := rfl
theorem rdOf_nat (r : List Bool) (a : Int) : rdOf false r a = rdOf false r (a.toNat : Int) := rfl
theorem Found.rch {l : List S33} {M : List (List Bool)} (F : Found l M) (a b : Int) (h : rdOf false (rd_L6 M a) b = true) : Rch l (a.toNat : Int) (b.toNat : Int) := by
 rw [rd_L6_nat, rdOf_nat] at h
 have ha : a.toNat < l.length := by
  rcases Nat.lt_or_ge a.toNat l.length with q | q
  ·exact q
  ·have : rd_L6 M (a.toNat : Int) = [] := by
    unfold rd_L6
    rw [Int.toNat_natCast, List.getD_eq_getElem?_getD, List.getElem?_eq_none (by rw [F.len]; exact q)]
    rfl
   rw [this] at h
   exact absurd h (by simp [rdOf])
 have hr := F.rows (a.toNat : Int) (by omega) (by omega)
 have hb : b.toNat < l.length := by
  rcases Nat.lt_or_ge b.toNat l.length with q | q
  ·exact q
  ·have : rdOf false (rd_L6 M (a.toNat : Int)) (b.toNat : Int) = false := by
    unfold rdOf
    rw [Int.toNat_natCast, List.getD_eq_getElem?_getD, List.getElem?_eq_none (by omega)]
    rfl
   rw [this] at h
   exact absurd h (by decide)
 exact (F.is _ _ (by omega) (by omega) (by omega) (by omega)).1 h
theorem Found.of {l : List S33} {M : List (List Bool)} (V : Valid l) (F : Found l M) (a b : Int) (a1 : a.toNat < l.length) (h : Rch l (a.toNat : Int) (b.toNat : Int)) : rdOf false (rd_L6 M a) b = true := by
 rw [rd_L6_nat, rdOf_nat]
 have := h.rng V (by omega) (by omega)
 exact (F.is _ _ (by omega) (by omega) (by omega) (by omega)).2 h
theorem Found.lt {l : List S33} {M : List (List Bool)} (F : Found l M) (a b : Int) (h : rdOf false (rd_L6 M a) b = true) : a.toNat < l.length := by
 rcases Nat.lt_or_ge a.toNat l.length with q | q
 ·exact q
 ·have : rd_L6 M a = [] := by
   unfold rd_L6
   rw [List.getD_eq_getElem?_getD, List.getElem?_eq_none (by rw [F.len]; exact q)]
   rfl
  rw [this] at h
  exact absurd h (by simp [rdOf])
theorem Found.acyc {l : List S33} {M : List (List Bool)} (V : Valid l) (F : Found l M) : Acyc (relP M) := by
 refine ⟨fun a => by unfold relP; cases rdOf false (rd_L6 M a) a <;> rfl, fun a b c h1 h2 => ?_⟩
 unfold relP at h1 h2 ⊢
 simp only [Bool.and_eq_true, Bool.not_eq_true'] at h1 h2 ⊢
 have r1 := F.rch a b h1.1
 have r2 := F.rch b c h2.1
 refine ⟨F.of V a c (F.lt a b h1.1) (r1.trans r2), ?_⟩
 cases h : rdOf false (rd_L6 M c) a with
 | false => rfl
 | true =>
  have r3 := F.rch c a h
  have := F.of V c b (F.lt c a h) (r3.trans r1)
  rw [h2.2] at this
  exact absurd this (by decide)
/-- What is closed, in order: scope by scope. -/
structure ClosedAs (up : List Int) (l : List S33) (top : Int) (o : List Int) : Prop where
 ex : ∃ (bs : List Int) (outs : List (List Int)) (M : List (List Bool)), Ben up top bs ∧ Found l M ∧ outs.length = bs.length ∧ o = outs.flatten ∧ ∀ (j : Nat) b q, bs[j]? = some b → outs[j]? = some q → Hp.Good (aheadB l) (relP M) (allF l b l.length) q
def orderE (up : List Int) (l : List S33) (top : Int) : Int := if checkE up l ≠ 0 then checkE up l else if top < 0 ∨ top ≥ up.length then 1 else 0
theorem parts_valid (sc : Int) (l : List S33) : ∀ n i : Nat, i + n = l.length → partsB sc l.length l n i = true → ∀ a : Int, (i : Int) ≤ a → a < l.length → ∀ x ∈ usesOf l a, 0 ≤ x ∧ x < l.length
 | 0, i, hi, h, a, h1, h2, x, hx => by omega
 | n + 1, i, hi, h, a, h1, h2, x, hx => by
  rw [partsB] at h
  simp only [Bool.and_eq_true] at h
  by_cases e : a = i
  ·subst e
   have h3 := h.1
   unfold rightB at h3
   simp only [Bool.and_eq_true, Bool.not_eq_true'] at h3
   have h4 := h3.2.2.2.2.2
   rw [List.any_eq_false] at h4
   have h5 := h4 x hx
   unfold outB at h5
   simp at h5
   omega
  ·exact parts_valid sc l n (i + 1) (by omega) h.2 a (by omega) h2 x hx
theorem check_ok (up : List Int) (l : List S33) (h : checkE up l = 0) : UpOk up ∧ up.length ≤ 32 ∧ l.length ≤ 256 ∧ Valid l := by
 unfold checkE at h
 by_cases h1 : scopesE up ≠ 0
 ·rw [if_pos h1] at h; exact absurd h h1
 ·rw [if_neg h1] at h
  have h0 : scopesE up = 0 := Classical.not_not.1 h1
  obtain ⟨u1, u2⟩ := scopes_ok up h0
  by_cases h2 : l.length > 256
  ·rw [if_pos h2] at h; exact absurd h (by decide)
  ·rw [if_neg h2] at h
   by_cases h3 : partsB up.length l.length l l.length 0 = true
   ·exact ⟨u1, u2, by omega, fun a a0 a1 x hx => parts_valid up.length l l.length 0 (by omega) h3 a (by omega) a1 x hx⟩
   ·rw [if_neg h3] at h; exact absurd h (by decide)
theorem Good.len {lt P : Int → Int → Bool} {all out : List Int} (G : Hp.Good lt P all out) : out.length ≤ all.length := nodup_len _ _ G.nodup (fun x hx => (G.mem x).1 hx)
theorem flat_len : ∀ (outs : List (List Int)), (∀ q ∈ outs, q.length ≤ 256) → outs.flatten.length ≤ 256 * outs.length
 | [], _ => by simp
 | q :: r, h => by
  have := flat_len r (fun x hx => h x (List.mem_cons_of_mem _ hx))
  have := h q List.mem_cons_self
  simp only [List.flatten_cons, List.length_append, List.length_cons]
  omega
def OrdPost (w : World) (up : List Int) (l : List S33) (top : Int) (rr : Int) (e : Ending) (w' : World) : Prop :=
 ∃ v o, e = .returned (.tuple #[v, .int .i64 rr]) ∧ Kd.R (Kd.int .i64) 3 w' w.heap.size (fun _ => True) v o ∧ Below w.heap.size w w' ∧ (rr ≠ 0 → v = .slice none 0 0 ∧ o = []) ∧ (rr = 0 → ClosedAs up l top o)
set_option maxHeartbeats 8000000 in
set_option maxRecDepth 100000 in
theorem Order_is (w : World) (U : Option Addr) (cu : Nat) (up : List Int) (A : Option Addr) (c : Nat) (l : List S33) (top : Int) (hla : Laid w) (hu : Kd.C (Kd.int .i64) w U up.length up) (hcu : up.length ≤ cu) (hl : Kd.C k33 w A l.length l) (hc : l.length ≤ c) (hus : ∀ x ∈ l, x.f4.length ≤ 1048576) (ht : unS l [] l.length ≤ 1048576) :
  Calls Tryd.prog 9 #[.slice U up.length cu, .slice A l.length c, .int .i64 top] w fun e w' => OrdPost w up l top (orderE up l top) e w' := by
 have HCK := Lib.hid (check_is w U cu up A c l hla hu hcu hl hc hus)
 have HU := Lib.hid (And.intro hu hcu)
 have HL := Lib.hid (And.intro hl hc)
 have HT := Lib.hid ht
 obtain ⟨rr, hrr⟩ : ∃ rr, rr = orderE up l top := ⟨_, rfl⟩
 have HRR := Lib.hid hrr
 rw [← hrr]
 obtain ⟨ce, hce⟩ : ∃ ce, ce = checkE up l := ⟨_, rfl⟩
 have HCE := Lib.hid hce
 rw [← hce] at HCK
 clear hla hu hcu hl hc hus ht hrr hce
 by_cases h0 : ce = 0
 rotate_left
 ·have h0b : (ce != 0) = true := by simpa using h0
  have HD := Lib.hid (show rr = ce by rw [HRR.out, orderE, ← HCE.out, if_pos h0])
  have HNZ := Lib.hid h0
  clear h0
  go_enter Tryd.func9, Tryd.ntmps9
  go_wp2_with fail
  refine HCK.out.mono ?_
  rintro _ w2 ⟨rfl, hb2⟩
  have HB2 := Lib.hid hb2
  clear hb2
  go_wp2_with fail
  try go_quiet (fail)
  go_wp2_with fail
  go_ret2
  exact ⟨_, [], by rw [HD.out]; rfl, Kd.R_nil _ _ _ _ _, HB2.out, fun _ => ⟨rfl, rfl⟩, fun q => absurd (HD.out.symm.trans q) HNZ.out⟩
 subst h0
 have HV := Lib.hid (check_ok up l HCE.out.symm)
 by_cases h1 : top < 0 ∨ top ≥ up.length
 ·have HD := Lib.hid (show rr = 1 by rw [HRR.out, orderE, ← HCE.out, if_neg (by simp), if_pos h1])
  go_enter Tryd.func9, Tryd.ntmps9
  go_wp2_with fail
  refine HCK.out.mono ?_
  rintro _ w2 ⟨rfl, hb2⟩
  have HB2 := Lib.hid hb2
  clear hb2
  by_cases h2 : top < 0
  ·go_wp2_with fail
   go_ret2
   exact ⟨_, [], by rw [HD.out]; rfl, Kd.R_nil _ _ _ _ _, HB2.out, fun _ => ⟨rfl, rfl⟩, fun q => by rw [HD.out] at q; exact absurd q (by decide)⟩
  ·have h3 : top ≥ (up.length : Int) := h1.elim (fun q => absurd q h2) id
   clear h1
   go_wp2_with fail
   go_ret2
   exact ⟨_, [], by rw [HD.out]; rfl, Kd.R_nil _ _ _ _ _, HB2.out, fun _ => ⟨rfl, rfl⟩, fun q => by rw [HD.out] at q; exact absurd q (by decide)⟩
 have HD := Lib.hid (show rr = 0 by rw [HRR.out, orderE, ← HCE.out, if_neg (by simp), if_neg h1])
 have h2 : ¬ top < 0 := fun q => h1 (.inl q)
 have h3 : ¬ top ≥ (up.length : Int) := fun q => h1 (.inr q)
 have HTOP := Lib.hid (show 0 ≤ top by omega)
 clear h1 HRR HCE
 go_enter Tryd.func9, Tryd.ntmps9
 go_wp2_with fail
 refine HCK.out.mono ?_
 rintro _ w2 ⟨rfl, hb2⟩
 have HB2 := Lib.hid hb2
 have HUS := Lib.hid (uses_is w2 A c l (Kd.C_below HL.out.1 hb2) HL.out.2 HV.out.2.2.1 HV.out.2.2.2 HT.out)
 clear hb2 HCK
 go_wp2_with fail
 refine HUS.out.mono ?_
 rintro _ w3 ⟨UM, cm, M, rfl, hM, hF, hb3⟩
 have HB3 := Lib.hid (below_step HB2.out hb3)
 have HF := Lib.hid hF
 have HM := Lib.hid hM
 obtain ⟨bs, hben, hbc⟩ := beneath_is w3 U cu up top (Kd.C_below HU.out.1 HB3.out) HU.out.2 HV.out.1 HV.out.2.1 HTOP.out
 have HBEN := Lib.hid hben
 have HBC := Lib.hid hbc
 clear hM hF hb3 hben hbc HUS HB2
 go_wp2_with fail
 refine HBC.out.mono ?_
 rintro _ w4 ⟨v4, rfl, hv4, hb4⟩
 have HB4 := Lib.hid (below_step HB3.out hb4)
 have HM4 := Lib.hid (Kd.C_below HM.out hb4)
 have HV4 := Lib.hid hv4
 clear hb4 hv4 HBC HM HB3
 obtain ⟨B4, d4, rfl⟩ := Kd.R_slice HV4.out
 go_wp2_with fail
 go_loopg [10, 33] bs.length (fun gk v10 v33 wr => ∃ (j : Nat) (outs : List (List Int)) (ou : List Int), v33 = .int .i64 j ∧ gk = bs.length - j ∧ Hid (j ≤ bs.length ∧ outs.length = j ∧ ∀ (t : Nat) b q, bs[t]? = some b → outs[t]? = some q → Hp.Good (aheadB l) (relP M) (allF l b l.length) q) ∧ Hid (Kd.R (Kd.int .i64) 3 wr w4.heap.size (fun _ => True) v10 ou) ∧ Hid (ou = outs.flatten) ∧ Hid (Below w4.heap.size w4 wr))
 case atStart => exact ⟨0, [], [], rfl, by simp, Lib.hid ⟨Nat.zero_le _, rfl, fun t b q _ h => absurd h (by simp)⟩, Lib.hid (Kd.R_nil _ _ _ _ _), Lib.hid rfl, Lib.hid (Below.refl _ _)⟩
 case round =>
  obtain ⟨j, outs, ou, rfl, rfl, HJ, HR, HOU, HB⟩ := hrel
  obtain ⟨B7, d7, rfl⟩ := Kd.R_slice HR.out
  by_cases hlt : j < bs.length
  rotate_left
  ·have hlt' : ¬ (j : Int) < (bs.length : Int) := by omega
   have HCL := Lib.hid (show ClosedAs up l top ou from ⟨bs, outs, M, HBEN.out, HF.out, by have := HJ.out; omega, HOU.out, HJ.out.2.2⟩)
   have HRF := Lib.hid (Kd.R_lower HR.out HB4.out.size)
   have HBF := Lib.hid (below_step HB4.out HB.out)
   clear hlt
   go_wp2_with fail
   try go_quiet (fail)
   go_wp2_with fail
   go_ret2
   exact ⟨_, ou, by rw [HD.out]; rfl, HRF.out, HBF.out, fun q => absurd HD.out q, fun _ => HCL.out⟩
  have hlt' : (j : Int) < (bs.length : Int) := by omega
  have HBL := Lib.hid (show bs.length ≤ 32 from Nat.le_trans HBEN.out.len HV.out.2.1)
  have hwj : wrap64 ((j : Int) + 1) = ((j + 1 : Nat) : Int) := by
   have := HBL.out
   rw [← i64_w, IntWalk.i64_in _ (by omega)]; omega
  obtain ⟨ab, rfl, qb⟩ := Kd.at_int (Kd.C_below (Kd.R_reads' HV4.out).2.2 HB.out) (j : Int) (by omega) hlt'
  rw [Int.toNat_natCast] at qb
  obtain ⟨b, hb⟩ : ∃ b, b = rd bs (j : Int) := ⟨_, rfl⟩
  have HBJ := Lib.hid (show bs[j]? = some b by
   rw [hb, rd_nat, Int.toNat_natCast, at_get bs j hlt]
   exact List.getElem?_eq_getElem hlt)
  rw [← hb] at qb
  have HLTT := Lib.hid hlt
  have HORD := Lib.hid (order_is wr A c l b UM cm M (Kd.C_below HL.out.1 (below_step HB4.out HB.out)) HL.out.2 (Kd.C_below HM4.out HB.out) HV.out.2.2.1 HF.out.len HF.out.rows (HF.out.acyc HV.out.2.2.2))
  have HFL := Lib.hid (show ou.length ≤ 256 * outs.length from HOU.out ▸ flat_len outs (fun q hq => by
   obtain ⟨t, ht, e⟩ := List.mem_iff_getElem.1 hq
   have htb : t < bs.length := by have := HJ.out.2.1; omega
   have hg := HJ.out.2.2 t bs[t] q (List.getElem?_eq_getElem htb) (by rw [List.getElem?_eq_getElem ht, e])
   have h5 := Good.len hg
   have h6 := allF_len l bs[t] l.length
   have := HV.out.2.2.1
   omega))
  clear hb hlt
  go_wp2_with fail
  refine HORD.out.mono ?_
  rintro _ w6 ⟨v6, o6, rfl, hr6, hb6, hg6⟩
  have HG6 := Lib.hid hg6
  have HO6 := Lib.hid (show o6.length ≤ 256 by have h5 := Good.len hg6; have h6 := allF_len l b l.length; have := HV.out.2.2.1; omega)
  have HB6 := Lib.hid (below_step HB.out hb6)
  have HR6 := Lib.hid (Kd.R_below HR.out hb6)
  obtain ⟨A6, c6, rfl, hc6, hC6⟩ := Kd.R_reads hr6
  have HC6 := Lib.hid hC6
  clear hr6 hb6 hg6 hC6 hc6 HORD qb
  go_wp2_with (first | ((with_reducible refine gate_builtin (b := .append) (xs := #[.tmp 37, .tmp 41]) rfl ?_); (try (refine gate_guard (by rfl) ?_; dsimp only)); at_builtin; refine Kd.R_append_rows (Kd.int .i64) (w0 := w4) w4.heap.size rfl (.tmp 37) (.tmp 41) 22 3 (.int .i64 0) 8 rfl Tryd.underlying22 info3 rfl (by decide) (by omega) (.slice B7 ou.length d7) ou o6 _ _ _ (fun _ => True) (fun _ => False) rfl rfl HR6.out HC6.out (fun _ _ h => h) (fun _ h => h.elim) (fun _ _ => trivial) HB6.out HB6.out.size (by have := HFL.out; have := HO6.out; have := HJ.out.2.1; have := HBL.out; have := HLTT.out; omega) ?_; intro v42 w10 ho hb hg hat; have HO := Lib.hid ho; have HB7 := Lib.hid hb; clear ho hb hg hat) | fail)
  go_roundg (bs.length - (j + 1))
  case measure => have := HLTT.out; omega
  case rel => exact ⟨j + 1, outs ++ [o6], ou ++ o6, by first | rfl | rw [hwj], rfl, Lib.hid ⟨HLTT.out, by rw [List.length_append, HJ.out.2.1]; rfl, fun t b' q h1 h2 => by
   rcases Nat.lt_or_ge t outs.length with z | z
   ·rw [List.getElem?_append_left z] at h2
    exact HJ.out.2.2 t b' q h1 h2
   ·have ht : t = j := by
     have hl2 : t < (outs ++ [o6]).length := by
      rcases Nat.lt_or_ge t (outs ++ [o6]).length with y | y
      ·exact y
      ·rw [List.getElem?_eq_none y] at h2; exact absurd h2 (by simp)
     rw [List.length_append, HJ.out.2.1] at hl2
     have := HJ.out.2.1
     simp at hl2
     omega
    subst ht
    rw [HBJ.out] at h1
    injection h1 with h1
    subst h1
    rw [List.getElem?_append_right z, HJ.out.2.1, Nat.sub_self] at h2
    injection h2 with h2
    subst h2
    exact HG6.out⟩, HO, Lib.hid (by rw [List.flatten_append, List.flatten_singleton, HOU.out]), HB7⟩
end Go.Proofs.YtccjclmjoegibaaDoor.Ce
