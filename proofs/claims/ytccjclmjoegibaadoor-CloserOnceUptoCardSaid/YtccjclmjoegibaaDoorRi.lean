/- Whether scopes and parts are right, by the program. -/
import Derived.Test.YtccjclmjoegibaaDoorNa
import Derived.Test.YtccjclmjoegibaaDoorOw
namespace Go.Proofs.YtccjclmjoegibaaDoor.Ce
open Go.RowKit Go.Maps Go.Proofs.YtccjclmjoegibaaDoor Go.Proofs.YtccjclmjoegibaaDoorW.PrintWords Go.Proofs.YtccjclmjoegibaaDoorW.PrintLast Go.Proofs.YtccjclmjoegibaaDoorW.PrintMore PCloserOrders Hp
attribute [local go_sem] max2_int min2_int max_two min_two max_three min_three max_four min_four
set_option linter.unusedVariables false
set_option linter.unusedSimpArgs false
def outB (m n : Int) : Bool := decide (n < 0) || decide (n ≥ m)
theorem fn55_is (w : World) (ad : Addr) (m n : Int) (h : w.cell? ad = some (.int .i64 m)) : Calls Tryd.prog 55 #[.int .i64 n, .pointer (some ad)] w fun e w' => e = .returned (.bool (outB m n)) ∧ w' = w := by
  unfold outB
  by_cases h0 : n < 0
  · rw [decide_eq_true h0]
    go_enter Tryd.func55, Tryd.ntmps55
    go_wp2_with fail
    go_ret
    exact ⟨rfl, rfl⟩
  · rw [decide_eq_false h0]
    go_enter Tryd.func55, Tryd.ntmps55
    go_wp2_with fail
    go_ret
    exact ⟨by simp, rfl⟩
theorem index_is (w : World) (A : Option Addr) (c : Nat) (l : List Int) (ad : Addr) (m : Int) (hr : Kd.C (Kd.int .i64) w A l.length l) (hc : l.length ≤ c) (hm : l.length ≤ 1000000000) (h : w.cell? ad = some (.int .i64 m)) :
    Calls Tryd.prog 56 #[.slice A l.length c, .func (.func 55) #[] #[.pointer (some ad)]] w fun e w' => ∃ r, e = .returned (.int .i64 r) ∧ decide (r ≥ 0) = l.any (outB m) ∧ w' = w := by
  have HR := Lib.hid hr
  have HM := Lib.hid hm
  clear hr hc hm
  go_enter Tryd.func56, Tryd.ntmps56
  go_wp2_with fail
  go_loopg [8] l.length (fun gk v8 wr => ∃ i : Nat, v8 = .int .i64 i ∧ gk = l.length - i ∧ Hid (i ≤ l.length ∧ l.any (outB m) = (l.drop i).any (outB m)) ∧ wr = w)
  case atStart => exact ⟨0, rfl, by simp, Lib.hid ⟨Nat.zero_le _, rfl⟩, rfl⟩
  case round =>
    obtain ⟨i, rfl, rfl, HI, rfl⟩ := hrel
    by_cases hlt : i < l.length
    · have hlt' : (i : Int) < (l.length : Int) := by omega
      have hwi : wrap64 ((i : Int) + 1) = ((i + 1 : Nat) : Int) := by
        have := HM.out
        rw [← i64_w, IntWalk.i64_in _ (by omega)]; omega
      obtain ⟨a7, rfl, q0⟩ := Kd.at_int HR.out (i : Int) (by omega) hlt'
      rw [Int.toNat_natCast] at q0
      have HD := Lib.hid (show l.any (outB m) = (outB m (rd l (i : Int)) || (l.drop (i + 1)).any (outB m)) by
        rw [HI.out.2, drop_at l i hlt, List.any_cons]; rfl)
      generalize rd l (i : Int) = x at *
      have HF := Lib.hid (fn55_is _ ad m x h)
      cases hx : outB m x with
      | true =>
        rw [hx] at HF HD
        go_wp2_with fail
        refine HF.out.mono ?_
        rintro _ w2 ⟨rfl, rfl⟩
        go_wp2_with fail
        go_ret
        exact ⟨_, rfl, by rw [HD.out]; simp, rfl⟩
      | false =>
        rw [hx] at HF HD
        go_wp2_with fail
        refine HF.out.mono ?_
        rintro _ w2 ⟨rfl, rfl⟩
        go_wp2_with fail
        go_roundg (l.length - (i + 1))
        case measure => omega
        case rel => exact ⟨i + 1, by first | rfl | rw [hwi], rfl, Lib.hid ⟨hlt, by rw [HD.out]; simp⟩, rfl⟩
    · have hlt' : ¬ (i : Int) < (l.length : Int) := by omega
      have HD := Lib.hid (show l.any (outB m) = false by rw [HI.out.2, List.drop_eq_nil_of_le (by omega)]; rfl)
      go_wp2_with fail
      go_ret
      exact ⟨-1, rfl, by rw [HD.out]; rfl, rfl⟩
theorem has_out (w : World) (A : Option Addr) (c : Nat) (l : List Int) (ad : Addr) (m : Int) (hr : Kd.C (Kd.int .i64) w A l.length l) (hc : l.length ≤ c) (hm : l.length ≤ 1000000000) (h : w.cell? ad = some (.int .i64 m)) :
    Calls Tryd.prog 37 #[.slice A l.length c, .func (.func 55) #[] #[.pointer (some ad)]] w fun e w' => e = .returned (.bool (l.any (outB m))) ∧ w' = w := by
  have HI := Lib.hid (index_is w A c l ad m hr hc hm h)
  clear hr hc hm h
  go_enter Tryd.func37, Tryd.ntmps37
  go_wp2_with fail
  refine HI.out.mono ?_
  rintro _ w2 ⟨r, rfl, hr, rfl⟩
  have HRR := Lib.hid hr
  clear hr HI
  go_wp2_with fail
  go_ret
  exact ⟨by rw [← HRR.out]; rfl, rfl⟩

def closerB (k : Int) (t : ByteArray) : Bool := if k = 2 ∨ k = 3 then decide (t.size ≤ 4096) else if k = 0 ∨ k = 1 then t.toList == [] else false
theorem closer_is (w : World) (k : Int) (t : ByteArray) : Calls Tryd.prog 40 #[.agg #[.int .i64 k, .string t]] w fun e w' => e = .returned (.bool (closerB k t)) ∧ Below w.heap.size w w' := by
  refine closer_closer.calls k t _ w ?_
  unfold closer_closer.f closerB
  by_cases h2 : k = 2
  · rw [if_pos h2, if_pos (.inl h2)]; exact congrArg some (by rw [decide_eq_decide]; omega)
  · rw [if_neg h2]
    by_cases h3 : k = 3
    · rw [if_pos h3, if_pos (.inr h3)]; exact congrArg some (by rw [decide_eq_decide]; omega)
    · rw [if_neg h3, if_neg (show ¬ (k = 2 ∨ k = 3) by omega)]
      by_cases h0 : k = 0
      · rw [if_pos h0, if_pos (.inl h0)]
      · rw [if_neg h0]
        by_cases h1 : k = 1
        · rw [if_pos h1, if_pos (.inr h1)]
        · rw [if_neg h1, if_neg (show ¬ (k = 0 ∨ k = 1) by omega)]
/-- Is a part right? -/
def rightB (sc pa : Int) (x : S33) : Bool := decide (0 ≤ x.f0) && (decide (x.f0 < sc) && (nameB x.f1 && (closerB x.f5.f0 x.f5.f1 && ((if x.f2 = true then decide (1 ≤ x.f3) && decide (x.f3 ≤ 1099511627776) else decide (x.f3 = 0)) && !x.f4.any (outB pa)))))
set_option maxHeartbeats 4000000 in
theorem right_is (w : World) (x : S33) (A4 : Option Addr) (c4 : Nat) (sc pa : Int) (hla : Laid w) (hr : Kd.C (Kd.int .i64) w A4 x.f4.length x.f4) (hc : x.f4.length ≤ c4) (hm : x.f4.length ≤ 1000000000) :
    Calls Tryd.prog 31 #[.agg #[.int .i64 x.f0, .string x.f1, .bool x.f2, .int .i64 x.f3, .slice A4 x.f4.length c4, .int .i64 x.f5.f0, .string x.f5.f1], .int .i64 sc, .int .i64 pa] w fun e w' => e = .returned (.bool (rightB sc pa x)) ∧ Below w.heap.size w w' := by
  obtain ⟨w2, e2⟩ : ∃ w2, w2 = (w.alloc (.cells #[.int .i64 x.f0, .string x.f1, .bool x.f2, .int .i64 x.f3, .slice A4 x.f4.length c4, .int .i64 x.f5.f0, .string x.f5.f1] 33)).alloc (.cells #[.int .i64 pa] 3) := ⟨_, rfl⟩
  have hb2 : Below w.heap.size w w2 := by rw [e2]; exact below_alloc (below_alloc (Below.refl _ _) _) _
  have k3 : w2.heap[w.heap.size]? = some (.cells #[.int .i64 x.f0, .string x.f1, .bool x.f2, .int .i64 x.f3, .slice A4 x.f4.length c4, .int .i64 x.f5.f0, .string x.f5.f1] 33 (0, 0)) := by rw [e2]; exact blk_alloc (blk_new _ _) _
  have k4 : w2.heap[w.heap.size + 1]? = some (.cells #[.int .i64 pa] 3 (0, 0)) := by
    rw [e2]
    have := blk_new (w.alloc (.cells #[.int .i64 x.f0, .string x.f1, .bool x.f2, .int .i64 x.f3, .slice A4 x.f4.length c4, .int .i64 x.f5.f0, .string x.f5.f1] 33)) (.cells #[.int .i64 pa] 3)
    rw [World.size_alloc] at this
    exact this
  have HB2 := Lib.hid hb2
  have HLA := Lib.hid (hla.below hb2)
  have HK3 := Lib.hid k3
  have HRW := Lib.hid (Kd.C_below hr hb2)
  have HK4 := Lib.hid k4
  have HC := Lib.hid (And.intro hc hm)
  have HNM := Lib.hid (name_is w2 x.f1 (hla.below hb2))
  clear hla hr hc hm hb2 k3 k4
  obtain ⟨rr, hrr⟩ : ∃ rr, rr = rightB sc pa x := ⟨_, rfl⟩
  have HRR := Lib.hid hrr
  rw [← hrr]
  clear hrr
  go_enter Tryd.func31, Tryd.ntmps31
  go_upto_region 1 with fail
  rw [← e2]
  clear e2
  have q0 := (blk_cell HK3.out 0).trans rfl
  have q1 := (blk_cell HK3.out 1).trans rfl
  have q2 := (blk_cell HK3.out 2).trans rfl
  have q3 := (blk_cell HK3.out 3).trans rfl
  have q4 := (blk_cell HK3.out 4).trans rfl
  have q5 := (blk_cell HK3.out 5).trans rfl
  have q6 := (blk_cell HK3.out 6).trans rfl
  have HB0 := Lib.hid (show ∀ b : Bool, (false && b) = false ∧ (true && b) = b from fun b => ⟨rfl, rfl⟩)
  by_cases h0 : x.f0 < 0
  · have HD := Lib.hid (show decide (0 ≤ x.f0) = false by simp; omega)
    go_wp2_with fail
    go_ret
    exact ⟨by rw [HRR.out, rightB, HD.out]; rfl, HB2.out⟩
  have HD0 := Lib.hid (show decide (0 ≤ x.f0) = true by simp; omega)
  by_cases h1 : x.f0 ≥ sc
  · have HD := Lib.hid (show decide (x.f0 < sc) = false by simp; omega)
    go_wp2_with fail
    go_ret
    exact ⟨by rw [HRR.out, rightB, HD0.out, HD.out]; rfl, HB2.out⟩
  have HD1 := Lib.hid (show decide (x.f0 < sc) = true by simp; omega)
  have H0 := Lib.hid h0
  have H1 := Lib.hid h1
  have h0' : decide (x.f0 < 0) = false := decide_eq_false h0
  have h1' : decide (x.f0 ≥ sc) = false := decide_eq_false h1
  obtain ⟨nb, hnb⟩ : ∃ nb, nb = nameB x.f1 := ⟨_, rfl⟩
  have HNB := Lib.hid hnb
  rw [← hnb] at HNM
  clear hnb
  go_wp2_with fail
  refine HNM.out.mono ?_
  rintro _ w3 ⟨rfl, ⟨n, rfl⟩⟩
  clear HNM
  cases nb with
  | false =>
    go_wp2_with fail
    go_ret
    exact ⟨by rw [HRR.out, rightB, HD0.out, HD1.out, ← HNB.out]; rfl, HB2.out.trans (pw_below_drewN (Below.refl _ _) n)⟩
  | true =>
    have HCL := Lib.hid (closer_is (w2.drewN n) x.f5.f0 x.f5.f1)
    obtain ⟨cb, hcb⟩ : ∃ cb, cb = closerB x.f5.f0 x.f5.f1 := ⟨_, rfl⟩
    have HCB := Lib.hid hcb
    rw [← hcb] at HCL
    clear hcb
    go_wp2_with fail
    refine HCL.out.mono ?_
    rintro _ w3 ⟨rfl, hb3⟩
    have HB3 := Lib.hid (below_step (HB2.out.trans (pw_below_drewN (Below.refl _ _) n)) hb3)
    have HK3b := Lib.hid (blk_below (w := w2.drewN n) HK3.out hb3)
    have HK4b := Lib.hid (blk_below (w := w2.drewN n) HK4.out hb3)
    have HRW3 := Lib.hid (Kd.C_below (Kd.C_drewN HRW.out n) hb3)
    clear hb3 HCL q0 q1 q2 q3 q4 q5 q6
    cases cb with
    | false =>
      go_wp2_with fail
      go_ret
      exact ⟨by rw [HRR.out, rightB, HD0.out, HD1.out, ← HNB.out, ← HCB.out]; rfl, HB3.out⟩
    | true =>
      have q2 := (blk_cell HK3b.out 2).trans rfl
      have q3 := (blk_cell HK3b.out 3).trans rfl
      have q4 := (blk_cell HK3b.out 4).trans rfl
      have q8 := (blk_cell HK4b.out 0).trans rfl
      have HOUT := Lib.hid (has_out w3 A4 c4 x.f4 ⟨w.heap.size + 1, 0, none⟩ pa HRW3.out HC.out.1 HC.out.2 q8)
      obtain ⟨ob, hob⟩ : ∃ ob, ob = x.f4.any (outB pa) := ⟨_, rfl⟩
      have HOB := Lib.hid hob
      rw [← hob] at HOUT
      clear hob
      cases hf2 : x.f2 with
      | true =>
        rw [hf2] at q2
        by_cases e0 : x.f3 < 1
        · have HE := Lib.hid (show (decide (1 ≤ x.f3) && decide (x.f3 ≤ 1099511627776)) = false by simp; omega)
          go_wp2_with fail
          go_ret
          exact ⟨by rw [HRR.out, rightB, HD0.out, HD1.out, ← HNB.out, ← HCB.out, if_pos hf2, HE.out]; rfl, HB3.out⟩
        by_cases e1 : x.f3 > 1099511627776
        · have HE := Lib.hid (show (decide (1 ≤ x.f3) && decide (x.f3 ≤ 1099511627776)) = false by simp; omega)
          go_wp2_with fail
          go_ret
          exact ⟨by rw [HRR.out, rightB, HD0.out, HD1.out, ← HNB.out, ← HCB.out, if_pos hf2, HE.out]; rfl, HB3.out⟩
        have HE := Lib.hid (show (decide (1 ≤ x.f3) && decide (x.f3 ≤ 1099511627776)) = true by simp; omega)
        go_wp2_with fail
        refine HOUT.out.mono ?_
        rintro _ w4 ⟨rfl, rfl⟩
        go_wp2_with fail
        go_ret
        exact ⟨by rw [HRR.out, rightB, HD0.out, HD1.out, ← HNB.out, ← HCB.out, if_pos hf2, HE.out, ← HOB.out]; rfl, HB3.out⟩
      | false =>
        rw [hf2] at q2
        by_cases e0 : x.f3 = 0
        · have HE := Lib.hid (show decide (x.f3 = 0) = true by simp [e0])
          rw [e0] at q3
          go_wp2_with fail
          refine HOUT.out.mono ?_
          rintro _ w4 ⟨rfl, rfl⟩
          go_wp2_with fail
          go_ret
          exact ⟨by rw [HRR.out, rightB, HD0.out, HD1.out, ← HNB.out, ← HCB.out, if_neg (by rw [hf2]; decide), HE.out, ← HOB.out]; rfl, HB3.out⟩
        · have HE := Lib.hid (show decide (x.f3 = 0) = false by simp [e0])
          have eb : (x.f3 != 0) = true := by simpa using e0
          go_wp2_with fail
          go_ret
          exact ⟨by rw [HRR.out, rightB, HD0.out, HD1.out, ← HNB.out, ← HCB.out, if_neg (by rw [hf2]; decide), HE.out]; rfl, HB3.out⟩
end Go.Proofs.YtccjclmjoegibaaDoor.Ce
