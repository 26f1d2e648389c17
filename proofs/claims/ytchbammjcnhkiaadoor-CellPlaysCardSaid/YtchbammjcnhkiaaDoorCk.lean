/- The wait behind failures; what End makes of a cell. -/
import Derived.Test.YtchbammjcnhkiaaDoorCj
import Derived.Deep.LoopGhost
namespace Go.Proofs.YtchbammjcnhkiaaDoor.Ce
open Go.RowKit Go.Maps Go.Proofs.YtchbammjcnhkiaaDoor Go.Proofs.YtchbammjcnhkiaaDoorW.PrintWords Go.Proofs.YtchbammjcnhkiaaDoorW.PrintLast Go.Proofs.YtchbammjcnhkiaaDoorW.PrintMore PCellPlays
attribute [local go_sem] max2_int min2_int max_two min_two max_three min_three
def pz (cap factor : Int) : Nat → Int → Int
  | 0, n => n
  | k + 1, n => if cap ≤ n then n else pz cap factor k (n * factor)
theorem pz_stop (cap factor : Int) : ∀ (k : Nat) (n : Int), cap ≤ n → pz cap factor k n = n
  | 0, n, h => rfl
  | k + 1, n, h => by rw [pz, if_pos h]
def pauseB (s : Cel) (f : Int) : Int := min (pz s.cap s.factor (f - 1).toNat s.base) s.cap
theorem pz_low (cap factor : Int) (hf : 0 ≤ factor) : ∀ (k : Nat) (n : Int), 0 ≤ n → 0 ≤ pz cap factor k n
  | 0, n, h => h
  | k + 1, n, h => by
    rw [pz]
    split
    · exact h
    · exact pz_low cap factor hf k _ (Int.mul_nonneg h hf)
/-- A policy by which one waits. -/
structure Pol (s : Cel) : Prop where
  b0 : 0 ≤ s.base
  b1 : s.base ≤ s.cap
  c1 : s.cap ≤ 1099511627776
  f0 : 0 ≤ s.factor
  f1 : s.factor ≤ 16
theorem pause_low {s : Cel} (h : Pol s) (f : Int) : 0 ≤ pauseB s f := by
  have := pz_low s.cap s.factor h.f0 (f - 1).toNat _ h.b0
  have h1 := h.b0
  have h2 := h.b1
  unfold pauseB
  omega
theorem pause_high {s : Cel} (_h : Pol s) (f : Int) : pauseB s f ≤ s.cap := by
  unfold pauseB
  omega
set_option maxRecDepth 100000 in
theorem pause_is (w : World) (b : Nat) (s : Cel) (u v : Value) (f : Int) (h : At w b s u v) (hp : Pol s) (hf : 0 ≤ f) (hf2 : f ≤ 1000) :
    Calls Tryd.prog 27 #[.pointer (some ⟨b, 0, none⟩), .int .i64 f] w fun e w' => e = .returned (.int .i64 (pauseB s f)) ∧ ∃ n, w' = w.drewN n := by
  obtain ⟨-, -, f2, f3, f4, -⟩ := h.facts
  have HV : ∀ r, r = pz s.cap s.factor (f - 1).toNat s.base → min r s.cap = pauseB s f := fun r hr => by rw [hr]; rfl
  have HV := Lib.hid HV
  have hb0 := hp.b0
  have hb1 := hp.b1
  have HC := Lib.hid (And.intro hp.c1 (And.intro hp.f0 hp.f1))
  generalize hz : pauseB s f = z at HV ⊢
  clear h hp hz
  obtain ⟨a, tr, ba, fa, ca, q5, q6, q7, q8, q9, q10, q11⟩ := s
  dsimp only at *
  have HB := Lib.hid (And.intro hb0 hb1)
  clear hb0 hb1
  obtain ⟨m, hm⟩ : ∃ m : Int, m = f - 1 := ⟨_, rfl⟩
  have hw1 : wrap64 (f - 1) = m := by rw [← i64_w, IntWalk.i64_in _ (by omega)]; omega
  rw [← hm] at HV
  have hm1 : -1 ≤ m := by omega
  have hm2 : m ≤ 1000 := by omega
  have HM := Lib.hid (And.intro hm1 hm2)
  clear hm hf hf2 hm1 hm2
  go_enter Tryd.func27, Tryd.ntmps27
  go_wp2_with fail
  rw [hw1]
  go_loopg [5, 13] m.toNat (fun gk v5 v13 wr => ∃ (i n : Int), v5 = .int .i64 n ∧ v13 = .int .i64 i ∧ gk = m.toNat - i.toNat ∧ 0 ≤ i ∧ 0 ≤ n ∧ (i ≤ m ∨ i = 0) ∧ (∃ d, wr = w.drewN d) ∧ Hid (pz ca fa m.toNat ba = pz ca fa (m.toNat - i.toNat) n))
  case atStart => exact ⟨0, ba, rfl, rfl, by simp, by omega, HB.out.1, .inr rfl, ⟨0, rfl⟩, Lib.hid (by simp)⟩
  case round =>
    obtain ⟨i, n, rfl, rfl, rfl, h0, hn0, him, ⟨d, rfl⟩, HZ⟩ := hrel
    by_cases hi : i < m
    · by_cases hc : ca ≤ n
      · have HR := Lib.hid (HV.out n (by rw [HZ.out, pz_stop _ _ _ _ hc]))
        clear him
        go_wp2_with fail
        all_goals
          go_ret
          refine ⟨?_, _, rfl⟩
          rw [← HR.out]
          refine congrArg Ending.returned ?_
          refine congrArg (Value.int IntKind.i64) ?_
          omega
      · have hnf : n * fa ≤ 1099511627776 * 16 := by
          have := HC.out
          exact Int.mul_le_mul (by omega) this.2.2 this.2.1 (by omega)
        have hnf0 : 0 ≤ n * fa := Int.mul_nonneg hn0 HC.out.2.1
        have hwn : wrap64 (n * fa) = n * fa := by rw [← i64_w, IntWalk.i64_in _ (by omega)]
        have hwi : wrap64 (i + 1) = i + 1 := by have := HM.out; rw [← i64_w, IntWalk.i64_in _ (by omega)]
        have HN := Lib.hid (show pz ca fa m.toNat ba = pz ca fa (m.toNat - (i + 1).toNat) (n * fa) by
          rw [HZ.out, show m.toNat - i.toNat = (m.toNat - (i + 1).toNat) + 1 by omega, pz, if_neg hc])
        have HQ := Lib.hid (And.intro hnf0 (And.intro h0 hi))
        clear hnf hnf0 him
        go_wp2_with fail
        go_roundg (m.toNat - (i + 1).toNat)
        case measure => have := HQ.out; omega
        case rel =>
          have := HQ.out
          exact ⟨i + 1, n * fa, by first | rfl | rw [hwn], by first | rfl | rw [hwi], rfl, by omega, this.1, .inl (by omega), ⟨_, rfl⟩, HN⟩
    · have HR := Lib.hid (HV.out n (by rw [HZ.out, show m.toNat - i.toNat = 0 by omega]; rfl))
      clear him
      go_wp2_with fail
      all_goals
        go_ret
        refine ⟨?_, _, rfl⟩
        rw [← HR.out]
        refine congrArg Ending.returned ?_
        refine congrArg (Value.int IntKind.i64) ?_
        omega
end Go.Proofs.YtchbammjcnhkiaaDoor.Ce
