/- The walk of the law RetryTrips, its two loops: it answers true and leaves what was there as it was: for all numbers. -/
import Derived.Test.YtklccnnmdlckfaaWlTrips
namespace Go.Proofs.Ytklccnnmdlckfaa.LwTrips
open Go.RowKit Go.Maps Go.Proofs.Ytklccnnmdlckfaa Go.Proofs.Ytklccnnmdlckfaa.Br Go.Proofs.YtklccnnmdlckfaaW.PrintWords Go.Proofs.YtklccnnmdlckfaaW.PrintLast Go.Proofs.YtklccnnmdlckfaaW.PrintMore

/-- The first loop's keep. -/
structure L1 (w wr : World) (b m b2 m2 n k : Nat) (s : Brk) (D : DataW Unit) (limit rest at_ : Int) : Prop where
  one : Full w wr b m n s D
  two : Full w wr b2 m2 0 (fresh limit rest) (.map [])
  emp : Emp D
  st : St limit rest k s at_
  a1 : 0 ≤ at_
  a2 : at_ ≤ 1000 * k
  hn : n ≤ k
  apart : ∀ i, Own b m i → i ≠ b2 ∧ i ≠ m2

theorem other {w wr w' : World} {b m b2 m2 n : Nat} {s : Brk} {D : DataW Unit} (h : Full w wr b2 m2 n s D) (ha : ∀ i, Own b m i → i ≠ b2 ∧ i ≠ m2) (hb : w.heap.size ≤ b) (hm : w.heap.size ≤ m) (k : Chg (Own b m) wr w') : Full w w' b2 m2 n s D :=
  h.chg k (fun i hi => by rcases hi with rfl | rfl <;> assumption) (fun e => (ha _ e).1 rfl) (fun e => (ha _ e).2 rfl)

/-- A round's asking. -/
theorem r_ask {w wr : World} {b m b2 m2 n k : Nat} {s : Brk} {D : DataW Unit} {limit rest at_ : Int} (h : L1 w wr b m b2 m2 n k s D limit rest at_) (l1 : 1 ≤ limit) (l2 : limit ≤ 12) (r1 : 1 ≤ rest) (r2 : rest ≤ 1000) (hk : k < 40) :
    Calls Try.prog 34 #[.pointer (some ⟨b, 0, none⟩), .int .i64 at_] wr fun e w' => e = .returned (.tuple #[.int .i64 (k + 1), .bool true, .int .i64 0]) ∧
      ∃ s1 ep, Full w w' b m (n + 1) s1 (D.put (.int .i64 (k + 1)) (.lit (.int .i64 ep))) ∧ Mid limit rest k s1 ep at_ ∧ Full w w' b2 m2 0 (fresh limit rest) (.map []) :=
  (ask_st h.one h.emp h.st ⟨l1, l2, r1, r2, hk, h.a1, h.a2⟩ (by have := h.hn; omega)).mono fun _ _ ⟨e, ⟨s1, ep, h1, h2⟩, hc⟩ => ⟨e, s1, ep, h1, h2, other h.two h.apart h.one.hb h.one.hm hc⟩

/-- A round's telling. -/
theorem r_tell {w wr : World} {b m b2 m2 n k : Nat} {s : Brk} {D : DataW Unit} {limit rest at_ ep : Int} (h : Full w wr b m n s (D.put (.int .i64 (k + 1)) (.lit (.int .i64 ep)))) (h2 : Full w wr b2 m2 0 (fresh limit rest) (.map [])) (ha : ∀ i, Own b m i → i ≠ b2 ∧ i ≠ m2) (hD : Emp D) (hT : Maps.Tidy D) (hs : Mid limit rest k s ep at_) (R : Run limit rest k at_) :
    Calls Try.prog 36 #[.pointer (some ⟨b, 0, none⟩), .int .i64 (k + 1), .bool false, .int .i64 at_] wr fun e w' => e = .returned (.int .i64 0) ∧
      ∃ s1 D1, Full w w' b m n s1 D1 ∧ Emp D1 ∧ Aft limit rest k s1 at_ ∧ Full w w' b2 m2 0 (fresh limit rest) (.map []) :=
  (tell_st h hD hT hs R).mono fun _ _ ⟨e, ⟨s1, D1, h1, h3, h4⟩, hc⟩ => ⟨e, s1, D1, h1, h3, h4, other h2 ha h.hb h.hm hc⟩

set_option maxRecDepth 100000 in
set_option maxHeartbeats 2000000 in
theorem walk (x y z : Int) (w : World) (hx : (Lit.int .i64 x).wf = true) (hy : (Lit.int .i64 y).wf = true) (hz : (Lit.int .i64 z).wf = true) :
    Calls Try.prog 9 #[.int .i64 x, .int .i64 y, .int .i64 z] w fun e w' => e = .returned (.bool true) ∧ Below w.heap.size w w' := by
  have HX := Lib.hid (And.intro hx (And.intro hy hz))
  clear hx hy hz
  go_enter Try.func9, Try.ntmps9
  go_wp2_with fail
  refine (works_any needs _).mono ?_
  rintro _ w1 ⟨rfl, hb⟩
  have HB := Lib.hid hb
  clear hb
  go_wp2_with fail
  refine (among_c _ x 12 (by omega) (by omega) HX.out.1).mono ?_
  rintro _ _ ⟨r1, rfl, a1, a2, n1, rfl⟩
  go_wp2_with fail
  refine (among_c _ y 1000 (by omega) (by omega) HX.out.2.1).mono ?_
  rintro _ _ ⟨r2, rfl, b1, b2, n2, rfl⟩
  go_wp2_with fail
  refine (among_c _ z 40 (by omega) (by omega) HX.out.2.2).mono ?_
  rintro _ _ ⟨r3, rfl, c1, c2, n3, rfl⟩
  go_wp2_with fail
  refine (new_good _ (1 + r1) (1 + r2) (by omega) (by omega)).mono ?_
  rintro _ w2 ⟨b, m, rfl, kA, kM, kB, kb, km⟩
  have HB2 := Lib.hid (HB.out.trans (((below_drewN w1 (n1 + n2 + n3)).trans kB).mono HB.out.size))
  have HF := Lib.hid (show Full w w2 b m 0 (fresh (1 + r1) (1 + r2)) (.map []) from ⟨kA, kM, HB2.out, Nat.le_trans HB.out.size kb, Nat.le_trans HB.out.size km⟩)
  clear kA kM kB kb km
  go_wp2_with fail
  refine (new_good _ (1 + r1) (1 + r2) (by omega) (by omega)).mono ?_
  rintro _ w3 ⟨b', m', rfl, kA, kM, kB, kb, km⟩
  have hA := blk_lt HF.out.blk
  have hM := HF.out.map.lt
  have HL := Lib.hid (show L1 w w3 b m b' m' 0 0 (fresh (1 + r1) (1 + r2)) (.map []) (1 + r1) (1 + r2) 0 from
    ⟨HF.out.of_below kB, ⟨kA, kM, HB2.out.trans (kB.mono HB2.out.size), Nat.le_trans HB2.out.size kb, Nat.le_trans HB2.out.size km⟩, emp_empty, Or.inl ⟨by simp; omega, rfl, rfl⟩, by omega, by omega, Nat.le_refl _, fun i hi => by rcases hi with rfl | rfl <;> constructor <;> omega⟩)
  clear kA kM kB kb km hA hM HF HB2 HB HX
  have g1 : 1 ≤ 1 + r1 := by omega
  have g2 : 1 + r1 ≤ 12 := by omega
  have g3 : 1 ≤ 1 + r2 := by omega
  have g4 : 1 + r2 ≤ 1000 := by omega
  clear a1 a2 b1 b2
  generalize 1 + r1 = limit at *
  generalize 1 + r2 = rest at *
  go_wp2_with fail
  go_loopw [11, 63] (fun v i wr => ∃ (k : Nat) (at_ : Int), (k : Int) ≤ r3 ∧ i = .int .i64 k ∧ v = .int .i64 at_ ∧ ∃ n s D, Hid (L1 w wr b m b' m' n k s D limit rest at_)) (fun _ i _ => (r3 - intOf i).toNat)
  case atStart => exact ⟨0, 0, by omega, rfl, rfl, 0, _, _, HL⟩
  case round =>
    obtain ⟨k, at_, hk, rfl, rfl, n, s, D, HR⟩ := hrel
    clear HL
    by_cases hlt : (k : Int) < r3
    · have hk40 : k < 40 := by omega
      go_wp2_with fail
      refine (r_ask HR.out g1 g2 g3 g4 hk40).mono ?_
      rintro _ w4 ⟨rfl, s1, ep, k1, k2, k3⟩
      have HA := Lib.hid (And.intro k1 (And.intro k2 k3))
      have ha1 := HR.out.a1
      have ha2 := HR.out.a2
      clear k1 k2 k3
      have HT := Lib.hid (r_tell HA.out.1 HA.out.2.2 HR.out.apart HR.out.emp HR.out.one.tidy HA.out.2.1 ⟨g1, g2, g3, g4, hk40, HR.out.a1, HR.out.a2⟩)
      go_wp2_with (go_at_call 36; refine HT.out.mono ?_; rintro _ w5 ⟨rfl, s2, D2, k1, k2, k3, k4⟩; have HC := Lib.hid (And.intro k1 (And.intro k2 (And.intro k3 k4))); clear k1 k2 k3 k4)
      refine (state_f HC.out.1).mono ?_
      rintro _ w6 ⟨rfl, k1, k2⟩
      have H2 := Lib.hid (other HC.out.2.2.2 HR.out.apart HR.out.one.hb HR.out.one.hm k2)
      have HN := Lib.hid HR.out.hn
      have HP := Lib.hid HR.out.apart
      have HE := Lib.hid HC.out.2.1
      rcases HC.out.2.2.1 with ⟨q1, rfl, rfl⟩ | ⟨q1, e2, rfl, q2, q3⟩
      · have HD := Lib.hid k1
        clear k1 k2 HC HT HA HR
        go_wp2_with fail
        go_roundw
        case rel => exact ⟨k + 1, 0, by omega, by go_num, rfl, n + 1, _, D2, ⟨HD.out, H2.out, HE.out, Or.inl ⟨by omega, by simp, rfl⟩, by omega, by omega, by have := HN.out; omega, HP.out⟩⟩
        case measure => simp [intOf]; omega
      · have HD := Lib.hid k1
        clear k1 k2 HC HT HA HR
        have q1' : ¬ ((k : Int) + 1 < limit) := by omega
        go_wp2_with fail
        refine (ask_early HD.out ⟨g1, g2, g3, g4, hk40, ha1, ha2⟩).mono ?_
        rintro _ w7 ⟨rfl, k1, k2⟩
        have H3 := Lib.hid (other H2.out HP.out HD.out.hb HD.out.hm k2)
        have HD' := Lib.hid k1
        clear k1 k2 HD H2
        go_wp2_with fail
        go_roundw
        case rel => exact ⟨k + 1, at_ + rest, by omega, by go_num, rfl, n + 1, _, D2, ⟨HD'.out, H3.out, HE.out, Or.inr ⟨by omega, by omega, by omega, at_ + rest - 1, e2, by simp, by omega, by omega, by omega, by omega⟩, by omega, by omega, by have := HN.out; omega, HP.out⟩⟩
        case measure => simp [intOf]; omega
    · have HF := Lib.hid (And.intro HR.out.two HR.out.one.below)
      clear HR
      have HS := Lib.hid (show Full w wr b' m' 0 (Sc limit rest 0) (.map []) from HF.out.1)
      clear HF
      go_wp2_with fail
      go_loopw [147] (fun i wr => ∃ k : Nat, (k : Int) ≤ r3 ∧ i = .int .i64 k ∧ ∃ n D, Hid (Full w wr b' m' n (Sc limit rest k) D ∧ Emp D ∧ n ≤ k)) (fun i _ => (r3 - intOf i).toNat)
      case atStart => exact ⟨0, by omega, rfl, 0, _, ⟨HS.out, emp_empty, Nat.le_refl _⟩⟩
      case round =>
        obtain ⟨k, hk, rfl, n, D, HR⟩ := hrel
        clear HS
        by_cases hlt : (k : Int) < r3
        · have hk40 : k < 40 := by omega
          go_wp2_with fail
          refine (ask_sc HR.out.1 HR.out.2.1 (by have := HR.out.2.2; omega) hk40).mono ?_
          rintro _ w4 ⟨rfl, k1, k2⟩
          have HT := Lib.hid (tell_sc k1 HR.out.2.1 HR.out.1.tidy hk40 g3)
          clear k1 k2
          go_wp2_with (go_at_call 36; refine HT.out.mono ?_; rintro _ w5 ⟨rfl, ⟨D2, k1, k2⟩, k3⟩; have HC := Lib.hid (And.intro k1 k2); clear k1 k2 k3)
          refine (state_f HC.out.1).mono ?_
          rintro _ w6 ⟨rfl, k1, k2⟩
          have HD := Lib.hid k1
          clear k1 k2 HT
          go_wp2_with fail
          go_roundw
          case rel => exact ⟨k + 1, by omega, by go_num, n + 1, D2, ⟨HD.out, HC.out.2, by have := HR.out.2.2; omega⟩⟩
          case measure => simp [intOf]; omega
        · go_wp2_with fail
          go_ret
          exact ⟨rfl, HR.out.1.below⟩
end Go.Proofs.Ytklccnnmdlckfaa.LwTrips
