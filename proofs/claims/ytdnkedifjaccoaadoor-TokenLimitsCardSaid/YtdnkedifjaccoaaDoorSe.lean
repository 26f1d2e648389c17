/- The stable sort, in memory. -/
import Derived.Test.YtdnkedifjaccoaaDoorSd
import Derived.KernelRfl
namespace Go.Proofs.YtdnkedifjaccoaaDoor.Ce
open Go.Shelf Go.RowKit Go.Lib Go.Sort Go.Proofs Go.Proofs.YtdnkedifjaccoaaDoorW.PrintWords
set_option linter.unusedVariables false
set_option linter.unusedSimpArgs false
def lay20Ren : Go.Shelf.Ren := ⟨fun | 20 => 55 | n => n, fun | 22 => 58 | 24 => 63 | 25 => 74 | n => n, fun n => n⟩
theorem lay20 : SlLaysF.n20 Tryd.prog lay20Ren := {
  mixed := by kernel_rfl
  f20 := ⟨Tryd.f55.name, by decide, by kernel_rfl⟩
  t0 := by kernel_rfl
  a0 := fun _ => by kernel_rfl
  z0 := fun _ => by kernel_rfl
  v0 := fun _ => by kernel_rfl
  t3 := by kernel_rfl
  a3 := fun _ => by kernel_rfl
  z3 := fun _ => by kernel_rfl
  v3 := fun _ => by kernel_rfl
  t4 := by kernel_rfl
  a4 := fun _ => by kernel_rfl
  z4 := fun _ => by kernel_rfl
  v4 := fun _ => by kernel_rfl
  t22 := by kernel_rfl
  a22 := fun _ => by kernel_rfl
  z22 := fun _ => by kernel_rfl
  v22 := fun _ => by kernel_rfl
  a24 := fun _ => by kernel_rfl
  z24 := fun _ => by kernel_rfl
  t25 := by kernel_rfl
  a25 := fun _ => by kernel_rfl
  z25 := fun _ => by kernel_rfl
  v25 := fun _ => by kernel_rfl }
section
variable {α : Type} [Inhabited α]
theorem sym_all (f : α → Int) (enc : α → Value) (hO : OneCell enc) (g : Nat) (cb : Array Value) (blk off cap : Nat) (d0 : Array α) (w : World)
    (eg : ∀ args w, (callFunc g args).run Tryd.prog w = .ok (.enter g args) w) (hcmp : CmpReads Tryd.prog g cb enc (fun x y => f x - f y) blk off d0.size w) (hH : Holds enc w blk off d0) (hsz : d0.size < 1152921504606846976) :
    ∀ k, SymIH f enc g cb blk off cap d0 w k
  | 0 => fun a m b d q h => absurd h (Nat.not_lt_zero _)
  | k + 1 => fun a m b d q h ham hmb hb hz h1 h2 => by
    have ih := sym_all f enc hO g cb blk off cap d0 w eg hcmp hH hsz k
    by_cases e1 : a + 1 = m
    · have := sym_a f enc hO g cb blk off cap a m b d0 d w q eg hcmp hH hz e1 hmb (by rw [hz]; exact hb) (by omega) h1 h2
      rwa [hz] at this
    · by_cases e2 : m + 1 = b
      · have := sym_b f enc hO g cb blk off cap a m b d0 d w q eg hcmp hH hz (by omega) e2 (by rw [hz]; exact hb) (by omega) h1 h2
        rwa [hz] at this
      · obtain ⟨e1', e3', mid, n, p, hN⟩ := sym_nums a m b (by omega) (by omega) (by omega)
        have hI : SymIH f enc g cb blk off cap d0 w (b - a) := fun a' m' b' d' q' h' => ih a' m' b' d' q' (by omega)
        rcases hN.cases with ⟨c1, M, c2, c3⟩ | ⟨c1, M, c3⟩
        · exact sym_c0 f enc hO g cb blk off cap a m b d0 d w q eg hcmp hH hz (by omega) (by omega) hb hsz h1 h2 hI e1' e3' mid n p hN c1 M c2 c3
        · exact sym_c1 f enc hO g cb blk off cap a m b d0 d w q eg hcmp hH hz (by omega) (by omega) hb hsz h1 h2 hI e1' e3' mid n p hN c1 M c3
/-- Merging, in short. -/
theorem sym_is (f : α → Int) (enc : α → Value) (hO : OneCell enc) (g : Nat) (cb : Array Value) (blk off cap : Nat) (d0 : Array α) (w : World)
    (eg : ∀ args w, (callFunc g args).run Tryd.prog w = .ok (.enter g args) w) (hcmp : CmpReads Tryd.prog g cb enc (fun x y => f x - f y) blk off d0.size w) (hH : Holds enc w blk off d0) (hsz : d0.size < 1152921504606846976)
    (a m b : Nat) (d : Array α) (q : Nat) (ham : a < m) (hmb : m < b) (hb : b ≤ d0.size) (hz : d.size = d0.size) (h1 : SortedIn (ltF f) a m d) (h2 : SortedIn (ltF f) m b d) :
    Calls Tryd.prog 56 #[.slice (some ⟨blk, off, none⟩) d0.size cap, .int .i64 a, .int .i64 m, .int .i64 b, .func (.func g) #[] cb] ((putRow enc w blk off d).drewN q) fun e w' => e = .returned (.tuple #[]) ∧ ∃ d', Mgd f a b d d' ∧ ∃ q, w' = (putRow enc w blk off d').drewN q :=
  sym_all f enc hO g cb blk off cap d0 w eg hcmp hH hsz (b - a + 1) a m b d q (Nat.lt_succ_self _) ham hmb hb hz h1 h2
theorem ins_is (f : α → Int) (enc : α → Value) (hO : OneCell enc) (g : Nat) (cb : Array Value) (blk off cap : Nat) (d0 : Array α) (w : World)
    (eg : ∀ args w, (callFunc g args).run Tryd.prog w = .ok (.enter g args) w) (hcmp : CmpReads Tryd.prog g cb enc (fun x y => f x - f y) blk off d0.size w) (hH : Holds enc w blk off d0) (hsz : d0.size < 1152921504606846976)
    (a b : Nat) (d : Array α) (q : Nat) (hab : a ≤ b) (hb : b ≤ d0.size) (hz : d.size = d0.size) :
    Calls Tryd.prog 55 #[.slice (some ⟨blk, off, none⟩) d0.size cap, .int .i64 a, .int .i64 b, .func (.func g) #[] cb] ((putRow enc w blk off d).drewN q) fun e w' => e = .returned (.tuple #[]) ∧ ∃ d', Mgd f a b d d' ∧ ∃ q, w' = (putRow enc w blk off d').drewN q := by
  have hH2 : Holds enc ((putRow enc w blk off d).drewN q) blk off d := holds_putRow enc w blk off d0 d hH hz
  have hpp : ∀ dk : Array α, dk.size = d0.size → putRow enc ((putRow enc w blk off d).drewN q) blk off dk = (putRow enc w blk off dk).drewN q := fun dk hk => by
    show (putRow enc (putRow enc w blk off d) blk off dk).drewN q = _
    rw [putRow_putRow enc w blk off d dk (by rw [hk, hz])]
  have hC2 : CmpReads Tryd.prog g cb enc (fun x y => f x - f y) blk off d.size ((putRow enc w blk off d).drewN q) := fun m os dk hk x y => by
    have := hcmp (q + m) os dk (by rw [hk, hz]) x y
    have e : sortWorld enc ((putRow enc w blk off d).drewN q) blk off m dk os = sortWorld enc w blk off (q + m) dk os := by
      unfold sortWorld
      rw [putRow_ahead, hpp dk (by rw [hk, hz])]
      show grow (((putRow enc w blk off dk).drewN q).drewN m) os = grow ((putRow enc w blk off dk).drewN (q + m)) os
      rw [World.drewN_drewN]
    rw [e]; exact this
  have hcon := Any.insertionSortCmpFunc_one lay20 enc hO (fun x y => f x - f y) g cb blk off cap a b d ((putRow enc w blk off d).drewN q) eg hC2 hH2 hab (by rw [hz]; exact hb) (by omega)
  change Calls Tryd.prog 55 _ _ _ at hcon
  rw [hz] at hcon
  refine hcon.mono ?_
  rintro e w' ⟨he, n, hw⟩
  have hm := ins_mgd (f := f) d a b hab (by rw [hz]; exact hb)
  refine ⟨he, _, hm, q + n, ?_⟩
  rw [hw, show (ltOf fun x y => f x - f y) = ltF f from rfl, hpp _ (by rw [hm.perm.1, hz]), World.drewN_drewN]
/-- A round of the first loop. -/
structure StOk (q a b n gk : Nat) : Prop where
  ea : a = q * 20
  eb : b = q * 20 + 20
  ab : a ≤ b
  w1 : wrap64 ((b : Int) + 20) = ((b + 20 : Nat) : Int)
  me : n - (q + 1) < gk
  up : n ≤ q + 1 + (n - (q + 1))
  a' : b = (q + 1) * 20
  b' : b + 20 = (q + 1) * 20 + 20
theorem StOk.of {q a b n gk : Nat} (ha : a = q * 20) (hb : b = q * 20 + 20) (h : b ≤ n) (hg : n ≤ q + gk) (hz : n < 1000000) : StOk q a b n gk := ⟨ha, hb, by omega, w64 (by omega) (by omega), by omega, by omega, by omega, by omega⟩
/-- A round of merging. -/
structure MgOk (q a b s t c n gk : Nat) : Prop where
  ea : a = q * (2 * s)
  eb : b = a + t
  et : t = 2 * s
  ec : c = a + s
  s0 : 0 < s
  wc : wrap64 ((a : Int) + (s : Int)) = (c : Int)
  wt : wrap64 (2 * (s : Int)) = (t : Int)
  wb : wrap64 ((b : Int) + (t : Int)) = ((b + t : Nat) : Int)
  a' : b = (q + 1) * (2 * s)
  ac : a < c
  cb : c < b
  me : b ≤ n → n - (q + 1) < gk
  up : n ≤ q + 1 + (n - (q + 1))
theorem MgOk.of {q a b s t n gk : Nat} (ha : a = q * (2 * s)) (hb : b = a + t) (ht : t = 2 * s) (h0 : 0 < s) (hs : s < n) (h : a ≤ n) (hg : n ≤ q + gk) (hz : n < 1000000) : MgOk q a b s t (a + s) n gk :=
  ⟨ha, hb, ht, rfl, h0, w64 (by omega) (by omega), w64 (by omega) (by omega), w64 (by omega) (by omega), by rw [Nat.succ_mul]; omega, by omega, by omega, fun hbn => by
    have h1 : q + 1 ≤ (q + 1) * (2 * s) := Nat.le_mul_of_pos_right (q + 1) (by omega)
    rw [Nat.succ_mul, ← ha, ← ht, ← hb] at h1
    omega, by omega⟩
set_option maxHeartbeats 4000000 in
set_option maxRecDepth 1000000 in
theorem stable_is (f : α → Int) (enc : α → Value) (hO : OneCell enc) (g : Nat) (cb : Array Value) (blk off cap : Nat) (d0 : Array α) (w : World)
    (eg : ∀ args w, (callFunc g args).run Tryd.prog w = .ok (.enter g args) w) (hcmp : CmpReads Tryd.prog g cb enc (fun x y => f x - f y) blk off d0.size w) (hH : Holds enc w blk off d0) (hsz : d0.size < 1000000) :
    Calls Tryd.prog 47 #[.slice (some ⟨blk, off, none⟩) d0.size cap, .int .i64 d0.size, .func (.func g) #[] cb] w fun e w' => e = .returned (.tuple #[]) ∧ ∃ d', d'.size = d0.size ∧ SameKeys f d'.toList d0.toList ∧ SortedIn (ltF f) 0 d0.size d' ∧ ∃ q, w' = (putRow enc w blk off d').drewN q := by
  have HI := Lib.hid (fun a b d q hab hb hz => ins_is f enc hO g cb blk off cap d0 w eg hcmp hH (Nat.lt_trans hsz (by decide)) a b d q hab hb hz)
  have HM := Lib.hid (fun a m b d q ham hmb hb hz h1 h2 => sym_is f enc hO g cb blk off cap d0 w eg hcmp hH (Nat.lt_trans hsz (by decide)) a m b d q ham hmb hb hz h1 h2)
  have hst : w = (putRow enc w blk off d0).drewN 0 := (putRow_self enc w blk off d0 hH).symm
  have HS := Lib.hid hst
  obtain ⟨n, hn⟩ : ∃ n, n = d0.size := ⟨_, rfl⟩
  rw [← hn] at hsz
  rw [← hn]
  rw [← hn] at HI HM
  have HN := Lib.hid (And.intro hn hsz)
  clear hst eg hcmp hH hsz hO hn
  go_enter Tryd.func47, Tryd.ntmps47
  go_wp2
  go_loopg [7, 8] n (fun gk va vb wr => ∃ (q a b q2 : Nat) (dk : Array α), va = .int .i64 (a : Int) ∧ vb = .int .i64 (b : Int) ∧ Hid (a = q * 20 ∧ b = q * 20 + 20) ∧ a ≤ n ∧ n ≤ q + gk ∧ wr = (putRow enc w blk off dk).drewN q2 ∧ Hid (Ins20 f n q d0 dk))
  case atStart => exact ⟨0, 0, 20, 0, d0, rfl, rfl, Lib.hid ⟨rfl, rfl⟩, Nat.zero_le _, by omega, HS.out, Lib.hid (Ins20.start n d0)⟩
  case round =>
    obtain ⟨q, a, b, q2, dk, rfl, rfl, HAB, hq, hg, rfl, HK⟩ := hrel
    by_cases hlt : b ≤ n
    · have hltz : (b : Int) ≤ (n : Int) := Int.ofNat_le.2 hlt
      have HO := Lib.hid (StOk.of HAB.out.1 HAB.out.2 hlt hg HN.out.2)
      have HQ := Lib.hid (HI.out a b dk q2 HO.out.ab hlt (HK.out.size.trans HN.out.1.symm))
      have HL := Lib.hid hlt
      clear hlt hq hg
      go_wp2_with (first | (go_at_call 55; refine HQ.out.mono ?_; rintro _ w2 ⟨rfl, d2, hm2, p2, rfl⟩; have H2 := Lib.hid hm2; clear hm2))
      go_roundg (n - (q + 1))
      case measure => exact HO.out.me
      case rel =>
        have h1 := H2.out
        rw [HO.out.ea, HO.out.eb] at h1
        exact ⟨q + 1, b, b + 20, p2, d2, rfl, (by first | exact congrArg _ HO.out.w1 | rfl), Lib.hid ⟨HO.out.a', HO.out.b'⟩, HL.out, HO.out.up, rfl, Lib.hid (HK.out.step h1)⟩
    · have hltz : ¬ (b : Int) ≤ (n : Int) := fun e => hlt (Int.ofNat_le.1 e)
      have HQ := Lib.hid (HI.out a n dk q2 hq (Nat.le_refl _) (HK.out.size.trans HN.out.1.symm))
      have HL := Lib.hid (And.intro hlt hq)
      clear hlt hq hg
      go_wp2_with (first | (go_at_call 55; refine HQ.out.mono ?_; rintro _ w2 ⟨rfl, d2, hm2, p2, rfl⟩; have H2 := Lib.hid hm2; clear hm2))
      have hB := HK.out.last (d' := d2) (by rw [← HAB.out.1]; exact HL.out.2) (by have := HL.out.1; have := HAB.out; omega) (by rw [← HAB.out.1]; exact H2.out)
      have HB := Lib.hid (show d2.size = n ∧ _ ∧ _ from ⟨hB.1.trans HN.out.1.symm, hB.2⟩)
      clear hB hltz HQ H2 HK HL HAB
      go_loopg [6] n (fun gk vs wr => ∃ (s q2 : Nat) (dk : Array α), vs = .int .i64 (s : Int) ∧ 0 < s ∧ n ≤ s + gk ∧ wr = (putRow enc w blk off dk).drewN q2 ∧ Hid (dk.size = n ∧ SameKeys f dk.toList d0.toList ∧ Bk f s n dk))
      case atStart => exact ⟨20, p2, d2, rfl, by decide, by omega, rfl, HB⟩
      case round =>
        obtain ⟨s, q3, dk, rfl, hs0, hg, rfl, HK⟩ := hrel
        by_cases hlt : s < n
        · have hltz : (s : Int) < (n : Int) := Int.ofNat_lt.2 hlt
          obtain ⟨t, ht⟩ : ∃ t, t = 2 * s := ⟨_, rfl⟩
          have HWT := Lib.hid (show wrap64 (2 * (s : Int)) = (t : Int) from w64 (by omega) (by have := HN.out.2; omega))
          have HWT2 := Lib.hid (show wrap64 ((s : Int) * 2) = (t : Int) from w64 (by omega) (by have := HN.out.2; omega))
          have HSL := Lib.hid (And.intro hs0 (And.intro hlt (And.intro ht (And.intro (show n - t < gk by omega) (And.intro (show 0 < t by omega) (show n ≤ t + (n - t) by omega))))))
          clear ht hs0 hlt hg
          go_wp2_with fail
          rw [HWT.out]
          go_loopg [7, 8] n (fun gk va vb wr => ∃ (q a b q2 : Nat) (dj : Array α), va = .int .i64 (a : Int) ∧ vb = .int .i64 (b : Int) ∧ Hid (a = q * (2 * s) ∧ b = a + t) ∧ a ≤ n ∧ n ≤ q + gk ∧ wr = (putRow enc w blk off dj).drewN q2 ∧ Hid (Half f s n q d0 dj))
          case atStart => exact ⟨0, 0, t, q3, dk, rfl, (by first | exact congrArg _ HWT.out | rfl), Lib.hid ⟨(Nat.zero_mul _).symm, (Nat.zero_add _).symm⟩, Nat.zero_le _, by omega, rfl, Lib.hid (Half.start HK.out.2.2 (HK.out.1.trans HN.out.1) HK.out.2.1)⟩
          case round =>
            obtain ⟨q, a, b, q4, dj, rfl, rfl, HAB, ha, hg, rfl, HJ⟩ := hrel
            have HO := Lib.hid (MgOk.of HAB.out.1 HAB.out.2 HSL.out.2.2.1 HSL.out.1 HSL.out.2.1 ha hg HN.out.2)
            obtain ⟨c, hc⟩ : ∃ c, c = a + s := ⟨_, rfl⟩
            rw [← hc] at HO
            have hwc := HO.out.wc
            by_cases hlt : b ≤ n
            · have hltz : (b : Int) ≤ (n : Int) := Int.ofNat_le.2 hlt
              have hf := HJ.out.firstPart (by rw [← HO.out.ea, ← HO.out.ec]; exact Nat.le_trans (Nat.le_of_lt HO.out.cb) hlt)
              have hs2 := HJ.out.secondPart
              rw [← HO.out.ea, ← HO.out.ec] at hf
              rw [← HO.out.ea, ← HO.out.ec, ← HO.out.et, ← HO.out.eb, Nat.min_eq_left hlt] at hs2
              have HQ := Lib.hid (HM.out a c b dj q4 HO.out.ac HO.out.cb hlt (HJ.out.size.trans HN.out.1.symm) hf hs2)
              have HL := Lib.hid hlt
              clear hc hlt ha hg hf hs2
              go_wp2_with (first | (go_at_call 56; refine HQ.out.mono ?_; rintro _ w2 ⟨rfl, d2, hm2, p2, rfl⟩; have H2 := Lib.hid hm2; clear hm2))
              go_roundg (n - (q + 1))
              case measure => exact HO.out.me HL.out
              case rel =>
                exact ⟨q + 1, b, b + t, p2, d2, rfl, (by first | exact congrArg _ HO.out.wb | (rw [HO.out.wt]; exact congrArg _ HO.out.wb) | rfl), Lib.hid ⟨HO.out.a', rfl⟩, HL.out, HO.out.up, rfl, Lib.hid (HJ.out.step (b := b) (by rw [← HO.out.ea, ← HO.out.et, ← HO.out.eb, Nat.min_eq_left HL.out]) (by rw [← HO.out.ea]; exact H2.out))⟩
            · have hltz : ¬ (b : Int) ≤ (n : Int) := fun e => hlt (Int.ofNat_le.1 e)
              by_cases hcn : c < n
              · have hcnz : (c : Int) < (n : Int) := Int.ofNat_lt.2 hcn
                have hf := HJ.out.firstPart (by rw [← HO.out.ea, ← HO.out.ec]; exact Nat.le_of_lt hcn)
                have hs2 := HJ.out.secondPart
                have hmin : min b n = n := Nat.min_eq_right (Nat.le_of_lt (Nat.lt_of_not_le hlt))
                rw [← HO.out.ea, ← HO.out.ec] at hf
                rw [← HO.out.ea, ← HO.out.ec, ← HO.out.et, ← HO.out.eb, hmin] at hs2
                have HQ := Lib.hid (HM.out a c n dj q4 HO.out.ac hcn (Nat.le_refl _) (HJ.out.size.trans HN.out.1.symm) hf hs2)
                have HL := Lib.hid (And.intro hmin (show n ≤ b from Nat.le_of_lt (Nat.lt_of_not_le hlt)))
                clear hc hlt ha hg hf hs2 hcn hmin
                go_wp2_with (first | (go_at_call 56; refine HQ.out.mono ?_; rintro _ w2 ⟨rfl, d2, hm2, p2, rfl⟩; have H2 := Lib.hid hm2; clear hm2))
                have hJ := HJ.out.step (b := n) (by rw [← HO.out.ea, ← HO.out.et, ← HO.out.eb, HL.out.1]) (by rw [← HO.out.ea]; exact H2.out)
                have hD := hJ.done (by rw [← HO.out.a']; exact HL.out.2)
                go_roundg (n - t)
                case measure => exact HSL.out.2.2.2.1
                case rel => exact ⟨t, p2, d2, (by first | exact congrArg _ HWT2.out | rfl), HSL.out.2.2.2.2.1, HSL.out.2.2.2.2.2, rfl, Lib.hid ⟨hJ.size.trans HN.out.1.symm, hJ.same, HO.out.et ▸ hD⟩⟩
              · have hcnz : ¬ (c : Int) < (n : Int) := fun e => hcn (Int.ofNat_lt.1 e)
                have hD := HJ.out.last (by rw [← HO.out.ea, ← HO.out.ec]; exact Nat.le_of_not_lt hcn)
                have HD := Lib.hid hD
                clear hc hlt ha hg hcn hD
                go_wp2_with fail
                go_roundg (n - t)
                case measure => exact HSL.out.2.2.2.1
                case rel => exact ⟨t, q4, dj, (by first | exact congrArg _ HWT2.out | rfl), HSL.out.2.2.2.2.1, HSL.out.2.2.2.2.2, rfl, Lib.hid ⟨HJ.out.size.trans HN.out.1.symm, HJ.out.same, HO.out.et ▸ HD.out⟩⟩
        · have hltz : ¬ (s : Int) < (n : Int) := fun e => hlt (Int.ofNat_lt.1 e)
          have HL := Lib.hid hlt
          clear hlt hg hs0
          go_wp2_with fail
          go_end0
          exact ⟨rfl, dk, HK.out.1, HK.out.2.1, HK.out.2.2.all (by have := HL.out; omega), q3, rfl⟩
end
end Go.Proofs.YtdnkedifjaccoaaDoor.Ce
