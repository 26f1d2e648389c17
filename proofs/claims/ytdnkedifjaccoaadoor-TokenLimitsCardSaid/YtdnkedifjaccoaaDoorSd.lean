/- The stable sort's merge, in memory: two longer parts, the second way. -/
import Derived.Test.YtdnkedifjaccoaaDoorSc
namespace Go.Proofs.YtdnkedifjaccoaaDoor.Ce
open Go.Shelf Go.RowKit Go.Lib Go.Sort Go.Proofs Go.Proofs.YtdnkedifjaccoaaDoorW.PrintWords
set_option linter.unusedVariables false
set_option linter.unusedSimpArgs false
section
variable {α : Type} [Inhabited α]
set_option maxHeartbeats 100000000 in
set_option maxRecDepth 1000000 in
theorem sym_c1 (f : α → Int) (enc : α → Value) (hO : OneCell enc) (g : Nat) (cb : Array Value) (blk off cap a m b : Nat) (d0 d : Array α) (w : World) (q : Nat)
    (eg : ∀ args w, (callFunc g args).run Tryd.prog w = .ok (.enter g args) w) (hcmp : CmpReads Tryd.prog g cb enc (fun x y => f x - f y) blk off d0.size w) (hH : Holds enc w blk off d0) (hz : d.size = d0.size) (ham : a + 1 < m) (hmb : m + 1 < b) (hb : b ≤ d0.size) (hsz : d0.size < 1152921504606846976)
    (h1 : SortedIn (ltF f) a m d) (h2 : SortedIn (ltF f) m b d) (hIH : SymIH f enc g cb blk off cap d0 w (b - a)) (e1 e3 mid n p : Nat) (hN : SymNums a m b e1 e3 mid n p) (hcase : ¬ mid < m) (M : Mid a m b mid n a m) (hgs : m ≤ a + (m - a)) :
    Calls Tryd.prog 56 #[.slice (some ⟨blk, off, none⟩) d0.size cap, .int .i64 a, .int .i64 m, .int .i64 b, .func (.func g) #[] cb] ((putRow enc w blk off d).drewN q) fun e w' => e = .returned (.tuple #[]) ∧ ∃ d', Mgd f a b d d' ∧ ∃ q, w' = (putRow enc w blk off d').drewN q := by
  have hcl0 := hO.cells
  simp only [Value.cells] at hcl0
  have HO0 := Lib.hid hO
  have HH := Lib.hid hH
  have HC := Lib.hid (fun X x y hX m k => cmp_at hcmp X x y hX m k)
  have HIH := Lib.hid hIH
  have hm1 := hN.m1
  have he2 := hN.e2
  have hm2 := hN.m2
  have he4 := hN.e4
  have hw1 := hN.w1
  have hw2 := hN.w2
  have hw3 := hN.w3
  have HS := Lib.hid (And.intro h1 h2)
  have HZ := Lib.hid (And.intro hz (And.intro hb hsz))
  have HP := Lib.hid hN.hp
  clear hN hH hcmp hIH h1 h2 hO
  have HM := Lib.hid M
  have hcz : ¬ (mid : Int) < (m : Int) := fun h => hcase (Int.ofNat_lt.1 h)
  have HGS := Lib.hid hgs
  clear hcase M ham hmb hb hsz hz hgs
  go_enter Tryd.func56, Tryd.ntmps56
  go_wp2_with fail
  try simp only [hw1, hw2, hw3]
  clear hm1 hm2 he2 he4 hw1 hw2 hw3
  go_loopg [20, 21] (m - a) (fun gk vi vj wr => ∃ (s r q2 : Nat), vi = .int .i64 s ∧ vj = .int .i64 r ∧ r ≤ s + gk ∧ wr = (putRow enc w blk off d).drewN q2 ∧ Hid (Srch f n a m d s r))
  case atStart => exact ⟨a, m, q, rfl, rfl, HGS.out, rfl, Lib.hid (HM.out.start d)⟩
  case round =>
    obtain ⟨s, r, q2, rfl, rfl, hg, rfl, HI⟩ := hrel
    by_cases hlt : s < r
    · have hltz : (s : Int) < (r : Int) := by omega
      obtain ⟨z5, z3, z4⟩ := HZ.out
      obtain ⟨c, hc0⟩ : ∃ c, c = (s + r) / 2 := ⟨_, rfl⟩
      have HO1 := SrOk.of HM.out HI.out hc0 hlt hg (Nat.lt_of_le_of_lt z3 z4)
      obtain ⟨pc, hpc⟩ : ∃ pc, pc = n - 1 - c := ⟨_, rfl⟩
      rw [← hpc] at HO1
      have hw := HO1.h.w
      have hwp := HO1.pw
      rw [← HP.out] at hwp
      have hq0 : (0 : Int) ≤ wrap64 ((p : Int) - (c : Int)) := by rw [hwp]; exact Int.natCast_nonneg pc
      have hq2 : (wrap64 ((p : Int) - (c : Int))).toNat = pc := by rw [hwp]; rfl
      have hq3 : wrap64 ((p : Int) - (c : Int)) < (d0.size : Int) := by rw [hwp]; exact Int.ofNat_lt.2 (Nat.lt_of_lt_of_le HO1.pb z3)
      have HO := Lib.hid HO1
      have HCB := Lib.hid (And.intro (Nat.lt_of_lt_of_le HO1.cb (z5.symm ▸ z3)) (Nat.lt_of_lt_of_le HO1.pb (z5.symm ▸ z3)))
      have hHd := holds_putRow enc w blk off d0 d HH.out z5
      obtain ⟨x, hx⟩ : ∃ x, d[pc]! = x := ⟨_, rfl⟩
      obtain ⟨y, hy⟩ : ∃ y, d[c]! = y := ⟨_, rfl⟩
      obtain ⟨cx, fx⟩ := hHd pc HCB.out.2
      obtain ⟨cy, fy⟩ := hHd c HCB.out.1
      rw [hx] at cx
      rw [hy] at cy
      have hh1 : (pc : Int) < (d0.size : Int) := Int.ofNat_lt.2 (z5 ▸ HCB.out.2)
      have ha1 : (c : Int) < (d0.size : Int) := Int.ofNat_lt.2 (z5 ▸ HCB.out.1)
      have hh0 : (0 : Int) ≤ (pc : Int) := Int.natCast_nonneg pc
      have ha0 : (0 : Int) ≤ (c : Int) := Int.natCast_nonneg c
      have hc := HC.out d x y z5 q2
      have cx' : ((putRow enc w blk off d).drewN q2).cell? ⟨blk, off + pc, none⟩ = some (enc x) := cx
      have cy' : ((putRow enc w blk off d).drewN q2).cell? ⟨blk, off + c, none⟩ = some (enc y) := cy
      have HX := Lib.hid hx
      have HY := Lib.hid hy
      clear cx cy fx fy hHd hx hy z3 z4 z5 hc0 hpc hg hlt HO1
      generalize hwq : (putRow enc w blk off d).drewN q2 = wq at cx' cy' hc ⊢
      have HQ := Lib.hid hwq
      clear hwq
      by_cases hlv : f x - f y < 0
      · go_wp2_with fail
        go_big_quiet (first | (go_at_fn g; refine Calls.quiet_of (hc _)))
        go_wp2_with fail
        go_roundg (c - s)
        case measure => exact HO.out.h.m2
        case rel => exact ⟨s, c, _, rfl, (by first | rfl | exact congrArg _ HO.out.h.w), HO.out.h.lo, by rw [← HQ.out, World.drewN_drewN], Lib.hid (HI.out.down HO.out (by rw [HX.out, HY.out]; exact Int.lt_of_sub_neg hlv))⟩
      · go_wp2_with fail
        go_big_quiet (first | (go_at_fn g; refine Calls.quiet_of (hc _)))
        go_wp2_with fail
        rotate_left
        · rename_i hno
          exact absurd hno (by rw [decide_eq_false (Int.not_lt.2 hlv)]; decide)
        go_roundg (r - (c + 1))
        case measure => exact HO.out.h.m1
        case rel => exact ⟨c + 1, r, _, (by first | exact congrArg _ HO.out.h.w1 | (rw [HO.out.h.w]; exact congrArg _ HO.out.h.w1)), rfl, HO.out.h.up, by rw [← HQ.out, World.drewN_drewN], Lib.hid (HI.out.up HO.out (by rw [HX.out, HY.out]; exact Int.le_of_sub_nonneg hlv))⟩
    · have hltz : ¬ (s : Int) < (r : Int) := by omega
      obtain rfl : s = r := Nat.le_antisymm HI.out.sr (Nat.le_of_not_lt hlt)
      have hz := HZ.out
      obtain ⟨hP, hmd⟩ := HM.out.parts HI.out (Nat.le_trans hz.2.1 (Nat.le_of_eq hz.1.symm)) HS.out.1 HS.out.2
      have hwe : wrap64 ((n : Int) - (s : Int)) = ((n - s : Nat) : Int) := HM.out.end_ hP.le (Nat.lt_of_le_of_lt hz.2.1 hz.2.2)
      obtain ⟨e, he⟩ : ∃ e, e = n - s := ⟨_, rfl⟩
      rw [← he] at hP hmd hwe
      have HPP := Lib.hid hP
      have HMD := Lib.hid hmd
      have HE := Lib.hid he
      clear hz hg hlt hP hmd he
      obtain ⟨B1, hB1⟩ : ∃ B : Bool, B = decide (s < m ∧ m < e) := ⟨_, rfl⟩
      have HB1 := Lib.hid hB1
      clear hB1
      go_upto_region 39 with fail
      rw [hwe]
      clear hwe
      go_cut [185] (fun v wx => v = .bool B1 ∧ wx = (putRow enc w blk off d).drewN q2)
      case first =>
       as_aux_lemma =>
        by_cases r1 : s < m
        · have r1z : ((s : Nat) : Int) < ((m : Nat) : Int) := Int.ofNat_lt.2 r1
          by_cases r2 : m < e
          · have r2z : ((m : Nat) : Int) < ((e : Nat) : Int) := Int.ofNat_lt.2 r2
            have HX := Lib.hid (HB1.out.trans (decide_eq_true ⟨r1, r2⟩))
            clear r1 r2
            go_wp2_with fail
            go_meet
            case rel => exact ⟨congrArg Value.bool HX.out.symm, rfl⟩
          · have r2z : ¬ ((m : Nat) : Int) < ((e : Nat) : Int) := fun h => r2 (Int.ofNat_lt.1 h)
            have HX := Lib.hid (HB1.out.trans (decide_eq_false (fun h => r2 h.2)))
            clear r1 r2
            go_wp2_with fail
            go_meet
            case rel => exact ⟨congrArg Value.bool HX.out.symm, rfl⟩
        · have r1z : ¬ ((s : Nat) : Int) < ((m : Nat) : Int) := fun h => r1 (Int.ofNat_lt.1 h)
          have HX := Lib.hid (HB1.out.trans (decide_eq_false (fun h => r1 h.1)))
          clear r1
          go_wp2_with fail
          go_meet
          case rel => exact ⟨congrArg Value.bool HX.out.symm, rfl⟩
      case rest =>
       as_aux_lemma =>
        obtain ⟨rfl, rfl⟩ := hcut
        go_upto_if 185 with fail
        go_cut [] (fun wx => ∃ d2 q3, wx = (putRow enc w blk off d2).drewN q3 ∧ Hid (Tail f a s m e b mid d d2))
        case first =>
         as_aux_lemma =>
          cases hBB : B1 with
          | true =>
            rw [hBB] at HB1
            clear hBB
            have hh := of_decide_eq_true HB1.out.symm
            have hc := rot_is enc HO0.out blk off cap s m e d0 d w q2 (.func (.func g) #[] cb) HH.out HZ.out.1 hh.1 hh.2 (Nat.le_trans HPP.out.le.2.2.2.1 (HPP.out.le.2.2.2.2)) (Nat.lt_trans (HZ.out.1 ▸ HZ.out.2.2) (by decide))
            rw [HZ.out.1] at hc
            have HQ2 := Lib.hid hc
            clear hh hc
            go_wp2_with (first | (go_at_call 63; refine HQ2.out.mono ?_; rintro _ w2 ⟨rfl, d2, hr2, q3, rfl⟩; have HT := Lib.hid (show Tail f a s m e b mid d d2 from ⟨HPP.out, hr2, HMD.out⟩); clear hr2))
            go_meet
            case rel => exact ⟨d2, q3, rfl, HT⟩
          | false =>
            rw [hBB] at HB1
            clear hBB
            have hh := of_decide_eq_false HB1.out.symm
            have HT := Lib.hid (Tail.still HPP.out HMD.out hh)
            clear hh
            go_wp2_with fail
            go_meet
            case rel => exact ⟨d, q2, rfl, HT⟩
        case rest =>
         as_aux_lemma =>
          obtain ⟨d2, q3, rfl, HT⟩ := hcut
          obtain ⟨B2, hB2⟩ : ∃ B : Bool, B = decide (a < s ∧ s < mid) := ⟨_, rfl⟩
          have HB2 := Lib.hid hB2
          clear hB2
          go_upto_region 41 with fail
          go_cut [199] (fun v wx => v = .bool B2 ∧ wx = (putRow enc w blk off d2).drewN q3)
          case first =>
           as_aux_lemma =>
            by_cases r1 : a < s
            · have r1z : ((a : Nat) : Int) < ((s : Nat) : Int) := Int.ofNat_lt.2 r1
              by_cases r2 : s < mid
              · have r2z : ((s : Nat) : Int) < ((mid : Nat) : Int) := Int.ofNat_lt.2 r2
                have HX := Lib.hid (HB2.out.trans (decide_eq_true ⟨r1, r2⟩))
                clear r1 r2
                go_wp2_with fail
                go_meet
                case rel => exact ⟨congrArg Value.bool HX.out.symm, rfl⟩
              · have r2z : ¬ ((s : Nat) : Int) < ((mid : Nat) : Int) := fun h => r2 (Int.ofNat_lt.1 h)
                have HX := Lib.hid (HB2.out.trans (decide_eq_false (fun h => r2 h.2)))
                clear r1 r2
                go_wp2_with fail
                go_meet
                case rel => exact ⟨congrArg Value.bool HX.out.symm, rfl⟩
            · have r1z : ¬ ((a : Nat) : Int) < ((s : Nat) : Int) := fun h => r1 (Int.ofNat_lt.1 h)
              have HX := Lib.hid (HB2.out.trans (decide_eq_false (fun h => r1 h.1)))
              clear r1
              go_wp2_with fail
              go_meet
              case rel => exact ⟨congrArg Value.bool HX.out.symm, rfl⟩
          case rest =>
           as_aux_lemma =>
            obtain ⟨rfl, rfl⟩ := hcut
            go_upto_if 199 with fail
            go_cut [] (fun wx => ∃ d3 q4, wx = (putRow enc w blk off d3).drewN q4 ∧ Hid (Mgd f a mid d2 d3))
            case first =>
             as_aux_lemma =>
              cases hBB : B2 with
              | true =>
                rw [hBB] at HB2
                clear hBB
                have hh := of_decide_eq_true HB2.out.symm
                have HQ3 := Lib.hid (HIH.out a s mid d2 q3 HM.out.short1.1 hh.1 hh.2 (Nat.le_trans HM.out.short1.2.2 HZ.out.2.1) (HT.out.r.size.trans HZ.out.1) HT.out.loS.1 HT.out.loS.2)
                clear hh
                go_wp2_with (first | (go_at_call 56; refine HQ3.out.mono ?_; rintro _ w3 ⟨rfl, d3, hm3, p3, rfl⟩; have H3 := Lib.hid hm3; clear hm3))
                go_meet
                case rel => exact ⟨d3, p3, rfl, H3⟩
              | false =>
                rw [hBB] at HB2
                clear hBB
                have H3 := Lib.hid (HT.out.lo (of_decide_eq_false HB2.out.symm))
                go_wp2_with fail
                go_meet
                case rel => exact ⟨d2, q3, rfl, H3⟩
            case rest =>
             as_aux_lemma =>
              obtain ⟨d3, q4, rfl, H3⟩ := hcut
              obtain ⟨B3, hB3⟩ : ∃ B : Bool, B = decide (mid < e ∧ e < b) := ⟨_, rfl⟩
              have HB3 := Lib.hid hB3
              clear hB3
              go_upto_region 43 with fail
              go_cut [213] (fun v wx => v = .bool B3 ∧ wx = (putRow enc w blk off d3).drewN q4)
              case first =>
               as_aux_lemma =>
                by_cases r1 : mid < e
                · have r1z : ((mid : Nat) : Int) < ((e : Nat) : Int) := Int.ofNat_lt.2 r1
                  by_cases r2 : e < b
                  · have r2z : ((e : Nat) : Int) < ((b : Nat) : Int) := Int.ofNat_lt.2 r2
                    have HX := Lib.hid (HB3.out.trans (decide_eq_true ⟨r1, r2⟩))
                    clear r1 r2
                    go_wp2_with fail
                    go_meet
                    case rel => exact ⟨congrArg Value.bool HX.out.symm, rfl⟩
                  · have r2z : ¬ ((e : Nat) : Int) < ((b : Nat) : Int) := fun h => r2 (Int.ofNat_lt.1 h)
                    have HX := Lib.hid (HB3.out.trans (decide_eq_false (fun h => r2 h.2)))
                    clear r1 r2
                    go_wp2_with fail
                    go_meet
                    case rel => exact ⟨congrArg Value.bool HX.out.symm, rfl⟩
                · have r1z : ¬ ((mid : Nat) : Int) < ((e : Nat) : Int) := fun h => r1 (Int.ofNat_lt.1 h)
                  have HX := Lib.hid (HB3.out.trans (decide_eq_false (fun h => r1 h.1)))
                  clear r1
                  go_wp2_with fail
                  go_meet
                  case rel => exact ⟨congrArg Value.bool HX.out.symm, rfl⟩
              case rest =>
               as_aux_lemma =>
                obtain ⟨rfl, rfl⟩ := hcut
                cases hBB : B3 with
                | true =>
                  rw [hBB] at HB3
                  clear hBB
                  have hh := of_decide_eq_true HB3.out.symm
                  have HQ4 := Lib.hid (HIH.out mid e b d3 q4 HM.out.short1.2.1 hh.1 hh.2 HZ.out.2.1 ((HT.out.size H3.out).trans HZ.out.1) (HT.out.hiS H3.out).1 (HT.out.hiS H3.out).2)
                  clear hh
                  go_wp2_with (first | (go_at_call 56; refine HQ4.out.mono ?_; rintro _ w4 ⟨rfl, d4, hm4, p4, rfl⟩; have H4 := Lib.hid hm4; clear hm4))
                  go_end0
                  exact ⟨rfl, d4, HT.out.fin H3.out H4.out, p4, rfl⟩
                | false =>
                  rw [hBB] at HB3
                  clear hBB
                  have hh := Lib.hid (of_decide_eq_false HB3.out.symm)
                  go_wp2_with fail
                  go_end0
                  exact ⟨rfl, d3, HT.out.hi H3.out hh.out, _, rfl⟩
end
end Go.Proofs.YtdnkedifjaccoaaDoor.Ce
