/- Each ready part beneath is closed once, no other one; the places of parts tell nothing where they ended one behind the other: the walk of CloserOnce. -/
import Derived.Test.YtccjclmjoegibaaDoorWp
import Derived.Deep.RegionHeld3
import Derived.Deep.RegionLaw
namespace Go.Proofs.YtccjclmjoegibaaDoor.Ce
open Go.RowKit Go.Maps Go.Proofs.YtccjclmjoegibaaDoor Go.Proofs.YtccjclmjoegibaaDoorW.PrintWords Go.Proofs.YtccjclmjoegibaaDoorW.PrintLast Go.Proofs.YtccjclmjoegibaaDoorW.PrintMore PCloserOrders Hp
attribute [local go_sem] max2_int min2_int max_two min_two max_three min_three max_four min_four
set_option linter.unusedVariables false
set_option linter.unusedSimpArgs false
def ApartTo (l : List S33) (n : Int) : Prop := ∀ a b : Int, 0 ≤ a → a < n → 0 ≤ b → b < n → (rd_T33 l a).f2 = true → (rd_T33 l b).f2 = true → (rd_T33 l a).f3 = (rd_T33 l b).f3 → a = b
def Clash (l : List S33) (k i : Int) : Prop := (rd_T33 l k).f2 = true ∧ (rd_T33 l i).f2 = true ∧ (rd_T33 l k).f3 = (rd_T33 l i).f3
theorem ApartTo.next {l : List S33} {i : Nat} (h : ApartTo l i) (hc : ∀ k : Nat, k < i → ¬ Clash l k i) : ApartTo l ((i + 1 : Nat) : Int) := by
  intro a b a0 a1 b0 b1 ra rb he
  by_cases ea : a = i
  · by_cases eb : b = i
    · omega
    · refine absurd ?_ (hc b.toNat (by omega))
      rw [Int.toNat_of_nonneg b0]
      subst ea
      exact ⟨rb, ra, he.symm⟩
  · by_cases eb : b = i
    · refine absurd ?_ (hc a.toNat (by omega))
      rw [Int.toNat_of_nonneg a0]
      subst eb
      exact ⟨ra, rb, he⟩
    · exact h a b a0 (by omega) b0 (by omega) ra rb he
set_option maxHeartbeats 8000000 in
set_option maxRecDepth 100000 in
theorem walk_conce (w : World) (U : Option Addr) (cu : Nat) (up : List Int) (A : Option Addr) (c : Nat) (l : List S33) (top : Int) (hla : Laid w) (hu : Kd.C (Kd.int .i64) w U up.length up) (hcu : up.length ≤ cu) (hl : Kd.C k33 w A l.length l) (hc : l.length ≤ c) (hus : ∀ x ∈ l, x.f4.length ≤ 1048576) (ht : unS l [] l.length ≤ 1048576) :
    Calls Tryd.prog 4 #[.slice U up.length cu, .slice A l.length c, .int .i64 top] w fun e w' => e = .returned (.bool true) ∧ Below w.heap.size w w' := by
  have HW := Lib.hid (works_is w hla)
  have HO := Lib.hid (fun w2 (hb : Below w.heap.size w w2) => Order_is w2 U cu up A c l top (hla.below hb) (Kd.C_below hu hb) hcu (Kd.C_below hl hb) hc hus ht)
  have HU := Lib.hid (And.intro hu hcu)
  have HL := Lib.hid (And.intro hl hc)
  have HT := Lib.hid (And.intro hla (And.intro hus ht))
  clear hla hu hcu hl hc hus ht
  go_enter Tryd.func4, Tryd.ntmps4
  go_wp2_with fail
  refine HW.out.mono ?_
  rintro _ w2 ⟨rfl, hb2⟩
  have HB2 := Lib.hid hb2
  have HO2 := Lib.hid (HO.out w2 hb2)
  clear hb2 HO HW
  go_wp2_with fail
  refine HO2.out.mono ?_
  rintro _ w3 ⟨v, o, rfl, hr3, hb3, hne, hcl⟩
  have HB3 := Lib.hid (below_step HB2.out hb3)
  have HR3 := Lib.hid hr3
  have HCL := Lib.hid hcl
  have HNE := Lib.hid hne
  clear hr3 hb3 hne hcl HO2 HB2
  obtain ⟨oe, hoe⟩ : ∃ oe, oe = orderE up l top := ⟨_, rfl⟩
  have HOE := Lib.hid hoe
  rw [← hoe] at HCL HNE ⊢
  clear hoe
  by_cases h0 : oe = 0
  rotate_left
  · obtain ⟨rfl, rfl⟩ := HNE.out h0
    have h0b : (oe != 0) = true := by simpa using h0
    clear h0
    go_wp2_with fail
    go_ret
    exact ⟨rfl, HB3.out⟩
  have HC := Lib.hid (HCL.out h0)
  have HZ := Lib.hid (order_zero (HOE.out.symm.trans h0))
  have HV := Lib.hid (check_ok up l HZ.out.1)
  have HPS := Lib.hid ((check_parts up l).1 HZ.out.1).2.2
  subst h0
  clear HNE HCL HOE
  obtain ⟨Ao, co, rfl⟩ := Kd.R_slice HR3.out
  have HNO := Lib.hid (show o.length ≤ 256 from by
    have h1 := nodup_len o ((List.range l.length).map Int.ofNat) HC.out.nodup (fun x hx => by
      obtain ⟨h0, h1, _⟩ := (HC.out.mem x).1 hx
      exact List.mem_map.2 ⟨x.toNat, List.mem_range.2 (by omega), by show ((x.toNat : Nat) : Int) = x; omega⟩)
    have h2 := HV.out.2.2.1
    simp at h1
    omega)
  go_wp2_with fail
  go_loopg [9] l.length (fun gk v9 wr => ∃ i : Nat, v9 = .int .i64 i ∧ gk = l.length - i ∧ Hid (i ≤ l.length ∧ ApartTo l i) ∧ Hid (Below w3.heap.size w3 wr))
  case atStart => exact ⟨0, rfl, by simp, Lib.hid ⟨Nat.zero_le _, fun a b a0 a1 => by omega⟩, Lib.hid (Below.refl _ _)⟩
  case round =>
    obtain ⟨i, rfl, rfl, HI, HB⟩ := hrel
    by_cases hi : i < l.length
    · have hi' : (i : Int) < (l.length : Int) := by omega
      have hwi : wrap64 ((i : Int) + 1) = ((i + 1 : Nat) : Int) := by
        have := HV.out.2.2.1
        rw [← i64_w, IntWalk.i64_in _ (by omega)]; omega
      have HII := Lib.hid hi
      have HWI := Lib.hid hwi
      clear hi hwi
      go_wp2_with fail
      go_loopg [10, 11] o.length (fun gk v10 v11 wr2 => ∃ k : Nat, v10 = .int .i64 (((o.take k).countP (fun y => y == (i : Int)) : Nat) : Int) ∧ v11 = .int .i64 k ∧ gk = o.length - k ∧ Hid (k ≤ o.length) ∧ Hid (Below w3.heap.size w3 wr2))
      case atStart => exact ⟨0, by simp, rfl, by simp, Lib.hid (Nat.zero_le _), HB⟩
      case round =>
        clear HB
        obtain ⟨k, rfl, rfl, rfl, HK, HB⟩ := hrel
        obtain ⟨cn, hcn⟩ : ∃ cn, cn = (o.take k).countP (fun y => y == (i : Int)) := ⟨_, rfl⟩
        have HCN := Lib.hid hcn
        rw [← hcn]
        clear hcn
        by_cases hk : k < o.length
        · have hk' : (k : Int) < (o.length : Int) := by omega
          have hwk : wrap64 ((k : Int) + 1) = ((k + 1 : Nat) : Int) := by
            have := HNO.out
            rw [← i64_w, IntWalk.i64_in _ (by omega)]; omega
          have hwc : wrap64 ((cn : Int) + 1) = ((cn + 1 : Nat) : Int) := by
            have h1 : cn ≤ (o.take k).length := by rw [HCN.out]; exact List.countP_le_length
            rw [List.length_take] at h1
            have := HNO.out
            rw [← i64_w, IntWalk.i64_in _ (by omega)]; omega
          have HKK := Lib.hid hk
          have HOC := Lib.hid (Kd.C_below (Kd.R_reads' HR3.out).2.2 HB.out)
          obtain ⟨ao, rfl, qa⟩ := Kd.at_int HOC.out (k : Int) (by omega) hk'
          rw [Int.toNat_natCast] at qa
          have HTK := Lib.hid (show (o.take (k + 1)).countP (fun y => y == (i : Int)) = cn + (if rd o (k : Int) = (i : Int) then 1 else 0) by
            rw [List.take_add_one, List.countP_append, ← HCN.out, List.getElem?_eq_getElem hk, rd_nat, Int.toNat_natCast, at_get o k hk]
            by_cases e : o[k] = (i : Int) <;> simp [e])
          generalize rd o (k : Int) = x at *
          clear hk HOC
          by_cases e : x = (i : Int)
          · subst e
            have HT2 := Lib.hid (show (o.take (k + 1)).countP (fun y => y == (i : Int)) = cn + 1 by rw [HTK.out, if_pos rfl])
            go_wp2_with fail
            go_roundg (o.length - (k + 1))
            case measure => have := HKK.out; omega
            case rel => exact ⟨k + 1, by (rw [HT2.out]; first | rfl | exact congrArg _ hwc | simp), by first | rfl | rw [hwk], rfl, Lib.hid HKK.out, HB⟩
          · have HT2 := Lib.hid (show (o.take (k + 1)).countP (fun y => y == (i : Int)) = cn by rw [HTK.out, if_neg e, Nat.add_zero])
            have eb : (x == (i : Int)) = false := by simpa using e
            clear e
            go_wp2_with fail
            go_roundg (o.length - (k + 1))
            case measure => have := HKK.out; omega
            case rel => exact ⟨k + 1, by rw [HT2.out], by first | rfl | rw [hwk], rfl, Lib.hid HKK.out, HB⟩
        · have hk' : ¬ (k : Int) < (o.length : Int) := by omega
          have hle : o.length ≤ k := by omega
          have HCO := Lib.hid (show cn = if (i : Int) ∈ o then 1 else 0 by
            rw [HCN.out, List.take_of_length_le hle, count_one (i : Int) HC.out.nodup])
          have HSC := Lib.hid (right_facts (HPS.out i HII.out))
          obtain ⟨ad, A4, c4, ead, p0, -, p2, p3, -, -, -, -, -⟩ := part_at (Kd.C_below HL.out.1 (below_step HB3.out HB.out)) i HII.out
          subst ead
          have HMM := Lib.hid (HC.out.mem (i : Int))
          clear hle hk
          go_upto_region 16 with fail
          go_cut [68] (fun s68 wc => ∃ b : Bool, s68 = .bool b ∧ Hid (cn = if b = true then 1 else 0) ∧ Hid (Below w3.heap.size w3 wc))
          case first =>
            cases hr : (rd_T33 l (i : Int)).f2 with
            | false =>
              have HNO2 := Lib.hid (show cn = 0 by rw [HCO.out, if_neg (fun q => by have := (HMM.out.1 q).2.2.1; rw [hr] at this; exact absurd this (by decide))])
              rw [hr] at p2
              clear hr
              go_wp2_with fail
              go_meet
              case rel => exact ⟨false, rfl, Lib.hid (by rw [HNO2.out]; rfl), HB⟩
            | true =>
              obtain ⟨b, hb1, hb2⟩ := under_is wr U cu up (rd_T33 l (i : Int)).f0 top (Kd.C_below HU.out.1 (below_step HB3.out HB.out)) HU.out.2 HV.out.1 HV.out.2.1 HZ.out.2.1 HSC.out.1 HSC.out.2.1
              have HUN := Lib.hid hb2
              have HWT := Lib.hid (show cn = if b = true then 1 else 0 by
                rw [HCO.out]
                by_cases q : (i : Int) ∈ o
                · rw [if_pos q, if_pos (hb1.2 (HMM.out.1 q).2.2.2.2.2)]
                · rw [if_neg q, if_neg (fun z => q (HMM.out.2 ⟨by omega, by have := HII.out; omega, hr, HSC.out.1, HSC.out.2.1, hb1.1 z⟩))])
              rw [hr] at p2
              clear hr hb1 hb2
              go_wp2_with fail
              refine HUN.out.mono ?_
              rintro _ w9 ⟨rfl, ⟨m9, rfl⟩⟩
              go_wp2_with fail
              go_meet
              case rel => exact ⟨b, by first | rfl | simp, HWT, Lib.hid (HB.out.trans (pw_below_drewN (Below.refl _ _) m9))⟩
          case rest =>
            clear HB p0 p2 p3
            obtain ⟨b, rfl, HWT, HB⟩ := hcut
            go_upto_if 68 with fail
            go_cut [12] (fun s12 wd => s12 = .int .i64 cn ∧ Hid (Below w3.heap.size w3 wd))
            case first =>
              cases b with
              | true =>
                have HW1 := Lib.hid (show cn = 1 from HWT.out)
                go_wp2_with fail
                go_meet
                case rel => exact ⟨by rw [HW1.out]; rfl, HB⟩
              | false =>
                have HW1 := Lib.hid (show cn = 0 from HWT.out)
                go_wp2_with fail
                go_meet
                case rel => exact ⟨by rw [HW1.out]; rfl, HB⟩
            case rest =>
              clear HB
              obtain ⟨rfl, HB⟩ := hcut
              go_wp2_with fail
              go_loopg [13] i (fun gk v13 wr3 => ∃ k2 : Nat, v13 = .int .i64 k2 ∧ gk = i - k2 ∧ Hid (k2 ≤ i ∧ ∀ t : Nat, t < k2 → ¬ Clash l t i) ∧ Hid (Below w3.heap.size w3 wr3))
              case atStart => exact ⟨0, rfl, by simp, Lib.hid ⟨Nat.zero_le _, fun t ht => by omega⟩, HB⟩
              case round =>
                clear HB
                obtain ⟨k2, rfl, rfl, HK2, HB⟩ := hrel
                by_cases hk2 : k2 < i
                rotate_left
                · have hk2' : ¬ (k2 : Int) < (i : Int) := by omega
                  have HAN := Lib.hid (HI.out.2.next (fun t ht => HK2.out.2 t (by omega)))
                  go_wp2_with fail
                  go_roundg (l.length - (i + 1))
                  case measure => have := HII.out; omega
                  case rel => exact ⟨i + 1, by first | rfl | rw [HWI.out], rfl, Lib.hid ⟨HII.out, HAN.out⟩, HB⟩
                have hk2' : (k2 : Int) < (i : Int) := by omega
                have hk3 : (k2 : Int) < (l.length : Int) := by have := HII.out; omega
                have hi3 : (i : Int) < (l.length : Int) := by have := HII.out; omega
                have hwk2 : wrap64 ((k2 : Int) + 1) = ((k2 + 1 : Nat) : Int) := by
                  have := HV.out.2.2.1; have := HII.out
                  rw [← i64_w, IntWalk.i64_in _ (by omega)]; omega
                have HKL := Lib.hid hk2
                obtain ⟨ad', B4, d4, ead, -, -, p2, p3, -, -, -, -, -⟩ := part_at (Kd.C_below HL.out.1 (below_step HB3.out HB.out)) i HII.out
                obtain rfl : ad = ad' := by injection ead
                obtain ⟨ad', B5, d5, ead, -, -, s2, s3, -, -, -, -, -⟩ := part_at (Kd.C_below HL.out.1 (below_step HB3.out HB.out)) k2 (by have := HII.out; omega)
                obtain rfl : ad = ad' := by injection ead
                have HCD := Lib.hid (Iff.refl (Clash l k2 i))
                obtain ⟨e1, he1⟩ : ∃ x, x = (rd_T33 l (k2 : Int)).f3 := ⟨_, rfl⟩
                obtain ⟨e2, he2⟩ : ∃ x, x = (rd_T33 l (i : Int)).f3 := ⟨_, rfl⟩
                have HE12 := Lib.hid (And.intro he1 he2)
                rw [← he1] at s3
                rw [← he2] at p3
                clear he1 he2 ead hk2
                cases hr1 : (rd_T33 l (k2 : Int)).f2 with
                | false =>
                  have HNC := Lib.hid (show ¬ Clash l k2 i from fun q => by have := q.1; rw [hr1] at this; exact absurd this (by decide))
                  rw [hr1] at s2
                  clear hr1
                  go_wp2_with fail
                  go_quiet (fail)
                  go_wp2_with fail
                  go_roundg (i - (k2 + 1))
                  case measure => have := HKL.out; omega
                  case rel => exact ⟨k2 + 1, by first | rfl | rw [hwk2], rfl, Lib.hid ⟨HKL.out, fun t ht => by
                    by_cases e : t = k2
                    · subst e; exact HNC.out
                    · exact HK2.out.2 t (by omega)⟩, Lib.hid (HB.out.trans (pw_below_drewN (Below.refl _ _) _))⟩
                | true =>
                  cases hr2 : (rd_T33 l (i : Int)).f2 with
                  | false =>
                    have HNC := Lib.hid (show ¬ Clash l k2 i from fun q => by have := q.2.1; rw [hr2] at this; exact absurd this (by decide))
                    rw [hr1] at s2
                    rw [hr2] at p2
                    clear hr1 hr2
                    go_wp2_with fail
                    go_quiet (fail)
                    go_wp2_with fail
                    go_roundg (i - (k2 + 1))
                    case measure => have := HKL.out; omega
                    case rel => exact ⟨k2 + 1, by first | rfl | rw [hwk2], rfl, Lib.hid ⟨HKL.out, fun t ht => by
                      by_cases e : t = k2
                      · subst e; exact HNC.out
                      · exact HK2.out.2 t (by omega)⟩, Lib.hid (HB.out.trans (pw_below_drewN (Below.refl _ _) _))⟩
                  | true =>
                    rw [hr1] at s2
                    rw [hr2] at p2
                    clear hr1 hr2
                    by_cases he : e1 = e2
                    · subst he
                      go_wp2_with fail
                      go_quiet (fail)
                      go_wp2_with fail
                      go_ret
                      exact ⟨rfl, below_step HB3.out (HB.out.trans (pw_below_drewN (Below.refl _ _) _))⟩
                    · have HNC := Lib.hid (show ¬ Clash l k2 i from fun q => he (by rw [HE12.out.1, HE12.out.2]; exact q.2.2))
                      have heb : (e1 == e2) = false := by simpa using he
                      clear he
                      go_wp2_with fail
                      go_quiet (fail)
                      go_wp2_with fail
                      go_roundg (i - (k2 + 1))
                      case measure => have := HKL.out; omega
                      case rel => exact ⟨k2 + 1, by first | rfl | rw [hwk2], rfl, Lib.hid ⟨HKL.out, fun t ht => by
                        by_cases e : t = k2
                        · subst e; exact HNC.out
                        · exact HK2.out.2 t (by omega)⟩, Lib.hid (HB.out.trans (pw_below_drewN (Below.refl _ _) _))⟩
    · have hi' : ¬ (i : Int) < (l.length : Int) := by omega
      have HAP := Lib.hid (show Apart l from fun a b a0 a1 b0 b1 => HI.out.2 a b a0 (by omega) b0 (by omega))
      have HLN := Lib.hid HV.out.2.2.1
      have hw1 : wrap64 ((l.length : Int) - 1) = (l.length : Int) - 1 := by
        rw [← i64_w, IntWalk.i64_in _ (by have := HLN.out; omega)]
      clear hi
      go_wp2_with (first | ((with_reducible refine gate_dst (N := 102) rfl ?_); refine Kd.R_lit k33 (w0 := w3) w3.heap.size 33 rfl (N := 102) rfl (xs := ([] : List S33)) (inner := []) (ok := fun _ => True) (okp := fun _ => True) (by first | (go_simp; done) | (go_simp; rfl)) (Reps.none _ _) (fun _ hk => hk) trivial HB.out HB.out.size (by simp) ?_; intro v1 w1 ho hb hg hn; have HO1 := Lib.hid ho; have HB1 := Lib.hid hb; clear ho hb hg hn) | fail)
      clear HI HB
      go_loopg [14, 15] l.length (fun gk v14 v15 wr => ∃ (j : Nat) (X : Int), v15 = .int .i64 X ∧ gk = l.length - j ∧ Hid (j ≤ l.length ∧ X = (l.length : Int) - 1 - j) ∧ Hid (Kd.R k33 33 wr w3.heap.size (fun _ => True) v14 ((turnL l).take j)) ∧ Hid (Below w3.heap.size w3 wr))
      case atStart => exact ⟨0, (l.length : Int) - 1, by first | rfl | rw [hw1], by simp, Lib.hid ⟨Nat.zero_le _, by simp⟩, HO1, HB1⟩
      case round =>
        clear HO1 HB1
        obtain ⟨j, X, rfl, rfl, HJ, HR, HB⟩ := hrel
        by_cases hj : j < l.length
        · have X0 : 0 ≤ X := by have := HJ.out.2; omega
          have X1 : X < (l.length : Int) := by have := HJ.out.2; omega
          have X2 : X ≥ 0 := X0
          have hwX : wrap64 (X - 1) = (l.length : Int) - 1 - ((j + 1 : Nat) : Int) := by
            have := HLN.out; have := HJ.out.2
            rw [← i64_w, IntWalk.i64_in _ (by omega)]; omega
          have HJJ := Lib.hid hj
          obtain ⟨ad, A4, c4, rfl, p0, p1, p2, p3, p4, p5, p6, p7, p8⟩ := at_T33 (Kd.C_below HL.out.1 (below_step HB3.out HB.out)) X X0 X1
          have HP8 := Lib.hid (And.intro p7 p8)
          clear hj p7 p8
          go_upto_region 31 with fail
          have HTB := Lib.hid (TB.start (x := rd_T33 l X) HB.out HR.out)
          obtain ⟨w5, e5⟩ : ∃ w5, w5 = wr.alloc (.cells (boxV (rd_T33 l X) (.slice none 0 0)) 33) := ⟨_, rfl⟩
          have e5' := e5
          unfold boxV at e5'
          rw [← e5'] 
          rw [← e5] at HTB
          clear e5 e5'
          obtain ⟨pb, epb⟩ : ∃ pb, pb = wr.heap.size := ⟨_, rfl⟩
          rw [← epb] at HTB ⊢
          clear epb p0 p1 p2 p3 p4 p5 p6 HP8 HB HR
          have HXX := Lib.hid (And.intro X0 X1)
          have HWX := Lib.hid hwX
          clear X0 X1 hwX
          go_wp2_with fail
          go_loopg [17] (rd_T33 l X).f4.length (fun gk v17 wk => ∃ (k : Nat) (vu : Value), v17 = .int .i64 k ∧ gk = (rd_T33 l X).f4.length - k ∧ Hid (k ≤ (rd_T33 l X).f4.length) ∧ Hid (TB w3 wk pb (rd_T33 l X) u14 ((turnL l).take j) vu (((rd_T33 l X).f4.take k).map fun u => (l.length : Int) - 1 - u)))
          case atStart => exact ⟨0, .slice none 0 0, rfl, by simp, Lib.hid (Nat.zero_le _), HTB⟩
          case round =>
            clear HTB
            obtain ⟨k, vu, rfl, rfl, HK, HTB⟩ := hrel
            have X1 := HXX.out.2
            have X0 := HXX.out.1
            obtain ⟨ad', A4, c4, ead, -, -, -, -, p4, -, -, p7, p8⟩ := at_T33 (Kd.C_below HL.out.1 (below_step HB3.out HTB.out.bel)) X X0 X1
            obtain rfl : ad = ad' := by injection ead
            have HP8 := Lib.hid (And.intro p7 p8)
            have HUV := Lib.hid ((right_facts (HPS.out X.toNat (by omega))).2.2)
            rw [Int.toNat_of_nonneg X0] at HUV
            have HUL := Lib.hid (HT.out.2.1 (rd_T33 l X) (rd_mem33 l X X0 X1))
            clear ead p7 p8
            obtain ⟨xs, exs⟩ : ∃ xs, xs = (rd_T33 l X).f4 := ⟨_, rfl⟩
            have HXS := Lib.hid exs
            rw [← exs] at HTB HP8 p4 HUV HUL HK ⊢
            clear exs
            by_cases hk : k < xs.length
            · have hk' : (k : Int) < (xs.length : Int) := by omega
              have hwk : wrap64 ((k : Int) + 1) = ((k + 1 : Nat) : Int) := by
                have := HUL.out
                rw [← i64_w, IntWalk.i64_in _ (by omega)]; omega
              have HKK := Lib.hid hk
              have HXR := Lib.hid (HUV.out (rd xs (k : Int)) (by rw [rd_nat, Int.toNat_natCast, at_get xs k hk]; exact List.getElem_mem hk))
              have HTU := Lib.hid (uses_take xs (l.length : Int) k hk)
              obtain ⟨au, rfl, qa⟩ := Kd.at_int HP8.out.2 (k : Int) (by omega) hk'
              rw [Int.toNat_natCast] at qa
              have hwu : wrap64 ((l.length : Int) - 1 - rd xs (k : Int)) = (l.length : Int) - 1 - rd xs (k : Int) := by
                have := HXR.out; have := HLN.out
                rw [← i64_w, IntWalk.i64_in _ (by omega)]
              obtain ⟨y, hy⟩ : ∃ y, y = (l.length : Int) - 1 - rd xs (k : Int) := ⟨_, rfl⟩
              obtain ⟨us, hus⟩ : ∃ us, us = (xs.take k).map fun u => (l.length : Int) - 1 - u := ⟨_, rfl⟩
              have HYU := Lib.hid (And.intro hy hus)
              rw [← hus] at HTB
              have hwy : wrap64 ((l.length : Int) - 1 - rd xs (k : Int)) = y := hwu.trans hy.symm
              clear hwu
              have HUN := Lib.hid (show (us.length + 1) * 8 ≤ 140737488355328 by
                have h1 : us.length ≤ xs.length := by rw [hus, List.length_map, List.length_take]; omega
                have := HUL.out
                omega)
              clear hy hus hk
              generalize rd xs (k : Int) = u at *
              have q4 := HTB.out.cells.2.2.2.2.1
              have q4' := ((HTB.out.below ((Below.refl wr.heap.size wr).alloc (Nat.le_refl _) (.cells #[.int .i64 (IntKind.i64.wrap (IntKind.i64.wrap ((l.length : Int) - 1) - u))] 3))).cells).2.2.2.2.1
              have HWZ := Lib.hid (show IntKind.i64.wrap (IntKind.i64.wrap ((l.length : Int) - 1) - u) = y by rw [i64_w, i64_w, hw1]; exact hwy)
              have HD := Lib.hid (HTB.out.below (Below.refl wr.heap.size wr).drew)
              clear HTB
              go_wp2_with fail
              go_region_law (refine Kd.R_append_step (Kd.int .i64) (w0 := w3) (W := wr.drew) w3.heap.size (by rfl) (.tmp 126) (.tmp 139) 22 3 (.int .i64 0) 8 rfl Tryd.underlying22 info3 rfl (by decide) (by decide) vu us y [.int .i64 (IntKind.i64.wrap (IntKind.i64.wrap ((l.length : Int) - 1) - u))] (fun k => pb < k) (fun _ => False) rfl rfl (by rw [HWZ.out]; rfl) (fun _ h => h.elim) (fun k hk => Nat.lt_of_lt_of_le HD.out.lt hk) HD.out.row HD.out.bel HD.out.bel.size HUN.out ?_; intro v' w7 ho hb hg hat; obtain ⟨B7, m7, d7, rfl⟩ : ∃ B m d, v' = .slice B m d := (Kd.R_slice ho).elim fun B hB => hB.elim fun d hd => ⟨B, _, d, hd⟩; have HY := Lib.hid (HD.out.pushed ho hb hg); have k5 := HY.out.2.1; have k6 := HY.out.2.2; clear ho hb hg hat)
              all_goals
                have HROW := Lib.hid (show us ++ [y] = (xs.take (k + 1)).map fun u => (l.length : Int) - 1 - u by rw [HTU.out, HYU.out.1, HYU.out.2])
                have HTB := Lib.hid HY.out.1
                rw [HROW.out] at HTB
                have hx := HXS.out
                clear HXS HY HYU HTU
                subst hx
                go_wp2_with fail
                go_roundg ((rd_T33 l X).f4.length - (k + 1))
                case measure => have := HKK.out; omega
                case rel => exact ⟨k + 1, .slice B7 m7 d7, by first | rfl | rw [hwk], rfl, Lib.hid HKK.out, HTB⟩
            · have hk' : ¬ (k : Int) < (xs.length : Int) := by omega
              obtain ⟨q0, q1, q2, q3, q4, q5, q6⟩ := HTB.out.cells
              have HDN := Lib.hid HTB.out.done
              have HUA := Lib.hid (show (xs.take k).map (fun u => (l.length : Int) - 1 - u) = xs.map fun u => (l.length : Int) - 1 - u by rw [List.take_of_length_le (by omega)])
              rw [HUA.out, HXS.out] at HDN
              have HTL := Lib.hid (show (((turnL l).take j).length + 1) * 88 ≤ 140737488355328 by
                have := HLN.out
                have h1 : ((turnL l).take j).length ≤ (turnL l).length := by rw [List.length_take]; omega
                rw [turn_len] at h1
                omega)
              clear hk
              go_wp2_with (first | ((with_reducible refine gate_builtin (b := .append) (xs := #[.tmp 142, .tmp 144]) rfl ?_); (try (refine gate_guard (by rfl) ?_; dsimp only)); at_builtin; refine Kd.R_append k33 (w0 := w3) (W := wr) w3.heap.size rfl (.tmp 142) (.tmp 144) 23 33 (.agg #[(.int .i64 0), (.string ⟨#[]⟩), (.bool false), (.int .i64 0), (.slice none 0 0), (.int .i64 0), (.string ⟨#[]⟩)]) 88 rfl Tryd.underlying23 info33 rfl (by decide) (by omega) u14 ((turnL l).take j) { rd_T33 l X with f4 := (rd_T33 l X).f4.map fun u => (l.length : Int) - 1 - u } [.int .i64 (rd_T33 l X).f0, .string (rd_T33 l X).f1, .bool (rd_T33 l X).f2, .int .i64 (rd_T33 l X).f3, vu, .int .i64 (rd_T33 l X).f5.f0, .string (rd_T33 l X).f5.f1] (fun _ => True) (fun k => pb < k) rfl (by first | rfl | (rw [World.size_alloc]; done) | (rw [World.size_alloc]; rfl)) ?aP ?aK ?aF ?aO ?aB ?aS ?aL ?_; (case aP => exact HDN.out); (case aK => exact fun k hk => ⟨trivial, fun e => by have := HTB.out.tur.1 k e.symm; omega⟩); (case aF => exact fun _ _ => trivial); (case aO => exact Kd.R_mono HTB.out.tur (fun _ _ => trivial)); (case aB => exact HTB.out.bel); (case aS => exact HTB.out.bel.size); (case aL => exact HTL.out); intro v7 w7 ho hb hg hat; have HO7 := Lib.hid ho; have HB7 := Lib.hid hb; clear ho hb hg hat) | fail)
              go_roundg (l.length - (j + 1))
              case measure => have := HJJ.out; omega
              case rel => exact ⟨j + 1, (l.length : Int) - 1 - ((j + 1 : Nat) : Int), by first | rfl | rw [HWX.out], rfl, Lib.hid ⟨HJJ.out, rfl⟩, by rw [turn_take l j HJJ.out X HJ.out.2]; exact HO7, HB7⟩
        · have X2 : ¬ X ≥ 0 := by have := HJ.out.2; omega
          have HR0 := Lib.hid HR.out
          rw [List.take_of_length_le (by rw [turn_len]; omega)] at HR0
          obtain ⟨At, ct, rfl⟩ := Kd.R_slice HR0.out
          have HCT := Lib.hid (Kd.R_reads' HR0.out)
          have HVL := Lib.hid HV.out.2.2.2
          have HO2 := Lib.hid (Order_is wr U cu up At ct (turnL l) top (HT.out.1.below (below_step HB3.out HB.out)) (Kd.C_below HU.out.1 (below_step HB3.out HB.out)) HU.out.2 HCT.out.2.2 HCT.out.2.1 (turn_each l HT.out.2.1) (by rw [turn_unS]; exact HT.out.2.2))
          clear hj HR HR0
          go_wp2_with fail
          refine HO2.out.mono ?_
          rintro _ w6 ⟨v6, q, rfl, hr6, hb6, hne6, hcl6⟩
          have HZT : orderE up (turnL l) top = 0 := by
            have hc := turn_check HZ.out.1
            have h1 := HZ.out.2.1
            have h2 := HZ.out.2.2
            unfold orderE
            rw [if_neg (by rw [hc]; simp), if_neg (by omega)]
          have HQ := Lib.hid (turn_closed HVL.out HAP.out HC.out (hcl6 HZT) : q = o.map fun x => (l.length : Int) - 1 - x)
          have HQL := Lib.hid (show q.length = o.length by rw [HQ.out, List.length_map])
          obtain ⟨Aq, cq, rfl⟩ := Kd.R_slice hr6
          have HR6 := Lib.hid (Kd.R_reads' hr6).2.2
          have HB6 := Lib.hid (HB.out)
          have HBW := Lib.hid (below_step HB.out hb6)
          rw [HZT, HQL.out]
          clear HZT hr6 hb6 hne6 hcl6 HO2 HB HB6 HCT
          go_wp2_with fail
          go_loopg [19] o.length (fun gk v19 wr2 => ∃ k : Nat, v19 = .int .i64 k ∧ gk = o.length - k ∧ Hid (k ≤ o.length) ∧ Hid (Below w6.heap.size w6 wr2))
          case atStart => exact ⟨0, rfl, by simp, Lib.hid (Nat.zero_le _), Lib.hid (Below.refl _ _)⟩
          case round =>
            obtain ⟨k, rfl, rfl, HK, HBB⟩ := hrel
            by_cases hk : k < o.length
            · have hk' : (k : Int) < (o.length : Int) := by omega
              have hwk : wrap64 ((k : Int) + 1) = ((k + 1 : Nat) : Int) := by
                have := HNO.out
                rw [← i64_w, IntWalk.i64_in _ (by omega)]; omega
              have HKK := Lib.hid hk
              obtain ⟨ao, rfl, qo⟩ := Kd.at_int (Kd.C_below (Kd.R_reads' HR3.out).2.2 (below_step HBW.out HBB.out)) (k : Int) (by omega) hk'
              obtain ⟨aq, rfl, qq⟩ := Kd.at_int (Kd.C_below HR6.out HBB.out) (k : Int) (by omega) (by rw [HQL.out]; exact hk')
              rw [Int.toNat_natCast] at qo qq
              have HMB := Lib.hid ((HC.out.mem (rd o (k : Int))).1 (by rw [rd_nat, Int.toNat_natCast, at_get o k hk]; exact List.getElem_mem hk))
              have HEQ := Lib.hid (show rd q (k : Int) = (l.length : Int) - 1 - rd o (k : Int) by
                have hq2 : k < q.length := by rw [HQL.out]; exact hk
                rw [rd_nat, rd_nat, Int.toNat_natCast, at_get q k hq2, at_get o k hk]
                have h3 := HQ.out
                subst h3
                simp)
              have hwu : wrap64 ((l.length : Int) - 1 - rd o (k : Int)) = rd q (k : Int) := by
                have h1 := HMB.out.1; have h2 := HMB.out.2.1; have := HLN.out
                rw [HEQ.out, ← i64_w, IntWalk.i64_in _ (by omega)]
              have hwu2 : IntKind.i64.wrap ((l.length : Int) - 1 - rd o (k : Int)) = rd q (k : Int) := by rw [i64_w]; exact hwu
              have hw12 : IntKind.i64.wrap ((l.length : Int) - 1) = (l.length : Int) - 1 := by rw [i64_w]; exact hw1
              clear hk HMB HEQ
              generalize rd q (k : Int) = y at *
              generalize rd o (k : Int) = x at *
              go_wp2_with fail
              go_quiet (fail)
              go_wp2_with fail
              go_roundg (o.length - (k + 1))
              case measure => have := HKK.out; omega
              case rel => exact ⟨k + 1, by first | rfl | rw [hwk], rfl, Lib.hid HKK.out, Lib.hid (HBB.out.trans (pw_below_drewN (Below.refl _ _) _))⟩
            · have hk' : ¬ (k : Int) < (o.length : Int) := by omega
              go_wp2_with fail
              go_ret
              exact ⟨rfl, below_step (below_step HB3.out HBW.out) HBB.out⟩
end Go.Proofs.YtccjclmjoegibaaDoor.Ce
