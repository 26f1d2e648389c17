/- Whoever uses another one of its scope, and does not go round with it, is closed ahead of it; parts of scopes beneath ahead: the walk of CloserReverse. -/
import Derived.Test.YtccjclmjoegibaaDoorWk
namespace Go.Proofs.YtccjclmjoegibaaDoor.Ce
open Go.RowKit Go.Maps Go.Proofs.YtccjclmjoegibaaDoor Go.Proofs.YtccjclmjoegibaaDoorW.PrintWords Go.Proofs.YtccjclmjoegibaaDoorW.PrintLast Go.Proofs.YtccjclmjoegibaaDoorW.PrintMore PCloserOrders Hp
attribute [local go_sem] max2_int min2_int max_two min_two max_three min_three max_four min_four
set_option linter.unusedVariables false
set_option linter.unusedSimpArgs false
theorem Found.same {l : List S33} {M R : List (List Bool)} (F : Found l M) (G : Found l R) (a b : Int) (a0 : 0 ≤ a) (a1 : a < l.length) (b0 : 0 ≤ b) (b1 : b < l.length) : rdOf false (rd_L6 M a) b = rdOf false (rd_L6 R a) b := by
  have h1 := F.is a b a0 a1 b0 b1
  have h2 := G.is a b a0 a1 b0 b1
  exact Bool.eq_iff_iff.2 (h1.trans h2.symm)
/-- What holds of two that are closed one behind the other. -/
structure Two (up : List Int) (l : List S33) (R : List (List Bool)) (a b : Int) : Prop where
  a0 : 0 ≤ a
  a1 : a < l.length
  b0 : 0 ≤ b
  b1 : b < l.length
  sa0 : 0 ≤ (rd_T33 l a).f0
  sa1 : (rd_T33 l a).f0 < up.length
  sb0 : 0 ≤ (rd_T33 l b).f0
  sb1 : (rd_T33 l b).f0 < up.length
  one : (rd_T33 l a).f0 = (rd_T33 l b).f0 → relP R b a = false
  two : (rd_T33 l a).f0 ≠ (rd_T33 l b).f0 → (rd_T33 l b).f0 < (rd_T33 l a).f0
theorem ClosedAs.two {up : List Int} {l : List S33} {top : Int} {o : List Int} {R : List (List Bool)} (C : ClosedAs up l top o) (G : Found l R) : o.Pairwise (Two up l R) := by
  obtain ⟨bs, outs, M, B, F, hl, ho, hg⟩ := C.ex
  rw [ho, List.pairwise_flatten]
  have hidx : ∀ (j : Nat) (h : j < outs.length), Hp.Good (aheadB l) (relP M) (allF l (bs[j]'(by omega)) l.length) outs[j] := fun j h => hg j _ _ (List.getElem?_eq_getElem (by omega)) (List.getElem?_eq_getElem h)
  have hin : ∀ (j : Nat) (h : j < outs.length), ∀ x ∈ outs[j], 0 ≤ x ∧ x < l.length ∧ (rd_T33 l x).f0 = bs[j]'(by omega) ∧ 0 ≤ (rd_T33 l x).f0 ∧ (rd_T33 l x).f0 < up.length := fun j h x hx => by
    obtain ⟨h1, h2, _, h4⟩ := (allF_mem l _ x l.length).1 (((hidx j h).mem x).1 hx)
    obtain ⟨b0, b1, _⟩ := (B.mem (bs[j]'(by omega))).1 (List.getElem_mem _)
    rw [h4]
    exact ⟨h1, h2, rfl, b0, b1⟩
  refine ⟨fun q hq => ?_, ?_⟩
  · obtain ⟨j, hj, rfl⟩ := List.mem_iff_getElem.1 hq
    rw [List.pairwise_iff_getElem]
    intro p k hp hk hpk
    obtain ⟨a0, a1, a2, a3, a4⟩ := hin j hj _ (List.getElem_mem hp)
    obtain ⟨b0, b1, b2, b3, b4⟩ := hin j hj _ (List.getElem_mem hk)
    refine ⟨a0, a1, b0, b1, a3, a4, b3, b4, fun _ => ?_, fun h => absurd (a2.trans b2.symm) h⟩
    cases hr : relP R outs[j][k] outs[j][p] with
    | false => rfl
    | true =>
      have hm : relP M outs[j][k] outs[j][p] = true := by
        unfold relP at hr ⊢
        rw [F.same G _ _ b0 b1 a0 a1, F.same G _ _ a0 a1 b0 b1]
        exact hr
      have := ((hidx j hj).pick p _ (List.getElem?_eq_getElem hp)).1 _ (((hidx j hj).mem _).1 (List.getElem_mem hk)) hm
      have hsub : outs[j][k] ∈ outs[j].take k := by
        have : outs[j].take p <+: outs[j].take k := List.take_prefix_take_left (by omega)
        exact this.subset (by assumption)
      exact absurd hsub (nd_take (hidx j hj).nodup hk)
  · rw [List.pairwise_iff_getElem]
    intro p k hp hk hpk x hx y hy
    obtain ⟨a0, a1, a2, a3, a4⟩ := hin p hp x hx
    obtain ⟨b0, b1, b2, b3, b4⟩ := hin k hk y hy
    have hf := List.pairwise_iff_getElem.1 B.fall p k (by omega) (by omega) hpk
    refine ⟨a0, a1, b0, b1, a3, a4, b3, b4, fun h => ?_, fun _ => by rw [a2, b2]; exact hf⟩
    rw [a2, b2] at h
    omega
theorem Up.le {up : List Int} (U : UpOk up) {top s : Int} (h : Up up top s) : top ≤ s := by
  induction h with
  | here => exact Int.le_refl _
  | step h0 h1 _ ih => have := U _ h0 h1; omega
set_option maxHeartbeats 8000000 in
set_option maxRecDepth 100000 in
theorem walk_reverse (w : World) (U : Option Addr) (cu : Nat) (up : List Int) (A : Option Addr) (c : Nat) (l : List S33) (top : Int) (hla : Laid w) (hu : Kd.C (Kd.int .i64) w U up.length up) (hcu : up.length ≤ cu) (hl : Kd.C k33 w A l.length l) (hc : l.length ≤ c) (hus : ∀ x ∈ l, x.f4.length ≤ 1048576) (ht : unS l [] l.length ≤ 1048576) :
    Calls Tryd.prog 3 #[.slice U up.length cu, .slice A l.length c, .int .i64 top] w fun e w' => e = .returned (.bool true) ∧ Below w.heap.size w w' := by
  have HW := Lib.hid (works_is w hla)
  have HO := Lib.hid (fun w2 (hb : Below w.heap.size w w2) => Order_is w2 U cu up A c l top (hla.below hb) (Kd.C_below hu hb) hcu (Kd.C_below hl hb) hc hus ht)
  have HU := Lib.hid (And.intro hu hcu)
  have HL := Lib.hid (And.intro hl hc)
  have HT := Lib.hid ht
  clear hla hu hcu hl hc hus ht
  go_enter Tryd.func3, Tryd.ntmps3
  go_wp2_with fail
  refine HW.out.mono ?_
  rintro _ w2 ⟨rfl, hb2⟩
  have HB2 := Lib.hid hb2
  have HO2 := Lib.hid (HO.out w2 hb2)
  clear hb2 HO HW
  go_wp2_with fail
  refine HO2.out.mono ?_
  rintro _ w3 ⟨v, o, rfl, hr3, hb3, hne, hcl⟩
  have HB3 := Lib.hid (below_step HB2.out hb3)
  have HR3 := Lib.hid hr3
  have HCL := Lib.hid hcl
  have HNE := Lib.hid hne
  clear hr3 hb3 hne hcl HO2 HB2
  obtain ⟨oe, hoe⟩ : ∃ oe, oe = orderE up l top := ⟨_, rfl⟩
  have HOE := Lib.hid hoe
  rw [← hoe] at HCL HNE ⊢
  clear hoe
  by_cases h0 : oe = 0
  rotate_left
  · obtain ⟨rfl, rfl⟩ := HNE.out h0
    have h0b : (oe != 0) = true := by simpa using h0
    clear h0
    go_wp2_with fail
    go_ret
    exact ⟨rfl, HB3.out⟩
  have HC := Lib.hid (HCL.out h0)
  have HV := Lib.hid (check_ok up l (by
    have h1 := HOE.out
    rw [h0] at h1
    unfold orderE at h1
    by_cases q : checkE up l ≠ 0
    · rw [if_pos q] at h1; exact absurd h1.symm q
    · exact Classical.not_not.1 q))
  subst h0
  clear HNE HCL HOE
  obtain ⟨R, hF, hreach⟩ := reached_is w3 A c l (Kd.C_below HL.out.1 HB3.out) HL.out.2 HV.out.2.2.2 HV.out.2.2.1 HT.out
  have HRE := Lib.hid hreach
  have HF := Lib.hid hF
  have HP := Lib.hid (HC.out.two hF)
  obtain ⟨Ao, co, rfl⟩ := Kd.R_slice HR3.out
  clear hreach hF
  go_wp2_with fail
  refine HRE.out.mono ?_
  rintro _ w4 ⟨UR, cR, rfl, hM, hb4⟩
  have HB4 := Lib.hid (below_step HB3.out hb4)
  have HM := Lib.hid hM
  have HR4 := Lib.hid (Kd.R_below HR3.out hb4)
  have HNO := Lib.hid (show o.length ≤ 100000 by
    obtain ⟨bs, outs, M, B, F, h1, h2, h3⟩ := HC.out.ex
    rw [h2]
    have h4 := flat_len outs (fun q hq => by
      obtain ⟨t, ht, e⟩ := List.mem_iff_getElem.1 hq
      have hg := h3 t (bs[t]'(by omega)) q (List.getElem?_eq_getElem (by omega)) (by rw [List.getElem?_eq_getElem ht, e])
      have h5 := Good.len hg
      have h6 := allF_len l (bs[t]'(by omega)) l.length
      have := HV.out.2.2.1
      omega)
    have h5 := B.len
    have := HV.out.2.1
    omega)
  clear hM hb4 HRE HR3 HB3 HC
  go_wp2_with fail
  go_loopg [10] o.length (fun gk v10 wr => ∃ i : Nat, v10 = .int .i64 i ∧ gk = o.length - i ∧ Hid (i ≤ o.length) ∧ Hid (Below w4.heap.size w4 wr))
  case atStart => exact ⟨0, rfl, by simp, Lib.hid (Nat.zero_le _), Lib.hid (Below.refl _ _)⟩
  case round =>
    obtain ⟨i, rfl, rfl, HI, HB⟩ := hrel
    by_cases hi : i < o.length
    rotate_left
    · have hi' : ¬ (i : Int) < (o.length : Int) := by omega
      go_wp2_with fail
      go_ret
      exact ⟨rfl, below_step HB4.out HB.out⟩
    have hi' : (i : Int) < (o.length : Int) := by omega
    have hwi : wrap64 ((i : Int) + 1) = ((i + 1 : Nat) : Int) := by
      have := HNO.out
      rw [← i64_w, IntWalk.i64_in _ (by omega)]; omega
    have HII := Lib.hid hi
    have HWI := Lib.hid hwi
    clear hi hwi
    go_wp2_with fail
    go_loopg [11] (o.length - (i + 1)) (fun gk v11 wr2 => ∃ k : Nat, v11 = .int .i64 k ∧ gk = o.length - k ∧ Hid (k ≤ o.length ∧ i < k) ∧ Hid (Below w4.heap.size w4 wr2))
    case atStart => exact ⟨i + 1, by first | rfl | rw [HWI.out], rfl, Lib.hid ⟨HII.out, by omega⟩, HB⟩
    case round =>
      clear HB
      obtain ⟨k, rfl, rfl, HK, HB⟩ := hrel
      by_cases hk : k < o.length
      rotate_left
      · have hk' : ¬ (k : Int) < (o.length : Int) := by omega
        go_wp2_with fail
        go_roundg (o.length - (i + 1))
        case measure => have := HII.out; omega
        case rel => exact ⟨i + 1, by first | rfl | rw [HWI.out], rfl, Lib.hid HII.out, HB⟩
      have hk' : (k : Int) < (o.length : Int) := by omega
      have hwk : wrap64 ((k : Int) + 1) = ((k + 1 : Nat) : Int) := by
        have := HNO.out
        rw [← i64_w, IntWalk.i64_in _ (by omega)]; omega
      have HKK := Lib.hid hk
      have HTW := Lib.hid (show Two up l R o[i] o[k] from List.pairwise_iff_getElem.1 HP.out i k HII.out hk HK.out.2)
      have HOC := Lib.hid (Kd.C_below (Kd.R_reads' HR4.out).2.2 HB.out)
      obtain ⟨ao, rfl, qa⟩ := Kd.at_int HOC.out (i : Int) (by omega) hi'
      obtain ⟨ao', e, qb⟩ := Kd.at_int HOC.out (k : Int) (by omega) hk'
      obtain rfl : ao = ao' := by injection e
      clear e
      rw [Int.toNat_natCast] at qa qb
      have ea : rd o (i : Int) = o[i] := by rw [rd_nat, Int.toNat_natCast, at_get o i HII.out] <;> rfl
      have eb : rd o (k : Int) = o[k] := by rw [rd_nat, Int.toNat_natCast, at_get o k hk] <;> rfl
      rw [ea] at qa
      rw [eb] at qb
      clear ea eb
      generalize o[i]'HII.out = a at *
      generalize o[k]'hk = b at *
      clear hk
      have a0 := HTW.out.a0
      have a1 := HTW.out.a1
      have b0 := HTW.out.b0
      have b1 := HTW.out.b1
      obtain ⟨ad, A4, c4, rfl, p0, -, -, -, -, -, -, -, -⟩ := at_T33 (Kd.C_below HL.out.1 (below_step HB4.out HB.out)) a a0 a1
      obtain ⟨ad', A5, c5, e, p1, -, -, -, -, -, -, -, -⟩ := at_T33 (Kd.C_below HL.out.1 (below_step HB4.out HB.out)) b b0 b1
      obtain rfl : ad = ad' := by injection e
      clear e
      have HM2 := Lib.hid (Kd.C_below HM.out HB.out)
      obtain ⟨au, au2, d0, rfl, u0, u1⟩ := use_at HM2.out b a b0 (by rw [HF.out.len]; exact b1) a0 (by rw [HF.out.rows b b0 b1]; exact a1)
      obtain ⟨au', au3, d1, e, u2, u3⟩ := use_at HM2.out a b a0 (by rw [HF.out.len]; exact a1) b0 (by rw [HF.out.rows a a0 a1]; exact b1)
      obtain rfl : au = au' := by injection e
      clear e
      have m0 : b < (R.length : Int) := by rw [HF.out.len]; exact b1
      have m1 : a < (R.length : Int) := by rw [HF.out.len]; exact a1
      have m2 : a < ((rd_L6 R b).length : Int) := by rw [HF.out.rows b b0 b1]; exact a1
      have m3 : b < ((rd_L6 R a).length : Int) := by rw [HF.out.rows a a0 a1]; exact b1
      have HONE := Lib.hid HTW.out.one
      have HTWO := Lib.hid HTW.out.two
      have HSC := Lib.hid (And.intro HTW.out.sa0 (And.intro HTW.out.sb0 HTW.out.sb1))
      clear HTW
      obtain ⟨sa, hsa⟩ : ∃ sa, sa = (rd_T33 l a).f0 := ⟨_, rfl⟩
      obtain ⟨sb, hsb⟩ : ∃ sb, sb = (rd_T33 l b).f0 := ⟨_, rfl⟩
      rw [← hsa] at p0 HONE HTWO HSC
      rw [← hsb] at p1 HONE HTWO HSC
      clear hsa hsb
      have g0 : ¬ a < 0 := by omega
      have g1 : ¬ a ≥ (l.length : Int) := by omega
      have g2 : ¬ b < 0 := by omega
      have g3 : ¬ b ≥ (l.length : Int) := by omega
      go_wp2_with fail
      go_quiet (fail)
      by_cases hs : sa = sb
      · subst hs
        have HRP := Lib.hid (HONE.out rfl)
        cases hr : rdOf false (rd_L6 R b) a with
        | false =>
          rw [hr] at u1
          clear hr
          go_wp2_with fail
          go_quiet (fail)
          go_wp2_with fail
          go_quiet (fail)
          go_wp2_with fail
          go_roundg (o.length - (k + 1))
          case measure => have := HKK.out; omega
          case rel => exact ⟨k + 1, by first | rfl | rw [hwk], rfl, Lib.hid ⟨HKK.out, by have := HK.out.2; omega⟩, Lib.hid (HB.out.trans (pw_below_drewN (Below.refl _ _) _))⟩
        | true =>
          have hr2 : rdOf false (rd_L6 R a) b = true := by
            have := HRP.out
            unfold relP at this
            rw [hr] at this
            simpa using this
          rw [hr] at u1
          rw [hr2] at u3
          clear hr hr2
          go_wp2_with fail
          go_quiet (fail)
          go_wp2_with fail
          go_quiet (fail)
          go_wp2_with fail
          go_roundg (o.length - (k + 1))
          case measure => have := HKK.out; omega
          case rel => exact ⟨k + 1, by first | rfl | rw [hwk], rfl, Lib.hid ⟨HKK.out, by have := HK.out.2; omega⟩, Lib.hid (HB.out.trans (pw_below_drewN (Below.refl _ _) _))⟩
      · have hsb : (sa == sb) = false := by simpa using hs
        have hsn : (sa != sb) = true := by simpa using hs
        have HLT := Lib.hid (HTWO.out hs)
        clear hs
        have HUN := Lib.hid (show ∀ n, Calls Tryd.prog 11 #[.slice U up.length cu, .int .i64 sb, .int .i64 sa] (wr.drewN n) fun e w' => e = .returned (.bool false) ∧ Drawn0 (wr.drewN n) w' from fun n => by
          obtain ⟨bb, h1, h2⟩ := under_is (wr.drewN n) U cu up sb sa (Kd.C_drewN (Kd.C_below HU.out.1 (below_step HB4.out HB.out)) n) HU.out.2 HV.out.1 HV.out.2.1 HSC.out.1 HSC.out.2.1 HSC.out.2.2
          have hbf : bb = false := by
            cases hbb : bb with
            | false => rfl
            | true =>
              have h3 := (h1.1 hbb).le HV.out.1
              have h4 := HLT.out
              omega
          rw [hbf] at h2
          exact h2)
        go_wp2_with fail
        go_quiet (fail)
        go_wp2_with fail
        go_region_held3 (fun w' => w'.cell? (ad.add (a.toNat * 7)) = some (.int .i64 sa) ∧ w'.cell? (ad.add (b.toNat * 7)) = some (.int .i64 sb)) (first | exact ⟨p0, p1⟩ | fail) (first | (go_at_call 11; refine (HUN.out _).mono ?_; rintro _ w9 ⟨rfl, ⟨m9, rfl⟩⟩) | fail)
        go_wp2_with fail
        go_roundg (o.length - (k + 1))
        case measure => have := HKK.out; omega
        case rel => exact ⟨k + 1, by first | rfl | rw [hwk], rfl, Lib.hid ⟨HKK.out, by have := HK.out.2; omega⟩, Lib.hid (HB.out.trans (pw_below_drewN (Below.refl _ _) _))⟩
end Go.Proofs.YtccjclmjoegibaaDoor.Ce
