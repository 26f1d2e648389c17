/- The failures are as many as the closers that fail or panic, and keep their texts, in order: the walk of CloserKeeps. -/
import Derived.Test.YtccjclmjoegibaaDoorFl
import Derived.Test.YtccjclmjoegibaaDoorWk
namespace Go.Proofs.YtccjclmjoegibaaDoor.Ce
open Go.RowKit Go.Maps Go.Proofs.YtccjclmjoegibaaDoor Go.Proofs.YtccjclmjoegibaaDoorW.PrintWords Go.Proofs.YtccjclmjoegibaaDoorW.PrintLast Go.Proofs.YtccjclmjoegibaaDoorW.PrintMore PCloserOrders Hp
attribute [local go_sem] max2_int min2_int max_two min_two max_three min_three max_four min_four
set_option linter.unusedVariables false
set_option linter.unusedSimpArgs false
theorem failsE_pairs {l : List S33} {o : List Int} (h : failsE l o = 0) : failsL l o = joinL (pairsL l o) ∧ Pairs (pairsL l o) ∧ (pairsL l o).length ≤ 256 := by
  have h0 := h
  unfold failsE at h
  by_cases h1 : l.length > 256 ∨ o.length > 256
  · rw [if_pos h1] at h; exact absurd h (by decide)
  · rw [if_neg h1] at h
    by_cases h2 : o.any (outB l.length) = true
    · rw [if_pos h2] at h; exact absurd h (by decide)
    · rw [if_neg h2] at h
      by_cases h3 : o.any (fun n => badP (rd_T33 l n)) = true
      · rw [if_pos h3] at h; exact absurd h (by decide)
      · exact ⟨by unfold failsL; rw [if_pos h0], pairsL_ok l o (by simpa using h3), Nat.le_trans (pairsL_len l o) (by omega)⟩
set_option maxHeartbeats 8000000 in
set_option maxRecDepth 100000 in
theorem walk_ckeeps (w : World) (U : Option Addr) (cu : Nat) (up : List Int) (A : Option Addr) (c : Nat) (l : List S33) (top : Int) (hla : LaidF w) (hu : Kd.C (Kd.int .i64) w U up.length up) (hcu : up.length ≤ cu) (hl : Kd.C k33 w A l.length l) (hc : l.length ≤ c) (hus : ∀ x ∈ l, x.f4.length ≤ 1048576) (ht : unS l [] l.length ≤ 1048576) :
    Calls Tryd.prog 7 #[.slice U up.length cu, .slice A l.length c, .int .i64 top] w fun e w' => e = .returned (.bool true) ∧ Below w.heap.size w w' := by
  have HW := Lib.hid (works_is w hla.keys)
  have HU := Lib.hid (And.intro hu hcu)
  have HL := Lib.hid (And.intro hl hc)
  have HUS := Lib.hid (And.intro hus ht)
  have HLA := Lib.hid hla
  clear hla hu hcu hl hc hus ht
  go_enter Tryd.func7, Tryd.ntmps7
  go_wp2_with fail
  refine HW.out.mono ?_
  rintro _ w1 ⟨rfl, hb1⟩
  have HB1 := Lib.hid hb1
  have HK := Lib.hid (cClose_is w1 U cu up A c l top (HLA.out.below hb1) (Kd.C_below HU.out.1 hb1) HU.out.2 (Kd.C_below HL.out.1 hb1) HL.out.2 HUS.out.1 HUS.out.2)
  clear hb1 HW
  go_wp2_with fail
  refine HK.out.mono ?_
  rintro _ w2 ⟨v2, o, x2, f, rfl, hr2, hx2, hb2, hz2, hc2⟩
  have HB2 := Lib.hid (below_step HB1.out hb2)
  have HO2 := Lib.hid hr2
  have HF2 := Lib.hid hx2
  obtain ⟨B2, d2, rfl⟩ := Kd.R_slice hr2
  obtain ⟨X2, y2, rfl⟩ := Kd.R_slice hx2
  by_cases h0 : orderE up l top = 0
  rotate_left
  · obtain ⟨rfl, rfl⟩ := hz2 h0
    generalize orderE up l top = oe at *
    have h0b : (oe != 0) = true := by simpa using h0
    clear hr2 hx2 hb2 hz2 hc2 HK h0
    go_wp2_with fail
    go_ret
    exact ⟨rfl, HB2.out⟩
  have HCL := Lib.hid (hc2 h0).1
  have HCF := Lib.hid (closed_fails h0 (hc2 h0).1)
  have hfe := (hc2 h0).2
  obtain ⟨e1, e2, e3⟩ := failsE_pairs HCF.out.1
  have HFE := Lib.hid (And.intro (hfe.trans e1) (And.intro e2 e3))
  have HRG := Lib.hid HCL.out.facts.2
  have HON := Lib.hid HCF.out.2
  rw [h0]
  clear hr2 hx2 hb2 hz2 hc2 HK h0 hfe e1 e2 e3 HCF HCL
  go_wp2_with (first | ((with_reducible refine gate_dst (N := 35) rfl ?_); refine Kd.R_lit (Kd.slice 49 k49) w2.heap.size 44 ?hg (N := 35) ?hd (xs := ([] : List (List S49))) (inner := []) (ok := fun _ => True) (okp := fun _ => True) ?hr ?hp (fun _ hk => hk) trivial (Below.refl _ _) (Nat.le_refl _) (by simp) ?_; (case hd => rfl); (case hg => rfl); (case hr => first | (go_simp; done) | (go_simp; rfl)); (case hp => exact (Reps.none _ _)); intro v35 w3 ho3 hb3 hg_ hnew_; have HW3 := Lib.hid ho3; have HB3 := Lib.hid hb3; clear hg_ hnew_ ho3 hb3) | fail)
  go_loopg [10, 11] o.length (fun gk v10 v11 wr => ∃ i : Nat, v11 = .int .i64 i ∧ gk = o.length - i ∧ Hid (i ≤ o.length) ∧ Hid (Kd.R (Kd.slice 49 k49) 44 wr w2.heap.size (fun _ => True) v10 (wantsL l (o.take i))) ∧ Hid (Below w2.heap.size w2 wr))
  case atStart => exact ⟨0, rfl, by simp, Lib.hid (Nat.zero_le _), HW3, HB3⟩
  case round =>
    clear HW3 HB3
    obtain ⟨i, rfl, rfl, HI, HR, HB⟩ := hrel
    obtain ⟨ws, hws⟩ : ∃ ws, ws = wantsL l (o.take i) := ⟨_, rfl⟩
    rw [← hws] at HR
    have HWS := Lib.hid hws
    have HWL := Lib.hid (show ws.length ≤ 256 by rw [hws, wantsL_len]; have := pairsL_len l (o.take i); rw [List.length_take] at this; have := HON.out; omega)
    clear hws
    obtain ⟨B5, d5, rfl⟩ := Kd.R_slice HR.out
    by_cases hlt : i < o.length
    · have hlt' : (i : Int) < (o.length : Int) := by omega
      have hwi : wrap64 ((i : Int) + 1) = ((i + 1 : Nat) : Int) := wsucc i (by have := HON.out; omega)
      have HLI := Lib.hid hlt
      obtain ⟨ab, eab, qb⟩ := Kd.at_int (Kd.C_below (Kd.R_reads' HO2.out).2.2 HB.out) (i : Int) (by omega) hlt'
      subst eab
      rw [Int.toNat_natCast] at qb
      have HTK := Lib.hid (take_rd o i hlt)
      obtain ⟨n, hn⟩ : ∃ n, n = rd o (i : Int) := ⟨_, rfl⟩
      have HMEM := Lib.hid (show n ∈ o by rw [hn, rd_nat, Int.toNat_natCast, at_get o i hlt]; exact List.getElem_mem _)
      rw [← hn] at qb HTK
      have n0 : (0 : Int) ≤ n := (HRG.out n HMEM.out).1
      have n1 : n < (l.length : Int) := (HRG.out n HMEM.out).2
      have n2 : decide (n < 0) = false := decide_eq_false (by omega)
      have n3 : decide ((l.length : Int) ≤ n) = false := decide_eq_false (by omega)
      obtain ⟨ad, A4, c4, ead, p0, p1, p2, p3, p4, p5, p6, p7, p8⟩ := at_T33 (Kd.C_below HL.out.1 (below_step HB2.out HB.out)) n n0 n1
      subst ead
      have HWN := Lib.hid (show wantsL l (o.take (i + 1)) = ws ++ (if failsP (rd_T33 l n) = true then [[leafOf (kindP (rd_T33 l n)) (rd_T33 l n).f5.f1]] else []) by rw [HTK.out.1, wantsL_app, ← HWS.out]; rfl)
      obtain ⟨x, hx⟩ : ∃ x, x = rd_T33 l n := ⟨_, rfl⟩
      rw [← hx] at p0 p1 p2 p3 p4 p5 p6 p7 p8 HWN
      clear hx hn hlt p0 p1 p2 p3 p4 p7 p8 HTK HMEM
      go_upto_region 13 with fail
      obtain ⟨w4, e4⟩ : ∃ w4, w4 = wr.alloc (.cells #[.int .i64 x.f5.f0, .string x.f5.f1] 31) := ⟨_, rfl⟩
      have hbw : Below wr.heap.size wr w4 := by rw [e4]; exact below_alloc (Below.refl _ _) _
      have k4 : w4.heap[wr.heap.size]? = some (.cells #[.int .i64 x.f5.f0, .string x.f5.f1] 31 (0, 0)) := by rw [e4]; exact blk_new _ _
      rw [← e4]
      obtain ⟨bx, hbx⟩ : ∃ bx, bx = wr.heap.size := ⟨_, rfl⟩
      rw [← hbx] at k4 ⊢
      have HR4 := Lib.hid (Kd.R_below HR.out hbw)
      have HB4 := Lib.hid (below_step HB.out hbw)
      have HLT := Lib.hid (fun k (hk : (Value.slice B5 ws.length d5).ownBlock = some k) => Kd.R_lt HR4.out k hk)
      have HK4 := Lib.hid k4
      have q0 := (blk_cell k4 0).trans rfl
      have q1 := (blk_cell k4 1).trans rfl
      clear e4 hbw k4 hbx p5 p6 qb HR HB
      by_cases h2 : x.f5.f0 = 2
      · have HF := Lib.hid (show failsP x = true by unfold failsP; simp [h2])
        have HKP := Lib.hid (show kindP x = 1 by unfold kindP; simp [h2])
        have HZ := Lib.hid (show wantsL l (o.take (i + 1)) = ws ++ [[leafOf 1 x.f5.f1]] by rw [HWN.out, if_pos HF.out, HKP.out])
        have HM := Lib.hid (lit49 w4 (leafOf 1 x.f5.f1))
        have HBA := Lib.hid (below_alloc (Below.refl w4.heap.size w4) (.cells #[.int .i64 1, .int .i64 0, .string x.f5.f1] 49))
        rw [h2] at q0 HK4
        clear h2
        go_wp2_with (first | ((with_reducible refine gate_builtin (b := .append) (xs := #[.tmp 67, .tmp 72]) rfl ?_); at_builtin; refine Kd.R_append (Kd.slice 49 k49) (w0 := w2) (W := w4.alloc (.cells #[.int .i64 1, .int .i64 0, .string x.f5.f1] 49)) w2.heap.size rfl (.tmp 67) (.tmp 72) 53 44 (.slice none 0 0) 24 rfl Tryd.underlying53 info44 rfl (by decide) (by omega) (.slice B5 ws.length d5) ws [leafOf 1 x.f5.f1] [.slice (some ⟨w4.heap.size, 0, none⟩) 1 1] (fun _ => True) (fun k => True ∧ some k ≠ (Value.slice B5 ws.length d5).ownBlock) rfl (by first | rfl | (rw [World.size_alloc]; rfl)) ⟨_, rfl, Kd.R_lower (R_fresh (w := w4) HM.out HLT.out) HB4.out.size⟩ (fun _ hk => hk) (fun _ _ => trivial) (Kd.R_below HR4.out HBA.out) (below_step HB4.out HBA.out) (below_step HB4.out HBA.out).size (by have := HWL.out; omega) ?_; intro v8 w8 ho hb hg hat; have HR8 := Lib.hid ho; have HB8 := Lib.hid hb; have HX8 := Lib.hid (show w8.heap[bx]? = some (.cells #[.int .i64 2, .string x.f5.f1] 31 (0, 0)) from (hg.block bx (blk_lt (blk_below HK4.out HBA.out)) (fun e => by obtain ⟨cs, hcs⟩ := Kd.R_typed (Kd.R_below HR4.out HBA.out) bx e.symm; rw [blk_below HK4.out HBA.out] at hcs; injection hcs with hcs; injection hcs with _ h2 _; exact absurd h2 (by decide))).trans (blk_below HK4.out HBA.out)); have z0 := (blk_cell HX8.out 0).trans rfl; clear ho hb hg hat q0 q1) | fail)
        go_roundg (o.length - (i + 1))
        case measure => exact Nat.sub_lt_sub_left HLI.out (Nat.lt_succ_self _)
        case rel => exact ⟨i + 1, by first | rfl | rw [hwi], rfl, Lib.hid HLI.out, Lib.hid (by rw [HZ.out]; exact HR8.out), HB8⟩
      by_cases h3 : x.f5.f0 = 3
      · have HF := Lib.hid (show failsP x = true by unfold failsP; simp [h3])
        have HKP := Lib.hid (show kindP x = 2 by unfold kindP; simp [h3])
        have HZ := Lib.hid (show wantsL l (o.take (i + 1)) = ws ++ [[leafOf 2 x.f5.f1]] by rw [HWN.out, if_pos HF.out, HKP.out])
        have HM := Lib.hid (lit49 w4 (leafOf 2 x.f5.f1))
        have HBA := Lib.hid (below_alloc (Below.refl w4.heap.size w4) (.cells #[.int .i64 2, .int .i64 0, .string x.f5.f1] 49))
        rw [h3] at q0 HK4
        clear h3
        go_wp2_with (first | ((with_reducible refine gate_builtin (b := .append) (xs := #[.tmp 77, .tmp 82]) rfl ?_); at_builtin; refine Kd.R_append (Kd.slice 49 k49) (w0 := w2) (W := w4.alloc (.cells #[.int .i64 2, .int .i64 0, .string x.f5.f1] 49)) w2.heap.size rfl (.tmp 77) (.tmp 82) 53 44 (.slice none 0 0) 24 rfl Tryd.underlying53 info44 rfl (by decide) (by omega) (.slice B5 ws.length d5) ws [leafOf 2 x.f5.f1] [.slice (some ⟨w4.heap.size, 0, none⟩) 1 1] (fun _ => True) (fun k => True ∧ some k ≠ (Value.slice B5 ws.length d5).ownBlock) rfl (by first | rfl | (rw [World.size_alloc]; rfl)) ⟨_, rfl, Kd.R_lower (R_fresh (w := w4) HM.out HLT.out) HB4.out.size⟩ (fun _ hk => hk) (fun _ _ => trivial) (Kd.R_below HR4.out HBA.out) (below_step HB4.out HBA.out) (below_step HB4.out HBA.out).size (by have := HWL.out; omega) ?_; intro v8 w8 ho hb hg hat; have HR8 := Lib.hid ho; have HB8 := Lib.hid hb; have HX8 := Lib.hid (show w8.heap[bx]? = some (.cells #[.int .i64 3, .string x.f5.f1] 31 (0, 0)) from (hg.block bx (blk_lt (blk_below HK4.out HBA.out)) (fun e => by obtain ⟨cs, hcs⟩ := Kd.R_typed (Kd.R_below HR4.out HBA.out) bx e.symm; rw [blk_below HK4.out HBA.out] at hcs; injection hcs with hcs; injection hcs with _ h2 _; exact absurd h2 (by decide))).trans (blk_below HK4.out HBA.out)); have z0 := (blk_cell HX8.out 0).trans rfl; clear ho hb hg hat q0 q1) | fail)
        go_roundg (o.length - (i + 1))
        case measure => exact Nat.sub_lt_sub_left HLI.out (Nat.lt_succ_self _)
        case rel => exact ⟨i + 1, by first | rfl | rw [hwi], rfl, Lib.hid HLI.out, Lib.hid (by rw [HZ.out]; exact HR8.out), HB8⟩
      have HF := Lib.hid (show failsP x = false by unfold failsP; simp [h2, h3])
      have HZ := Lib.hid (show wantsL l (o.take (i + 1)) = ws by rw [HWN.out, if_neg (by rw [HF.out]; decide), List.append_nil])
      have g2 : (x.f5.f0 == 2) = false := by simpa using h2
      have g3 : (x.f5.f0 == 3) = false := by simpa using h3
      have g2d : decide (x.f5.f0 = 2) = false := by simpa using h2
      have g3d : decide (x.f5.f0 = 3) = false := by simpa using h3
      clear HK4 HWN
      generalize x.f5.f0 = xk at *
      go_wp2_with fail
      go_roundg (o.length - (i + 1))
      case measure => exact Nat.sub_lt_sub_left HLI.out (Nat.lt_succ_self _)
      case rel => exact ⟨i + 1, by first | rfl | rw [hwi], rfl, Lib.hid HLI.out, Lib.hid (by rw [HZ.out]; exact HR4.out), HB4⟩
    · have hlt' : ¬ (i : Int) < (o.length : Int) := by omega
      have hti : o.take i = o := List.take_of_length_le (by omega)
      have HWE := Lib.hid (show ws = wantsL l o by rw [HWS.out, hti])
      have HWP := Lib.hid (show ws.length = (pairsL l o).length by rw [HWE.out, wantsL_len])
      have HBF := Lib.hid (below_step HB2.out HB.out)
      clear hlt hti
      by_cases hz : ws.length = 0
      · have hz1 : (ws.length : Int) = 0 := by omega
        have HFN := Lib.hid (show f = [] by rw [HFE.out.1, List.eq_nil_of_length_eq_zero (HWP.out.symm.trans hz)]; rfl)
        have hf0 : (f.length : Int) = 0 := by rw [HFN.out]; rfl
        clear hz
        go_wp2_with fail
        go_ret
        exact ⟨by first | rfl | simp, HBF.out⟩
      have hz1 : ¬ (ws.length : Int) = 0 := by omega
      have hz2 : ((ws.length : Int) == 0) = false := by simpa using hz1
      have hz3 : decide ((ws.length : Int) = 0) = false := by simpa using hz1
      have hz4 : decide (ws.length = 0) = false := by simpa using hz
      have hne : pairsL l o ≠ [] := fun e => hz (by rw [HWP.out, e]; rfl)
      have hok : OkF f := by rw [HFE.out.1]; exact (joinL_ok HFE.out.2.1 HFE.out.2.2 hne).1
      have hlv : leavesL f = ws := by rw [HFE.out.1, HWE.out]; exact leaves_join l o HFE.out.2.1 HFE.out.2.2
      have HLS := Lib.hid (fleaves_is wr X2 y2 f (HLA.out.below HBF.out) (Kd.C_below (Kd.R_reads' HF2.out).2.2 HB.out) hok)
      rw [hlv] at HLS
      clear hz hne hok hlv
      go_wp2_with fail
      refine HLS.out.mono ?_
      rintro _ w5 ⟨v5, rfl, hr5, hb5⟩
      obtain ⟨B6, d6, rfl⟩ := Kd.R_slice hr5
      have HR5 := Lib.hid (Kd.R_reads' hr5).2.2
      have HR6 := Lib.hid (Kd.C_below (Kd.R_reads' HR.out).2.2 hb5)
      have HB5 := Lib.hid (below_step HBF.out hb5)
      clear hr5 hb5 HLS hz1 hz2 hz3 hz4
      have hnn : ((ws.length : Int) != (ws.length : Int)) = false := by simp
      go_wp2_with fail
      clear hnn
      go_loopg [14] ws.length (fun gk v14 wr2 => ∃ j : Nat, v14 = .int .i64 j ∧ gk = ws.length - j ∧ Hid (j ≤ ws.length) ∧ Hid (∃ n, wr2 = w5.drewN n))
      case atStart => exact ⟨0, rfl, by simp, Lib.hid (Nat.zero_le _), Lib.hid ⟨0, rfl⟩⟩
      case round =>
        obtain ⟨j, rfl, rfl, HJ, HX⟩ := hrel
        by_cases hlt : j < ws.length
        · have hlt2 : (j : Int) < (ws.length : Int) := by omega
          have hwj : wrap64 ((j : Int) + 1) = ((j + 1 : Nat) : Int) := wsucc j (by have := HWL.out; omega)
          have HLJ := Lib.hid hlt
          obtain ⟨n, hwn⟩ := HX.out
          have hA := Kd.C_below HR5.out (pw_below_drewN (Below.refl w5.heap.size w5) n)
          have hB := Kd.C_below HR6.out (pw_below_drewN (Below.refl w5.heap.size w5) n)
          rw [← hwn] at hA hB
          have HWN := Lib.hid hwn
          obtain ⟨ap, A7, c7, eap, p0, p1, p2⟩ := at_L7 hA (j : Int) (by omega) hlt2
          subst eap
          obtain ⟨bp, A8, c8, ebp, q0, q1, q2⟩ := at_L7 hB (j : Int) (by omega) hlt2
          subst ebp
          rw [Int.toNat_natCast] at p0 q0
          have j0 : (0 : Int) ≤ (j : Int) := Int.natCast_nonneg j
          have HXL := Lib.hid (show (rd_L7 ws (j : Int)).length ≤ 1048576 from by
            have hm : ∀ o : List Int, ∀ p ∈ wantsL l o, p.length ≤ 1 := by
              intro o
              induction o with
              | nil => intro p hp; exact absurd hp (by simp [wantsL])
              | cons a r ih =>
                intro p hp
                rw [wantsL] at hp
                split at hp
                · rcases List.mem_cons.1 hp with e | hp
                  · rw [e]; simp
                  · exact ih p hp
                · exact ih p hp
            have hm2 : rd_L7 ws (j : Int) ∈ wantsL l o := by rw [← HWE.out]; exact (take_flat ws j hlt).2
            have := hm o _ hm2
            omega)
          generalize rd_L7 ws (j : Int) = p at *
          have HSM := Lib.hid (fun (m : Nat) => sameFail_is (wr.drewN m) A7 A8 c7 c8 p (Kd.C_below p2 (pw_below_drewN (Below.refl wr.heap.size wr) m)) (Kd.C_below q2 (pw_below_drewN (Below.refl wr.heap.size wr) m)) HXL.out)
          clear hlt p1 p2 q1 q2 hA hB hwn HX
          go_wp2_with fail
          go_quiet (((go_at_call 23; exact Calls.quiet_of (HSM.out _))))
          go_wp2_with fail
          go_roundg (ws.length - (j + 1))
          case measure => exact Nat.sub_lt_sub_left HLJ.out (Nat.lt_succ_self _)
          case rel => exact ⟨j + 1, by first | rfl | rw [hwj], rfl, Lib.hid HLJ.out, Lib.hid ⟨_, by rw [HWN.out, World.drewN_drewN]⟩⟩
        · have hlt2 : ¬ (j : Int) < (ws.length : Int) := by omega
          obtain ⟨n, hwn⟩ := HX.out
          have HBZ := Lib.hid (show Below w.heap.size w wr from by rw [hwn]; exact HB5.out.trans (pw_below_drewN (Below.refl _ _) n))
          clear hlt hwn HX
          go_wp2_with fail
          go_ret
          exact ⟨rfl, HBZ.out⟩
end Go.Proofs.YtccjclmjoegibaaDoor.Ce
