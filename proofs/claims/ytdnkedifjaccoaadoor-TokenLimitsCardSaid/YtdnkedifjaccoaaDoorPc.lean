/- Until. A new tree. Who is due: the two closures of Advance, IndexFunc, DeleteFunc. -/
import Derived.Test.YtdnkedifjaccoaaDoorPb
import Derived.Carry
import Derived.Shelf.SlicesE.DeleteFunc
namespace Go.Proofs.YtdnkedifjaccoaaDoor.Ce
open Go.RowKit Go.Maps Go.Shelf Go.Lib Go.Proofs Go.Proofs.YtdnkedifjaccoaaDoor Go.Proofs.YtdnkedifjaccoaaDoorW.PrintWords Go.Proofs.YtdnkedifjaccoaaDoorW.PrintLast Go.Proofs.YtdnkedifjaccoaaDoorW.PrintMore PToken
set_option linter.unusedVariables false
set_option linter.unusedSimpArgs false
section
variable {X : Nat → Prop} {w w' : World} {b : Nat} {T : Tree} {s : Sh}
theorem setDl_tk (T : Tree) (i j : Nat) (d : Int) (hi : i < T.toks.length) : ((T.setDl i d).tk j).name = (T.tk j).name ∧ ((T.setDl i d).tk j).par = (T.tk j).par ∧ ((T.setDl i d).tk j).why = (T.tk j).why ∧ ((T.setDl i d).tk j).done = (T.tk j).done := by
  rw [Tree.tk_setDl T i j d hi]
  by_cases e : j = i
  · subst e; rw [if_pos rfl]; exact ⟨rfl, rfl, rfl, rfl⟩
  · rw [if_neg e]; exact ⟨rfl, rfl, rfl, rfl⟩
theorem Tm.setDl (h : Tm X w b T s) {i : Nat} (hi : i < T.toks.length) (d : Int) : Tm X (w.setCell ⟨s.gg i, 2, none⟩ (.int .i64 d)) b (T.setDl i d) s := by
  have hf : ∀ k, k ≠ s.gg i → (w.setCell ⟨s.gg i, 2, none⟩ (.int .i64 d)).heap[k]? = w.heap[k]? := fun k hk => far_set 2 _ hk
  have hlen := Tree.setDl_len T i d
  have hk := fun j => setDl_tk T i j d hi
  have hz : (w.setCell ⟨s.gg i, 2, none⟩ (.int .i64 d)).heap.size = w.heap.size := by simp [World.setCell]
  have hrow : ∀ {n : Nat} {v : Value} {xs : List Value}, w.ownsRow 3 63 1 v n xs → (w.setCell ⟨s.gg i, 2, none⟩ (.int .i64 d)).ownsRow 3 63 1 v n xs := fun hr => own_move hr (fun k hk => hf k (fun e => ne_row (h.tok i hi) hr (by decide) (e ▸ hk)))
  have hfind : ∀ nm, (T.setDl i d).find nm = T.find nm := fun nm => by
    unfold Tree.find
    rw [hlen]
    simp only [(hk _).1]
  refine ⟨(hf b (ne_type h.tree (h.tok i hi) (by decide))).trans h.tree, (hf s.c (ne_type h.clock (h.tok i hi) (by decide))).trans h.clock, h.len.trans hlen.symm, hrow h.all, hrow h.ord, fun j hj => ?_, fun j hj => ?_, fun j hj => ?_, h.nodup, ?_, h.ao, fun j k hj => h.pa j k (hlen ▸ hj), fun k hk => by rw [hz]; exact h.dom k hk, h.xb, h.xc, h.xm, fun j hj => h.xg j (hlen ▸ hj), h.xa, h.xo, fun j k hj => h.xp j k (hlen ▸ hj)⟩
  · rw [hlen] at hj
    rw [Tree.tk_setDl T i j d hi]
    by_cases e : j = i
    · subst e; rw [if_pos rfl]; exact (blk_set (h.tok j hj) 2 _).trans rfl
    · rw [if_neg e]; exact (hf _ (fun e2 => e (h.gg_inj hj hi e2))).trans (h.tok j hj)
  · rw [hlen] at hj
    rw [(hk j).2.1]; exact hrow (h.par j hj)
  · rw [hlen] at hj
    rw [(hk j).2.2.1]
    exact Kd.R_mono (Kd.R_move (why_ne (h.why j hj) (h.tok i hi) (by decide)) (fun k hk => hf k hk.2)) (fun k hk => hk.1)
  · obtain ⟨n, D, h1, h2, h3⟩ := h.map
    refine ⟨n, D, hlen ▸ h1, map_move h2 (hf s.m (fun e => ne_map (h.tok i hi) h2 e)), fun nm => ?_⟩
    rw [h3]
    unfold Tree.nameN
    rw [hfind]
theorem NS.setDl (h : NS T) {i : Nat} (hi : i < T.toks.length) (d : Int) : NS (T.setDl i d) := fun j hj => by
  rw [Tree.setDl_len] at hj
  have hk := setDl_tk T i j d hi
  rw [hk.1, hk.2.1, hk.2.2.1]; exact h j hj
def Tree.untilE (T : Tree) (nm : ByteArray) (d : Int) : Int := match T.find nm with
  | none => 4
  | some _ => if d < 0 ∨ d > 1099511627776 then 1 else 0
theorem newN_ord {U V : Tree} (h : U.ord = T.ord) : newN U V = newN T V := by unfold newN; rw [h]
theorem late_is (w : World) : Calls Tryd.prog 34 #[] w fun e w' => ∃ A c, e = .returned (.slice A Tree.lateL.length c) ∧ Kd.C k56 w' A Tree.lateL.length Tree.lateL ∧ Below w.heap.size w w' :=
  (token_late.calls Tree.lateL w rfl).mono (by
    rintro _ w' ⟨v, rfl, hr, hb⟩
    obtain ⟨A, c, rfl, -, hc⟩ := Kd.R_reads hr
    exact ⟨A, c, rfl, hc, hb⟩)
set_option maxHeartbeats 2000000 in
theorem Until_is (h : Tm X w b T s) (G : Tree.Good T) (hns : NS T) (hla : LaidF w) (nm : ByteArray) (hn : nm.size ≤ maxLen) (d : Int) :
    Calls Tryd.prog 18 #[.pointer (some ⟨b, 0, none⟩), .string nm, .int .i64 d] w fun e w' => Ans X w b T (T.untilC nm d) (T.untilE nm d) e w' := by
  obtain ⟨c0, c1, c2, c3, cf⟩ := h.cells
  have HT := Lib.hid (And.intro h hla)
  cases hfi : T.find nm with
  | none =>
    have HF := Lib.hid (show optP s (T.find nm) = none by rw [hfi]; rfl)
    rw [show T.untilC nm d = T by unfold Tree.untilC; rw [hfi], show T.untilE nm d = 4 by unfold Tree.untilE; rw [hfi]]
    clear h hfi hns G hla
    go_enter Tryd.func18, Tryd.ntmps18
    go_wp2_with (first | (at_lookup; refine wpList_name HT.out.1 rfl _ _ rfl rfl nm rfl hn ?_; rw [HF.out]))
    go_ret2
    exact ⟨_, X, s, rfl, Api.refl HT.out.1 HT.out.2, by rw [newN_self]; exact StrO.nil _ _ _⟩
  | some i =>
    have HF := Lib.hid (show optP s (T.find nm) = some ⟨s.gg i, 0, none⟩ by rw [hfi]; rfl)
    have hi := (Tree.find_some hfi).1
    by_cases hr : d < 0 ∨ d > 1099511627776
    · rw [show T.untilC nm d = T by unfold Tree.untilC; rw [hfi]; exact if_pos hr, show T.untilE nm d = 1 by unfold Tree.untilE; rw [hfi]; exact if_pos hr]
      clear h hfi hns G hla hi
      by_cases hr1 : d < 0
      · clear hr
        go_enter Tryd.func18, Tryd.ntmps18
        go_wp2_with (first | (at_lookup; refine wpList_name HT.out.1 rfl _ _ rfl rfl nm rfl hn ?_; rw [HF.out]))
        go_ret2
        exact ⟨_, X, s, rfl, Api.refl HT.out.1 HT.out.2, by rw [newN_self]; exact StrO.nil _ _ _⟩
      · have hr2 : (1099511627776 : Int) < d := by omega
        clear hr
        go_enter Tryd.func18, Tryd.ntmps18
        go_wp2_with (first | (at_lookup; refine wpList_name HT.out.1 rfl _ _ rfl rfl nm rfl hn ?_; rw [HF.out]))
        go_ret2
        exact ⟨_, X, s, rfl, Api.refl HT.out.1 HT.out.2, by rw [newN_self]; exact StrO.nil _ _ _⟩
    · have hr1 : ¬ d < 0 := by omega
      have hr2 : ¬ (1099511627776 : Int) < d := by omega
      rw [show T.untilE nm d = 0 by unfold Tree.untilE; rw [hfi]; exact if_neg hr]
      have hU : T.untilC nm d = (if ((T.untilT i d).tk i).dl > T.now then T.untilT i d else (T.untilT i d).cancel i Tree.lateL) := by unfold Tree.untilC; rw [hfi]; exact if_neg hr
      obtain ⟨-, -, t2, -, -, tf⟩ := h.tcells i hi
      have tf2 := tf 2
      clear hr tf cf
      have hcases : (T.tk i).dl < 0 ∨ (¬ (T.tk i).dl < 0 ∧ d < (T.tk i).dl) ∨ (¬ (T.tk i).dl < 0 ∧ ¬ d < (T.tk i).dl) := by omega
      rcases hcases with hd1 | ⟨hd1, hd2⟩ | ⟨hd1, hd2⟩
      · have hu : T.untilT i d = T.setDl i d := by unfold Tree.untilT; exact if_pos (Or.inl hd1)
        have hdl : ((T.setDl i d).tk i).dl = d := by rw [Tree.tk_setDl T i i d hi, if_pos rfl]
        rw [hu, hdl] at hU
        have h1 := h.setDl hi d
        have hla1 : LaidF (w.setCell ⟨s.gg i, 2, none⟩ (.int .i64 d)) := laid_chg hla ((Chg.refl X w).setCell (h.xg i hi) _) (fun k hk => (h.dom k hk).1)
        have G1 := G.setDl i d hi (Int.not_lt.1 hr1) (Int.not_lt.1 hr2)
        have hns1 := hns.setDl hi d
        have hi1 : i < (T.setDl i d).toks.length := by rw [Tree.setDl_len]; exact hi
        have hapi : Api X w b (T.setDl i d) X (w.setCell ⟨s.gg i, 2, none⟩ (.int .i64 d)) s := ⟨fun _ h => Or.inl h, h1, (Chg.refl X w).setCell (h.xg i hi) _, hla1⟩
        obtain ⟨wq, hwq⟩ : ∃ wq, wq = (w.setCell ⟨s.gg i, 2, none⟩ (.int .i64 d)) := ⟨_, rfl⟩
        rw [← hwq] at h1 hla1 hapi
        have HWQ := Lib.hid hwq
        clear hwq
        have HNW := Lib.hid (fun (n : Nat) => (now_is (h1.drewN n)).mono (fun e w1 hh => (show e = .returned (.int .i64 T.now) ∧ ∃ q, w1 = (wq.drewN n).drewN q from ⟨hh.1, 0, hh.2⟩)))
        have HCN := Lib.hid (fun (n : Nat) (w1 : World) (hb : Below (wq.drewN n).heap.size (wq.drewN n) w1) (A : Option Addr) (c : Nat) (hf : Kd.C k56 w1 A Tree.lateL.length Tree.lateL) => cancel_named ((h1.drewN n).below hb) G1 hns1 (laid_chg (hla1.below (pw_below_drewN (Below.refl _ _) n)) (Chg.of_below hb : Chg X _ _) (fun k hk => (h.dom k hk).1)) hi1 A c Tree.lateL hf)
        have HAP := Lib.hid hapi
        have HU := Lib.hid hU
        obtain ⟨-, -, q2, -, -, -⟩ := h1.tcells i hi1
        rw [hdl] at q2
        by_cases hlt : d > T.now
        · have HE := Lib.hid (show T.untilC nm d = (T.setDl i d) by rw [HU.out]; exact if_pos hlt)
          have hz : T.now < d := hlt
          clear h hfi hns G hla hi hu hU h1 hla1 G1 hns1 hi1 hapi hlt hdl
          go_enter Tryd.func18, Tryd.ntmps18
          go_upto_region 8 with (first | (at_lookup; refine wpList_name HT.out.1 rfl _ _ rfl rfl nm rfl hn ?_; rw [HF.out]) | fail)
          rw [← HWQ.out]
          have hc := HNW.out
          go_quiet (first | (go_at_call 14; refine Calls.quiet_of (hc _)))
          clear hc
          go_wp2_with fail
          go_ret2
          rw [HE.out]
          exact ⟨_, X, s, rfl, Api.below HAP.out (pw_below_drewN (Below.refl _ _) _), by rw [← newN_ord (T := T) (U := (T.setDl i d)) rfl, newN_self]; exact StrO.nil _ _ _⟩
        · have HE := Lib.hid (show T.untilC nm d = (T.setDl i d).cancel i Tree.lateL by rw [HU.out]; exact if_neg hlt)
          have hz : ¬ T.now < d := hlt
          clear h hfi hns G hla hi hu hU h1 hla1 G1 hns1 hi1 hapi hlt hdl
          go_enter Tryd.func18, Tryd.ntmps18
          go_upto_region 8 with (first | (at_lookup; refine wpList_name HT.out.1 rfl _ _ rfl rfl nm rfl hn ?_; rw [HF.out]) | fail)
          rw [← HWQ.out]
          have hc := HNW.out
          go_quiet (first | (go_at_call 14; refine Calls.quiet_of (hc _)))
          clear hc
          go_wp2_with (first | (go_at_call 34; refine (late_is _).mono ?_; rintro _ w1 ⟨A1, k1, rfl, hf1, hb1⟩; have HB1 := Lib.hid hb1; have HC1 := Lib.hid (HCN.out _ w1 hb1 A1 k1 hf1); clear hb1 hf1) | (go_at_call 33; refine HC1.out.mono ?_; rintro _ w3 ⟨v, rfl, -, hq⟩; have HQ := Lib.hid hq; clear hq) | (go_at_call 32; refine HQ.out.mono ?_; rintro _ w4 ⟨v2, X2, s2, rfl, ha, hv⟩; have HA := Lib.hid (And.intro ha hv); clear ha hv))
          go_ret2
          rw [HE.out]
          have hb := (pw_below_drewN (Below.refl _ _) _).trans HB1.out
          exact ⟨_, X2, s2, rfl, (Api.below HAP.out hb).trans HA.out.1, by rw [← newN_ord (T := T) (U := (T.setDl i d)) rfl]; exact Kd.R_lower HA.out.2 (Nat.le_trans HAP.out.chg.size hb.size)⟩
      · have hu : T.untilT i d = T.setDl i d := by unfold Tree.untilT; exact if_pos (Or.inr hd2)
        have hdl : ((T.setDl i d).tk i).dl = d := by rw [Tree.tk_setDl T i i d hi, if_pos rfl]
        rw [hu, hdl] at hU
        have h1 := h.setDl hi d
        have hla1 : LaidF (w.setCell ⟨s.gg i, 2, none⟩ (.int .i64 d)) := laid_chg hla ((Chg.refl X w).setCell (h.xg i hi) _) (fun k hk => (h.dom k hk).1)
        have G1 := G.setDl i d hi (Int.not_lt.1 hr1) (Int.not_lt.1 hr2)
        have hns1 := hns.setDl hi d
        have hi1 : i < (T.setDl i d).toks.length := by rw [Tree.setDl_len]; exact hi
        have hapi : Api X w b (T.setDl i d) X (w.setCell ⟨s.gg i, 2, none⟩ (.int .i64 d)) s := ⟨fun _ h => Or.inl h, h1, (Chg.refl X w).setCell (h.xg i hi) _, hla1⟩
        obtain ⟨wq, hwq⟩ : ∃ wq, wq = (w.setCell ⟨s.gg i, 2, none⟩ (.int .i64 d)) := ⟨_, rfl⟩
        rw [← hwq] at h1 hla1 hapi
        have HWQ := Lib.hid hwq
        clear hwq
        have HNW := Lib.hid (fun (n : Nat) => (now_is (h1.drewN n)).mono (fun e w1 hh => (show e = .returned (.int .i64 T.now) ∧ ∃ q, w1 = (wq.drewN n).drewN q from ⟨hh.1, 0, hh.2⟩)))
        have HCN := Lib.hid (fun (n : Nat) (w1 : World) (hb : Below (wq.drewN n).heap.size (wq.drewN n) w1) (A : Option Addr) (c : Nat) (hf : Kd.C k56 w1 A Tree.lateL.length Tree.lateL) => cancel_named ((h1.drewN n).below hb) G1 hns1 (laid_chg (hla1.below (pw_below_drewN (Below.refl _ _) n)) (Chg.of_below hb : Chg X _ _) (fun k hk => (h.dom k hk).1)) hi1 A c Tree.lateL hf)
        have HAP := Lib.hid hapi
        have HU := Lib.hid hU
        obtain ⟨-, -, q2, -, -, -⟩ := h1.tcells i hi1
        rw [hdl] at q2
        by_cases hlt : d > T.now
        · have HE := Lib.hid (show T.untilC nm d = (T.setDl i d) by rw [HU.out]; exact if_pos hlt)
          have hz : T.now < d := hlt
          clear h hfi hns G hla hi hu hU h1 hla1 G1 hns1 hi1 hapi hlt hdl
          go_enter Tryd.func18, Tryd.ntmps18
          go_upto_region 8 with (first | (at_lookup; refine wpList_name HT.out.1 rfl _ _ rfl rfl nm rfl hn ?_; rw [HF.out]) | fail)
          rw [← HWQ.out]
          have hc := HNW.out
          go_quiet (first | (go_at_call 14; refine Calls.quiet_of (hc _)))
          clear hc
          go_wp2_with fail
          go_ret2
          rw [HE.out]
          exact ⟨_, X, s, rfl, Api.below HAP.out (pw_below_drewN (Below.refl _ _) _), by rw [← newN_ord (T := T) (U := (T.setDl i d)) rfl, newN_self]; exact StrO.nil _ _ _⟩
        · have HE := Lib.hid (show T.untilC nm d = (T.setDl i d).cancel i Tree.lateL by rw [HU.out]; exact if_neg hlt)
          have hz : ¬ T.now < d := hlt
          clear h hfi hns G hla hi hu hU h1 hla1 G1 hns1 hi1 hapi hlt hdl
          go_enter Tryd.func18, Tryd.ntmps18
          go_upto_region 8 with (first | (at_lookup; refine wpList_name HT.out.1 rfl _ _ rfl rfl nm rfl hn ?_; rw [HF.out]) | fail)
          rw [← HWQ.out]
          have hc := HNW.out
          go_quiet (first | (go_at_call 14; refine Calls.quiet_of (hc _)))
          clear hc
          go_wp2_with (first | (go_at_call 34; refine (late_is _).mono ?_; rintro _ w1 ⟨A1, k1, rfl, hf1, hb1⟩; have HB1 := Lib.hid hb1; have HC1 := Lib.hid (HCN.out _ w1 hb1 A1 k1 hf1); clear hb1 hf1) | (go_at_call 33; refine HC1.out.mono ?_; rintro _ w3 ⟨v, rfl, -, hq⟩; have HQ := Lib.hid hq; clear hq) | (go_at_call 32; refine HQ.out.mono ?_; rintro _ w4 ⟨v2, X2, s2, rfl, ha, hv⟩; have HA := Lib.hid (And.intro ha hv); clear ha hv))
          go_ret2
          rw [HE.out]
          have hb := (pw_below_drewN (Below.refl _ _) _).trans HB1.out
          exact ⟨_, X2, s2, rfl, (Api.below HAP.out hb).trans HA.out.1, by rw [← newN_ord (T := T) (U := (T.setDl i d)) rfl]; exact Kd.R_lower HA.out.2 (Nat.le_trans HAP.out.chg.size hb.size)⟩
      · have hu : T.untilT i d = T := by unfold Tree.untilT; exact if_neg (fun k => k.elim hd1 hd2)
        rw [hu] at hU
        have h1 := h
        have hla1 := hla
        have G1 := G
        have hns1 := hns
        have hi1 := hi
        have hapi : Api X w b T X w s := Api.refl h hla
        have HNW := Lib.hid (fun (n : Nat) => (now_is (h1.drewN n)).mono (fun e w1 hh => (show e = .returned (.int .i64 T.now) ∧ ∃ q, w1 = (w.drewN n).drewN q from ⟨hh.1, 0, hh.2⟩)))
        have HCN := Lib.hid (fun (n : Nat) (w1 : World) (hb : Below (w.drewN n).heap.size (w.drewN n) w1) (A : Option Addr) (c : Nat) (hf : Kd.C k56 w1 A Tree.lateL.length Tree.lateL) => cancel_named ((h1.drewN n).below hb) G1 hns1 (laid_chg (hla1.below (pw_below_drewN (Below.refl _ _) n)) (Chg.of_below hb : Chg X _ _) (fun k hk => (h.dom k hk).1)) hi1 A c Tree.lateL hf)
        have HAP := Lib.hid hapi
        have HU := Lib.hid hU
        obtain ⟨-, -, q2, -, -, -⟩ := h1.tcells i hi1
        by_cases hlt : (T.tk i).dl > T.now
        · have HE := Lib.hid (show T.untilC nm d = T by rw [HU.out]; exact if_pos hlt)
          have hz : T.now < (T.tk i).dl := hlt
          clear h hfi hns G hla hi hu hU h1 hla1 G1 hns1 hi1 hapi hlt
          go_enter Tryd.func18, Tryd.ntmps18
          go_upto_region 8 with (first | (at_lookup; refine wpList_name HT.out.1 rfl _ _ rfl rfl nm rfl hn ?_; rw [HF.out]) | fail)
          have hc := HNW.out
          go_quiet (first | (go_at_call 14; refine Calls.quiet_of (hc _)))
          clear hc
          go_wp2_with fail
          go_ret2
          rw [HE.out]
          exact ⟨_, X, s, rfl, Api.below HAP.out (pw_below_drewN (Below.refl _ _) _), by rw [← newN_ord (T := T) (U := T) rfl, newN_self]; exact StrO.nil _ _ _⟩
        · have HE := Lib.hid (show T.untilC nm d = T.cancel i Tree.lateL by rw [HU.out]; exact if_neg hlt)
          have hz : ¬ T.now < (T.tk i).dl := hlt
          clear h hfi hns G hla hi hu hU h1 hla1 G1 hns1 hi1 hapi hlt
          go_enter Tryd.func18, Tryd.ntmps18
          go_upto_region 8 with (first | (at_lookup; refine wpList_name HT.out.1 rfl _ _ rfl rfl nm rfl hn ?_; rw [HF.out]) | fail)
          have hc := HNW.out
          go_quiet (first | (go_at_call 14; refine Calls.quiet_of (hc _)))
          clear hc
          go_wp2_with (first | (go_at_call 34; refine (late_is _).mono ?_; rintro _ w1 ⟨A1, k1, rfl, hf1, hb1⟩; have HB1 := Lib.hid hb1; have HC1 := Lib.hid (HCN.out _ w1 hb1 A1 k1 hf1); clear hb1 hf1) | (go_at_call 33; refine HC1.out.mono ?_; rintro _ w3 ⟨v, rfl, -, hq⟩; have HQ := Lib.hid hq; clear hq) | (go_at_call 32; refine HQ.out.mono ?_; rintro _ w4 ⟨v2, X2, s2, rfl, ha, hv⟩; have HA := Lib.hid (And.intro ha hv); clear ha hv))
          go_ret2
          rw [HE.out]
          have hb := (pw_below_drewN (Below.refl _ _) _).trans HB1.out
          exact ⟨_, X2, s2, rfl, (Api.below HAP.out hb).trans HA.out.1, by rw [← newN_ord (T := T) (U := T) rfl]; exact Kd.R_lower HA.out.2 (Nat.le_trans HAP.out.chg.size hb.size)⟩
end
end Go.Proofs.YtdnkedifjaccoaaDoor.Ce
namespace Go.Proofs.YtdnkedifjaccoaaDoor.Ce
open Go.RowKit Go.Maps Go.Shelf Go.Lib Go.Proofs Go.Proofs.YtdnkedifjaccoaaDoor Go.Proofs.YtdnkedifjaccoaaDoorW.PrintWords Go.Proofs.YtdnkedifjaccoaaDoorW.PrintLast Go.Proofs.YtdnkedifjaccoaaDoorW.PrintMore PToken
set_option linter.unusedVariables false
set_option linter.unusedSimpArgs false
section
theorem cnew_is (w : World) : Calls Tryd.prog 41 #[] w fun e w' => e = .returned (.pointer (some ⟨w.heap.size, 0, none⟩)) ∧ w' = w.alloc (.cells #[.int .i64 0, .int .i64 0, .slice none 0 0] 87) := by
  go_enter Tryd.func41, Tryd.ntmps41
  go_wp2
  go_ret
  exact ⟨rfl, rfl⟩
def T0 : Tree := ⟨0, [], []⟩
theorem Tm.new {w : World} {b c m : Nat} (hla : 3 ≤ b ∧ 3 ≤ c ∧ 3 ≤ m) (hb : w.heap[b]? = some (.cells #[pt c, .slice none 0 0, .map (some m), .slice none 0 0] 61 (0, 0))) (hc : w.heap[c]? = some (.cells #[.int .i64 0, .int .i64 0, .slice none 0 0] 87 (0, 0)))
    (hm : w.ownsMap Tryd.prog 9 ptrElem m 0 (.map [])) : Tm (fun k => k = b ∨ k = c ∨ k = m) w b T0 ⟨c, m, .slice none 0 0, .slice none 0 0, [], fun _ => .slice none 0 0, fun _ => .slice none 0 0⟩ where
  tree := hb
  clock := hc
  len := rfl
  all := ⟨rfl, Or.inl ⟨rfl, rfl⟩⟩
  ord := ⟨rfl, Or.inl ⟨rfl, rfl⟩⟩
  tok := fun i hi => absurd hi (Nat.not_lt_zero _)
  par := fun i hi => absurd hi (Nat.not_lt_zero _)
  why := fun i hi => absurd hi (Nat.not_lt_zero _)
  nodup := List.nodup_nil
  map := ⟨0, .map [], Nat.le_refl _, hm, fun nm => rfl⟩
  ao := fun k hk => by simp [Value.ownBlock] at hk
  pa := fun i k hi => absurd hi (Nat.not_lt_zero _)
  dom := fun k hk => by
    rcases hk with rfl | rfl | rfl
    · exact ⟨hla.1, blk_lt hb⟩
    · exact ⟨hla.2.1, blk_lt hc⟩
    · exact ⟨hla.2.2, hm.lt⟩
  xb := Or.inl rfl
  xc := Or.inr (Or.inl rfl)
  xm := Or.inr (Or.inr rfl)
  xg := fun i hi => absurd hi (Nat.not_lt_zero _)
  xa := fun k hk => by simp [Value.ownBlock] at hk
  xo := fun k hk => by simp [Value.ownBlock] at hk
  xp := fun i k hi => absurd hi (Nat.not_lt_zero _)
/-- A tree that a call has made: blocks of its own. -/
def Fresh (w : World) (T : Tree) (e : Ending) (w' : World) : Prop := ∃ b X s, e = .returned (.pointer (some ⟨b, 0, none⟩)) ∧ (∀ k, X k → w.heap.size ≤ k) ∧ Tm X w' b T s ∧ Below w.heap.size w w' ∧ LaidF w'
theorem New_is (w : World) (hla : LaidF w) : Calls Tryd.prog 23 #[] w fun e w' => Fresh w T0 e w' := by
  have HL := Lib.hid hla
  clear hla
  have hmm := @run_makeMap Tryd.prog
  go_enter Tryd.func23, Tryd.ntmps23
  go_wp2_with (first | (go_at_call 41; refine (cnew_is w).mono ?_; rintro _ w1 ⟨rfl, rfl⟩))
  go_ret
  obtain ⟨W1, hW1⟩ : ∃ W1, W1 = w.alloc (.cells #[.int .i64 0, .int .i64 0, .slice none 0 0] 87) := ⟨_, rfl⟩
  have z1 : W1.heap.size = w.heap.size + 1 := by rw [hW1, World.size_alloc]
  have z3 := HL.out.size
  rw [← hW1]
  obtain ⟨W2, hW2⟩ : ∃ W2, W2 = W1.alloc (.map #[] 0) := ⟨_, rfl⟩
  have z2 : W2.heap.size = w.heap.size + 1 + 1 := by rw [hW2, World.size_alloc, z1]
  have hb1 : Below w.heap.size w W1 := by rw [hW1]; exact (Below.refl _ w).alloc (Nat.le_refl _) _
  have hb2 : Below w.heap.size w W2 := by rw [hW2]; exact hb1.alloc hb1.size _
  have hm : W2.ownsMap Tryd.prog 9 ptrElem W1.heap.size 0 (.map []) := by rw [hW2]; exact World.ownsMap_made W1 Tryd.prog 9 ptrElem
  have hc1 : W1.heap[w.heap.size]? = some (.cells #[.int .i64 0, .int .i64 0, .slice none 0 0] 87 (0, 0)) := by rw [hW1]; exact blk_new w _
  have hc2 : W2.heap[w.heap.size]? = some (.cells #[.int .i64 0, .int .i64 0, .slice none 0 0] 87 (0, 0)) := by rw [hW2]; exact blk_alloc hc1 _
  rw [← hW2, ← z2, ← z1]
  obtain ⟨W3, hW3⟩ : ∃ W3, W3 = W2.alloc (.cells #[.pointer (some ⟨w.heap.size, 0, none⟩), .slice none 0 0, .map (some W1.heap.size), .slice none 0 0] 61) := ⟨_, rfl⟩
  rw [← hW3]
  have hb3 : Below w.heap.size w W3 := by rw [hW3]; exact hb2.alloc hb2.size _
  refine ⟨W2.heap.size, _, _, rfl, ?_, Tm.new (c := w.heap.size) (m := W1.heap.size) ⟨by omega, by omega, by omega⟩ (by rw [hW3]; exact blk_new W2 _) (by rw [hW3]; exact blk_alloc hc2 _) (map_move hm (by rw [hW3]; exact Below.heap_alloc _ _ _ hm.lt)), hb3, HL.out.below hb3⟩
  intro k hk
  rcases hk with rfl | rfl | rfl <;> omega
end
end Go.Proofs.YtdnkedifjaccoaaDoor.Ce
namespace Go.Proofs.YtdnkedifjaccoaaDoor.Ce
open Go.RowKit Go.Maps Go.Shelf Go.Lib Go.Sort Go.Proofs Go.Proofs.YtdnkedifjaccoaaDoor Go.Proofs.YtdnkedifjaccoaaDoorW.PrintWords Go.Proofs.YtdnkedifjaccoaaDoorW.PrintLast Go.Proofs.YtdnkedifjaccoaaDoorW.PrintMore PToken
set_option linter.unusedVariables false
set_option linter.unusedSimpArgs false
section
variable {X : Nat → Prop} {w w' : World} {b : Nat} {T : Tree} {s : Sh}
/-- Whoever is not due. -/
def notDue (T : Tree) (now : Int) (i : Nat) : Bool := (T.tk i).done || (decide ((T.tk i).dl < 0) || decide (now < (T.tk i).dl))
theorem del_is (h : Tm X w b T s) {i : Nat} (hi : i < T.toks.length) (B : Nat) (hB : w.cell? ⟨B, 0, none⟩ = some (.pointer (some ⟨b, 0, none⟩))) :
    Calls Tryd.prog 29 #[.pointer (some ⟨s.gg i, 0, none⟩), .pointer (some ⟨B, 0, none⟩)] w fun e w' => e = .returned (.bool (notDue T T.now i)) ∧ ∃ q, w' = w.drewN q := by
  obtain ⟨-, -, t2, t3, -, -⟩ := h.tcells i hi
  have HNW := Lib.hid (fun (n : Nat) => (now_is (h.drewN n)).mono (fun e w1 hh => (show e = .returned (.int .i64 T.now) ∧ ∃ q, w1 = (w.drewN n).drewN q from ⟨hh.1, 0, hh.2⟩)))
  by_cases hd : (T.tk i).done = true
  · have HV := Lib.hid (show notDue T T.now i = true by unfold notDue; rw [hd]; rfl)
    rw [hd] at t3
    clear h hd hi
    go_enter Tryd.func29, Tryd.ntmps29
    go_wp2
    go_quiet (fail)
    go_wp2_with fail
    go_ret
    exact ⟨by rw [HV.out]; rfl, _, rfl⟩
  · have hd' : (T.tk i).done = false := by simpa using hd
    rw [hd'] at t3
    by_cases hl : (T.tk i).dl < 0
    · have HV := Lib.hid (show notDue T T.now i = true by unfold notDue; rw [hd', decide_eq_true hl]; rfl)
      clear h hd hi hd'
      go_enter Tryd.func29, Tryd.ntmps29
      go_wp2
      go_quiet (fail)
      go_wp2_with fail
      go_ret
      exact ⟨by rw [HV.out]; rfl, _, rfl⟩
    · have HV := Lib.hid (show notDue T T.now i = (decide ((T.tk i).dl < 0) || decide (T.now < (T.tk i).dl)) by unfold notDue; rw [hd']; rfl)
      clear h hd hi hd'
      have hc := HNW.out
      go_enter Tryd.func29, Tryd.ntmps29
      go_wp2
      go_quiet (first | (go_at_call 14; refine Calls.quiet_of (hc _)))
      go_wp2_with fail
      go_ret
      exact ⟨by rw [HV.out]; rfl, _, rfl⟩
theorem cmp_is (h : Tm X w b T s) (G : Tree.Good T) {i j : Nat} (hi : i < T.toks.length) (hj : j < T.toks.length) :
    Calls Tryd.prog 31 #[.pointer (some ⟨s.gg i, 0, none⟩), .pointer (some ⟨s.gg j, 0, none⟩)] w fun e w' => e = .returned (.int .i64 ((T.tk i).dl - (T.tk j).dl)) ∧ ∃ q, w' = w.drewN q := by
  obtain ⟨-, -, t2, -, -, -⟩ := h.tcells i hi
  obtain ⟨-, -, u2, -, -, -⟩ := h.tcells j hj
  have HW := Lib.hid (show wrap64 ((T.tk i).dl - (T.tk j).dl) = (T.tk i).dl - (T.tk j).dl from w64s (by have := G.dl i; have := G.dl j; omega) (by have := G.dl i; have := G.dl j; omega))
  clear h G hi hj
  go_enter Tryd.func31, Tryd.ntmps31
  go_wp2
  go_quiet (fail)
  go_wp2_with fail
  go_ret
  exact ⟨congrArg (fun x => Ending.returned (.int .i64 x)) HW.out, _, rfl⟩
/-- A pointer, or none where the block's number is 0. -/
def enc0 (b : Nat) : Value := if b = 0 then .pointer none else .pointer (some ⟨b, 0, none⟩)
theorem enc0_one : OneCell enc0 := fun x => by unfold enc0; split <;> rfl
theorem enc0_pt {b : Nat} (h : b ≠ 0) : enc0 b = .pointer (some ⟨b, 0, none⟩) := by unfold enc0; rw [if_neg h]
theorem eg29 : ∀ args w, (callFunc 29 args).run Tryd.prog w = .ok (.enter 29 args) w := enters_of Tryd.func29 (by kernel_rfl) rfl
theorem eg31 : ∀ args w, (callFunc 31 args).run Tryd.prog w = .ok (.enter 31 args) w := enters_of Tryd.func31 (by kernel_rfl) rfl
/-- The first place at which p holds. -/
def IdxIs (p : Nat → Bool) (d : Array Nat) (r : Int) : Prop := (r = -1 ∧ ∀ j, j < d.size → p d[j]! = false) ∨ ∃ k, k < d.size ∧ r = (k : Int) ∧ p d[k]! = true ∧ ∀ j, j < k → p d[j]! = false
set_option maxRecDepth 100000 in
theorem idx_is (p : Nat → Bool) (lb : Array Value) (blk cap : Nat) (d : Array Nat) (w : World) (hsz : d.size < 1000000) (hcall : ∀ j, j < d.size → ∀ q, Calls Tryd.prog 29 (#[enc0 d[j]!] ++ lb) (w.drewN q) fun e w' => e = .returned (.bool (p d[j]!)) ∧ ∃ qq, w' = (w.drewN q).drewN qq)
    (hH : Holds enc0 w blk 0 d) : Calls Tryd.prog 46 #[.slice (some ⟨blk, 0, none⟩) d.size cap, .func (.func 29) #[] lb] w fun e w' => (∃ r, e = .returned (.int .i64 r) ∧ IdxIs p d r) ∧ ∃ q, w' = w.drewN q := by
  have eg := eg29
  have hcl0 := enc0_one.cells
  simp only [Value.cells] at hcl0
  obtain ⟨n, hn⟩ : ∃ n, n = d.size := ⟨_, rfl⟩
  have HC := Lib.hid (And.intro hcall hH)
  rw [← hn]
  have HN := Lib.hid (And.intro hn hsz)
  clear hcall hH hn hsz
  go_enter Tryd.func46, Tryd.ntmps46
  go_wp2
  go_loopg [8] n (fun gk vi wr => ∃ (i q : Nat), vi = .int .i64 (i : Int) ∧ i ≤ n ∧ n ≤ i + gk ∧ wr = w.drewN q ∧ Hid (∀ j, j < i → p d[j]! = false))
  case atStart => exact ⟨0, 0, rfl, Nat.zero_le _, by omega, rfl, Lib.hid (fun j hj => absurd hj (Nat.not_lt_zero _))⟩
  case round =>
    obtain ⟨i, q, rfl, hi, hg, rfl, HI⟩ := hrel
    by_cases hlt : i < n
    · have hltz : (i : Int) < (n : Int) := Int.ofNat_lt.2 hlt
      obtain ⟨ci, -⟩ := HC.out.2 i (HN.out.1 ▸ hlt)
      rw [Nat.zero_add] at ci
      have hcall := HC.out.1 i (HN.out.1 ▸ hlt) q
      have ci' : (w.drewN q).cell? ⟨blk, i, none⟩ = some (enc0 d[i]!) := ci
      obtain ⟨u, hu⟩ : ∃ u, d[i]! = u := ⟨_, rfl⟩
      rw [hu] at ci' hcall
      have HU := Lib.hid hu
      have hi0 : (0 : Int) ≤ (i : Int) := Int.natCast_nonneg i
      have HW := Lib.hid (wsucc i (by have := HN.out; omega))
      have HL := Lib.hid (And.intro (Nat.succ_le_of_lt hlt) (And.intro (show n - (i + 1) < gk by omega) (And.intro (show n ≤ i + 1 + (n - (i + 1)) by omega) hlt)))
      clear ci hu hi hg hlt
      cases hq : p u with
      | true =>
        rw [hq] at hcall
        have HQ := Lib.hid hq
        clear hq
        go_wp2_with (first | (go_at_call 29; refine hcall.mono ?_; rintro _ w2 ⟨rfl, qq, rfl⟩))
        go_ret
        exact ⟨⟨_, rfl, Or.inr ⟨i, HN.out.1 ▸ HL.out.2.2.2, rfl, by rw [HU.out]; exact HQ.out, HI.out⟩⟩, q + qq, rfl⟩
      | false =>
        rw [hq] at hcall
        have HQ := Lib.hid hq
        clear hq
        go_wp2_with (first | (go_at_call 29; refine hcall.mono ?_; rintro _ w2 ⟨rfl, qq, rfl⟩))
        go_roundg (n - (i + 1))
        case measure => exact HL.out.2.1
        case rel => exact ⟨i + 1, q + qq, (by first | exact congrArg _ HW.out | rfl), HL.out.1, HL.out.2.2.1, rfl, Lib.hid (fun j hj => by
          by_cases e : j = i
          · subst e; rw [HU.out]; exact HQ.out
          · exact HI.out j (by omega))⟩
    · have hltz : ¬ (i : Int) < (n : Int) := fun e => hlt (Int.ofNat_lt.1 e)
      have HL := Lib.hid (show d.size ≤ i by have := HN.out.1; omega)
      clear hi hg hlt
      go_wp2
      go_ret
      exact ⟨⟨_, rfl, Or.inl ⟨rfl, fun j hj => HI.out j (Nat.lt_of_lt_of_le hj HL.out)⟩⟩, q, rfl⟩
set_option maxHeartbeats 4000000 in
set_option maxRecDepth 1000000 in
theorem delf_is (p : Nat → Bool) (lb : Array Value) (blk cap : Nat) (d : Array Nat) (w : World) (hsz : d.size < 1000000) (hcap : d.size ≤ cap) (hcm : cap ≤ 9223372036854775807)
    (hcall : ∀ (dk : Array Nat) (j q : Nat), j < d.size → dk.size = d.size → Calls Tryd.prog 29 (#[enc0 d[j]!] ++ lb) (putRow enc0 (Sort.ahead w q) blk 0 dk) fun e w' => e = .returned (.bool (p d[j]!)) ∧ ∃ qq, w' = (putRow enc0 (Sort.ahead w q) blk 0 dk).drewN qq)
    (hH : Holds enc0 w blk 0 d) :
    Calls Tryd.prog 27 #[.slice (some ⟨blk, 0, none⟩) d.size cap, .func (.func 29) #[] lb] w fun e w' => e = .returned (.slice (some ⟨blk, 0, none⟩) (d.toList.filter fun x => !p x).length cap) ∧ ∃ q, w' = putRow enc0 (Sort.ahead w q) blk 0 ((d.toList.filter fun x => !p x) ++ List.replicate (d.size - (d.toList.filter fun x => !p x).length) 0).toArray := by
  have mixed : Tryd.prog.follows .mixedOrders = true := by kernel_rfl
  have eg := eg29
  have hcl0 := enc0_one.cells
  simp only [Value.cells] at hcl0
  have hst := enc0_one.store Tryd.prog
  have v23 : ∀ w, (zeroValue 63).run Tryd.prog w = .ok (enc0 0) w := fun w => by kernel_rfl
  have t22 : Tryd.prog.underlying 58 = some (.slice 63) := by kernel_rfl
  have hIF := idx_is p lb blk cap d w hsz (fun j hj q => by
    have := hcall d j q hj rfl
    rw [putRow_self enc0 (Sort.ahead w q) blk 0 d (holds_ahead enc0 w q blk 0 d hH)] at this
    exact this) hH
  obtain ⟨kp, HK⟩ : ∃ kp : Nat → Bool, Hid (kp = fun j => !p d[j]!) := ⟨_, rfl⟩
  have hfil : (d.toList.filter fun x => !p x) = keptUpTo kp d d.size := by rw [HK.out]; exact (keptUpTo_filter (fun x => !p x) d).symm
  rw [hfil]
  have HIF := Lib.hid hIF
  have HC : Aside _ := hcall
  have HH : Aside (Holds enc0 w blk 0 d) := hH
  have HSZ := Lib.hid (And.intro hsz (And.intro hcap hcm))
  clear hcall hH hIF
  go_enter Tryd.func27, Tryd.ntmps27
  go_wp2_with fail
  refine HIF.out.mono ?_
  rintro _ w1 ⟨⟨r, rfl, hidx⟩, q0, rfl⟩
  clear HIF
  rcases hidx with ⟨rfl, hall⟩ | ⟨k0, hk0, rfl, ht, hall⟩
  · have e3 : keptUpTo kp d d.size = d.toList := by rw [keptUpTo_all kp d _ (fun j hj => by rw [HK.out]; show (!p d[j]!) = true; rw [hall j hj]; rfl), range_map_get]
    have HE := Lib.hid e3
    clear e3 hall hfil
    go_wp2_with fail
    go_ret
    rw [HE.out]
    refine ⟨by simp, q0, ?_⟩
    simp only [Array.length_toList, Nat.sub_self, List.replicate_zero, List.append_nil, Array.toArray_toList]
    exact (putRow_self enc0 (Sort.ahead w q0) blk 0 d (holds_ahead enc0 w q0 blk 0 d HH.out)).symm
  · have hkeep : ∀ j, j < k0 → kp j = true := fun j hj => by rw [HK.out]; show (!p d[j]!) = true; rw [hall j hj]; rfl
    have hdrop : kp k0 = false := by rw [HK.out]; show (!p d[k0]!) = false; rw [ht]; rfl
    have hne1 : ((k0 : Int) == -1) = false := beq_eq_false_iff_ne.2 (by omega)
    have HKD := Lib.hid (And.intro hkeep (And.intro hdrop hk0))
    have HFI := Lib.hid hfil
    have hw0 := wsucc k0 (by have := HSZ.out.1; omega)
    have HW0 := Lib.hid hw0
    clear hkeep hdrop hall ht hfil hk0 hw0
    obtain ⟨n, hn⟩ : ∃ n, n = d.size := ⟨_, rfl⟩
    have HN := Lib.hid hn
    rw [← hn]
    clear hn
    go_wp2_with fail
    go_loopg [5, 6, 7] n (fun gk s5 s6 _ wr => ∃ (i j q : Nat) (dk : Array Nat), s5 = .int .i64 (i : Int) ∧ s6 = .int .i64 (j : Int) ∧ j ≤ n ∧ n ≤ j + gk ∧ wr = putRow enc0 (Sort.ahead w q) blk 0 dk ∧ Aside (KeptInv kp d j i dk))
    case atStart => exact ⟨k0, k0 + 1, q0, d, rfl, (by first | exact congrArg _ HW0.out | rfl), by have := HN.out; have := HKD.out.2.2; omega, by omega, (putRow_self enc0 (Sort.ahead w q0) blk 0 d (holds_ahead enc0 w q0 blk 0 d HH.out)).symm, KeptInv.start HKD.out.1 HKD.out.2.1⟩
    case round =>
      obtain ⟨i, j, q, dk, rfl, rfl, hjd, hgk, hwr, I2⟩ := hrel
      have hij := I2.out.lt
      have hds := I2.out.size
      have hHk : Holds enc0 wr blk 0 dk := by rw [hwr]; exact holds_putRow enc0 _ blk 0 d dk (holds_ahead enc0 w q blk 0 d HH.out) hds
      have W2 : Aside (wr = putRow enc0 (Sort.ahead w q) blk 0 dk) := hwr
      by_cases hlt : j < n
      · have hltz : (j : Int) < (n : Int) := Int.ofNat_lt.2 hlt
        have hlt' : j < d.size := HN.out ▸ hlt
        have hid : i < d.size := by omega
        obtain ⟨cj, _⟩ := hHk j (by omega)
        obtain ⟨ci, fi⟩ := hHk i (by omega)
        rw [I2.out.high j (by omega), Nat.zero_add] at cj
        rw [Nat.zero_add] at ci fi
        have hcall := HC.out dk j q hlt' hds
        rw [← hwr] at hcall
        have hi0 : (0 : Int) ≤ (i : Int) := Int.natCast_nonneg i
        have hj0 : (0 : Int) ≤ (j : Int) := Int.natCast_nonneg j
        have hi1 : (i : Int) < (n : Int) := by rw [HN.out]; exact Int.ofNat_lt.2 hid
        have HW1 := Lib.hid (And.intro (wsucc j (by have := HSZ.out.1; omega)) (wsucc i (by have := HSZ.out.1; omega)))
        have HL := Lib.hid (And.intro (Nat.succ_le_of_lt hlt) (And.intro (show n - (j + 1) < gk by omega) (And.intro (show n ≤ j + 1 + (n - (j + 1)) by omega) (And.intro hlt' (hds.symm ▸ hid)))))
        clear hHk hwr hij hds hlt hlt' hid hjd hgk
        generalize hu : d[j]! = u at cj hcall
        generalize dk[i]! = old at ci
        have C : Aside (d[j]! = u) := hu
        clear hu
        cases hq : p u with
        | false =>
          rw [hq] at hcall
          have HQ := Lib.hid hq
          clear hq
          go_wp2_with (first | (go_at_call 29; refine hcall.mono ?_; rintro e w' ⟨rfl, qq, rfl⟩))
          go_roundg (n - (j + 1))
          case measure => exact HL.out.2.1
          case rel =>
            refine ⟨i + 1, j + 1, q + qq, dk.setIfInBounds i u, (by first | exact congrArg _ HW1.out.2 | rfl), (by first | exact congrArg _ HW1.out.1 | rfl), HL.out.1, HL.out.2.2.1, ?_, (show Aside _ from ?_)⟩
            · rw [W2.out, show (putRow enc0 (Sort.ahead w q) blk 0 dk).drewN qq = putRow enc0 (Sort.ahead w (q + qq)) blk 0 dk from putRow_drewN _ _ _ _ _ _ _]
              have := putRow_set enc0 (Sort.ahead w (q + qq)) blk 0 dk i u HL.out.2.2.2.2
              rw [Nat.zero_add] at this
              exact this
            · have := I2.out.keep HL.out.2.2.2.1 (by rw [HK.out]; show (!p d[j]!) = true; rw [C.out, HQ.out]; rfl)
              rwa [C.out] at this
        | true =>
          rw [hq] at hcall
          have HQ := Lib.hid hq
          clear hq
          go_wp2_with (first | (go_at_call 29; refine hcall.mono ?_; rintro e w' ⟨rfl, qq, rfl⟩))
          go_roundg (n - (j + 1))
          case measure => exact HL.out.2.1
          case rel => exact ⟨i, j + 1, q + qq, dk, rfl, (by first | exact congrArg _ HW1.out.1 | rfl), HL.out.1, HL.out.2.2.1, by rw [W2.out]; exact putRow_drewN _ _ _ _ _ _ _, I2.out.skip (by rw [HK.out]; show (!p d[j]!) = false; rw [C.out, HQ.out]; rfl)⟩
      · have hltz : ¬ (j : Int) < (n : Int) := fun e => hlt (Int.ofNat_lt.1 e)
        obtain rfl : j = d.size := by have := HN.out; omega
        have hil : i ≤ d.size := Nat.le_of_lt hij
        have hcl : ∀ ty, (Builtin.clear_ #[58] ty #[.slice (some ⟨blk, i, none⟩) (n - i) (cap - i)]).run Tryd.prog wr = .ok (.tuple #[]) (wr.setCells blk i (List.replicate (n - i) (enc0 0))) := fun ty => by
          rw [HN.out]
          exact Lib.run_clear_slice wr _ _ ty _ t22 v23 (enc0_one.cells 0) (enc0_one 0) blk i _ _ (by have := HSZ.out; omega) (fun t ht => by have := (hHk (i + t) (by omega)).1; rw [Nat.zero_add] at this; rw [this]; rfl) (fun t ht => by have := (hHk (i + t) (by omega)).2; rw [Nat.zero_add] at this; exact this)
        have hz0 : (0 : Int) ≤ (i : Int) := Int.natCast_nonneg i
        have hz1 : (i : Int) ≤ (n : Int) := by rw [HN.out]; exact Int.ofNat_le.2 hil
        have hz2 : (i : Int) ≤ (cap : Int) := Int.ofNat_le.2 (Nat.le_trans hil HSZ.out.2.1)
        have hz3 : (n : Int) ≤ (cap : Int) := by rw [HN.out]; exact Int.ofNat_le.2 HSZ.out.2.1
        have hci : ¬ cap - i = 0 := by have := HSZ.out.2.1; omega
        have hcib : (cap - i == 0) = false := by simpa using hci
        have HDS := Lib.hid (And.intro hds hij)
        clear hHk hwr hds hij hil hjd hgk hlt
        go_wp2_with fail
        go_ret
        have hI := I2.out
        have hds := HDS.out.1
        have hij := HDS.out.2
        refine ⟨by rw [hI.len]; rfl, q, ?_⟩
        have hps := putRow_setCells enc0 (Sort.ahead w q) blk 0 (List.replicate (d.size - i) 0) dk i (by simp; omega)
        rw [Nat.zero_add, List.map_replicate] at hps
        rw [hI.len, ← hI.done 0, ← hps, ← W2.out, HN.out]
end
end Go.Proofs.YtdnkedifjaccoaaDoor.Ce
