/- TokenHangs, walked. -/
import Derived.Test.YtdnkedifjaccoaaDoorHp
namespace Go.Proofs.YtdnkedifjaccoaaDoor.Ce
open Go.RowKit Go.Maps Go.Shelf Go.Lib Go.Proofs Go.Proofs.YtdnkedifjaccoaaDoor Go.Proofs.YtdnkedifjaccoaaDoorW.PrintWords Go.Proofs.YtdnkedifjaccoaaDoorW.PrintLast Go.Proofs.YtdnkedifjaccoaaDoorW.PrintMore PToken
set_option linter.unusedVariables false
set_option linter.unusedSimpArgs false
section
/-- A tree that goes on. -/
structure Lv (w0 w : World) (b : Nat) (X : Nat → Prop) (T : Tree) : Prop where
  l : ∃ s, Liv X w b T s w0.heap.size
  bel : Below w0.heap.size w0 w
variable {X X' : Nat → Prop} {w w' w0 : World} {b : Nat} {T T' : Tree}
theorem Lv.below (h : Lv w0 w b X T) (hb : Below w.heap.size w w') : Lv w0 w' b X T := ⟨h.l.elim fun s k => ⟨s, k.below hb⟩, h.bel.trans (hb.mono h.bel.size)⟩
theorem Lv.good (h : Lv w0 w b X T) : Tree.Good T := h.l.elim fun s k => k.good
theorem Lv.ns (h : Lv w0 w b X T) : NS T := h.l.elim fun s k => k.ns
theorem Lv.api {s' : Sh} (h : Lv w0 w b X T) (a : Api X w b T' X' w' s') (g : Tree.Good T') (n : NS T') : Lv w0 w' b X' T' := by
  obtain ⟨s, k⟩ := h.l
  exact ⟨⟨s', k.api a g n h.bel.size⟩, h.bel.trans (a.new_below k.new h.bel.size)⟩
theorem Lv.names (h : Lv w0 w b X T) :
    Calls Tryd.prog 21 #[.pointer (some ⟨b, 0, none⟩)] w fun e w' => ∃ A c, e = .returned (.slice A (T.namesOf (List.range T.toks.length)).length c) ∧ (Kd.C Kd.string w' A (T.namesOf (List.range T.toks.length)).length (T.namesOf (List.range T.toks.length)) ∧ (T.namesOf (List.range T.toks.length)).length ≤ c) ∧ Lv w0 w' b X T := by
  obtain ⟨s, k⟩ := h.l
  refine (names_is k.tm k.good.small).mono ?_
  rintro e w' ⟨v, rfl, hr, hb⟩
  obtain ⟨A, c, rfl, q1, q2⟩ := Kd.R_reads hr
  exact ⟨A, c, rfl, ⟨q2, q1⟩, h.below hb⟩
theorem Lv.done (h : Lv w0 w b X T) (nm : ByteArray) (hn : nm.size ≤ maxLen) :
    Calls Tryd.prog 19 #[.pointer (some ⟨b, 0, none⟩), .string nm] w fun e w' => e = .returned (.tuple #[.bool (match T.find nm with | some i => (T.tk i).done | none => false), .int .i64 (match T.find nm with | some _ => 0 | none => 4)]) ∧ w' = w := by
  obtain ⟨s, k⟩ := h.l
  exact done_is k.tm nm hn
theorem Lv.make (h : Lv w0 w b X T) (nm : ByteArray) (hn : nm.size ≤ maxLen) (A : Option Addr) (c : Nat) (ps : List ByteArray) (hr : Kd.C Kd.string w A ps.length ps) (hps : ∀ p ∈ ps, p.size ≤ maxLen) :
    Calls Tryd.prog 16 #[.pointer (some ⟨b, 0, none⟩), .string nm, .slice A ps.length c] w fun e w' => e = .returned (.tuple #[.bool (T.makeB nm ps), .int .i64 (T.makeE nm ps)]) ∧ ∃ X', Lv w0 w' b X' (T.makeC nm ps) := by
  obtain ⟨s, k⟩ := h.l
  refine (Make_is k.tm k.good k.ns k.laid nm hn A c ps hr hps).mono ?_
  rintro e w' ⟨X', s', rfl, ha⟩
  exact ⟨rfl, X', h.api ha (Tree.makeC_good k.good nm ps).1 (k.ns.makeC k.good.wf nm ps)⟩
/-- Cancel, without a cause: who was cancelled, and what stands beside. -/
theorem Lv.cancel (h : Lv w0 w b X T) (nm : ByteArray) (hn : nm.size ≤ maxLen) :
    Calls Tryd.prog 17 #[.pointer (some ⟨b, 0, none⟩), .string nm, .slice none 0 0] w fun e w' => ∃ A c, e = .returned (.tuple #[.slice A (newN T (T.cancelC nm [])).length c, .int .i64 (T.cancelE nm [])]) ∧ Kd.C Kd.string w' A (newN T (T.cancelC nm [])).length (newN T (T.cancelC nm [])) ∧
      ∃ X', Lv w0 w' b X' (T.cancelC nm []) ∧ (∀ v F, RowX k56 56 X w v F → RowX k56 56 X' w' v F) := by
  obtain ⟨s, k⟩ := h.l
  refine (Cancel_is k.tm k.good k.ns k.laid nm hn none 0 [] (crkNil w)).mono ?_
  rintro e w' ⟨v, X', s', rfl, ha, hv⟩
  obtain ⟨A, c, rfl, q1, q2⟩ := Kd.R_reads hv
  exact ⟨A, c, rfl, q2, X', h.api ha (Tree.cancelC_good k.good nm []).1 (k.ns.cancelC k.good.wf nm []), fun v F hr => hr.api ha⟩
theorem Lv.fail (h : Lv w0 w b X T) (nm : ByteArray) (hn : nm.size ≤ maxLen) :
    Calls Tryd.prog 15 #[.pointer (some ⟨b, 0, none⟩), .string nm] w fun e w' => ∃ A c, e = .returned (.tuple #[.slice A (T.failL nm).length c, .int .i64 (T.failE nm)]) ∧ RowX k56 56 X w' (.slice A (T.failL nm).length c) (T.failL nm) ∧ Lv w0 w' b X T ∧ Below w.heap.size w w' := by
  obtain ⟨s, k⟩ := h.l
  refine (fail_is k.tm k.ns nm hn).mono ?_
  rintro e w' ⟨v, rfl, hr, hb⟩
  obtain ⟨A, c, rfl, q1, q2⟩ := Kd.R_reads hr
  exact ⟨A, c, rfl, RowX.of hr (fun j hj => (k.tm.dom j hj).2), h.below hb, hb⟩
/-- The law's calls, with what they answer. -/
theorem hang_make1 {w0 w : World} {b : Nat} {X : Nat → Prop} {T : Tree} {nm : ByteArray} {q : Nat} (h : Lv w0 w b X T) (hq : q < T.toks.length) (hnm : (T.tk q).name = nm) (h1 : T.find fr1 = none) (hl : T.toks.length < 256) :
    Calls Tryd.prog 16 #[.pointer (some ⟨b, 0, none⟩), .string ⟨#[102, 114, 101, 115, 104, 95, 49]⟩, .slice (some ⟨w.heap.size, 0, none⟩) 1 1] (w.alloc (.cells #[.string nm] 9)) fun e w' => e = .returned (.tuple #[.bool (T.tk q).done, .int .i64 0]) ∧ ∃ X', Lv w0 w' b X' (T.makeC fr1 [nm]) := by
  have hw := Tree.make_well h.good fr1 fr1_name h1 (h.good.find hq (by rw [hnm])) hl
  have hs : nm.size ≤ maxLen := Nat.le_trans (hnm ▸ (h.ns q hq).1) (by decide)
  have := (h.below ((Below.refl _ w).alloc (Nat.le_refl _) (.cells #[.string nm] 9))).make fr1 (by decide) (some ⟨w.heap.size, 0, none⟩) 1 [nm] (lit1 w nm 9) (fun p hp => by rw [List.mem_singleton.1 hp]; exact hs)
  rw [hw.2.1, hw.2.2] at this
  exact this
theorem hang_make2 {w0 w : World} {b : Nat} {X : Nat → Prop} {T1 : Tree} {d : Bool} (h : Lv w0 w b X T1) (he : T1.makeE fr2 [fr1] = 0) (hb : T1.makeB fr2 [fr1] = d) :
    Calls Tryd.prog 16 #[.pointer (some ⟨b, 0, none⟩), .string ⟨#[102, 114, 101, 115, 104, 95, 50]⟩, .slice (some ⟨w.heap.size, 0, none⟩) 1 1] (w.alloc (.cells #[.string ⟨#[102, 114, 101, 115, 104, 95, 49]⟩] 9)) fun e w' => e = .returned (.tuple #[.bool d, .int .i64 0]) ∧ ∃ X', Lv w0 w' b X' (T1.makeC fr2 [fr1]) := by
  have := (h.below ((Below.refl _ w).alloc (Nat.le_refl _) (.cells #[.string fr1] 9))).make fr2 (by decide) (some ⟨w.heap.size, 0, none⟩) 1 [fr1] (lit1 w fr1 9) (fun p hp => by rw [List.mem_singleton.1 hp]; decide)
  rw [he, hb] at this
  exact this
/-- What stands of a failure that was asked. -/
theorem hang_fail {w0 w : World} {b : Nat} {X : Nat → Prop} {T3 : Tree} {nm n : ByteArray} {F : List S56} (h : Lv w0 w b X T3) (hn : n.size ≤ maxLen) (he : T3.failE n = 0) (hl : T3.failL n = F) :
    Calls Tryd.prog 15 #[.pointer (some ⟨b, 0, none⟩), .string n] w fun e w' => ∃ A c, e = .returned (.tuple #[.slice A F.length c, .int .i64 0]) ∧ RowX k56 56 X w' (.slice A F.length c) F ∧ Lv w0 w' b X T3 ∧ Below w.heap.size w w' := by
  have := h.fail n hn
  rw [he, hl] at this
  exact this
theorem hang_again {w0 w : World} {b : Nat} {X : Nat → Prop} {T3 : Tree} {nm : ByteArray} (h : Lv w0 w b X T3) (hn : nm.size ≤ maxLen) (hz : Tree.HangZ T3 nm) :
    Calls Tryd.prog 17 #[.pointer (some ⟨b, 0, none⟩), .string nm, .slice none 0 0] w fun e w' => ∃ A c, e = .returned (.tuple #[.slice A 0 c, .int .i64 0]) ∧ ∃ X', Lv w0 w' b X' T3 ∧ (∀ v F, RowX k56 56 X w v F → RowX k56 56 X' w' v F) := by
  refine (h.cancel nm hn).mono ?_
  rintro e w' ⟨A, c, rfl, hr, X', h', hk⟩
  rw [hz.ce, hz.c, newN_self]
  rw [hz.c] at h'
  exact ⟨A, c, rfl, X', h', hk⟩
theorem failsE (W : World) (A B : Option Addr) (c d : Nat) (a : List S56) (h : Kd.C k56 W A a.length a ∧ a.length ≤ c) (k : Kd.C k56 W B a.length a ∧ a.length ≤ d) (hz : a.length ≤ 1024) :
    Calls Tryd.prog 20 #[.slice A a.length c, .slice B a.length d] W fun e w' => e = .returned (.bool true) ∧ Drawn0 W w' := by
  have := fails_is W A B c d a a h.1 h.2 k.1 k.2 (by omega)
  rwa [decide_eq_true (rfl : a = a)] at this
end
section
theorem getD_end1 {α : Type} (l : List α) (x y d : α) : (l ++ [x, y]).getD l.length d = x := by simp [List.getD_eq_getElem?_getD]
theorem getD_end2 {α : Type} (l : List α) (x y d : α) : (l ++ [x, y]).getD (l.length + 1) d = y := by simp [List.getD_eq_getElem?_getD]
theorem fr1_l : fr1.toList = [102, 114, 101, 115, 104, 95, 49] := by decide +kernel
theorem fr2_l : fr2.toList = [102, 114, 101, 115, 104, 95, 50] := by decide +kernel
set_option maxHeartbeats 8000000 in
set_option maxRecDepth 100000 in
theorem hangs_is (w : World) (hla : LaidF w) (A : Option Addr) (c : Nat) (l : List CallV) (hr : Kd.C kC w A l.length l) (hl : l.length ≤ 2000000000000) (hok : ∀ x ∈ l, CallOk x)
    (name : ByteArray) (hname : name.size ≤ maxLen) :
    Calls Tryd.prog 5 #[.slice A l.length c, .string name] w fun e w' => e = .returned (.bool true) ∧ Below w.heap.size w w' := by
  have HW0 := Lib.hid (works_is w hla)
  have HPL := Lib.hid (fun (w1 : World) (hb : Below w.heap.size w w1) => played_is w1 (hla.below hb) A c l (Kd.C_below hr hb) hl hok)
  obtain ⟨T, hT⟩ : ∃ T, T = Tree.playC (fun x => amongK 5 x.kind) T0 l := ⟨_, rfl⟩
  rw [← hT] at HPL
  obtain ⟨n, hn⟩ : ∃ n, n = l.length := ⟨_, rfl⟩
  rw [← hn] at HPL ⊢
  have HNS := Lib.hid hname
  clear hla hr hl hok hT hn hname
  go_enter Tryd.func5, Tryd.ntmps5
  go_upto_region 6 with (first | (go_at_call 7; refine HW0.out.mono ?_; rintro _ w1 ⟨rfl, hb1⟩; have HB1 := Lib.hid hb1; clear hb1) | (go_at_call 8; refine (HPL.out w1 HB1.out).mono ?_; rintro _ w2 ⟨b, X, s, rfl, h2, hb2⟩; have H2 := Lib.hid (show Lv w1 w2 b X T from ⟨⟨s, h2⟩, hb2⟩); clear h2 hb2) | fail)
  go_upto_region 7 with (first | (go_at_call 21; refine H2.out.names.mono ?_; rintro _ w3 ⟨A3, c3, rfl, h3, hl3⟩; have H3 := Lib.hid (And.intro hl3 h3); clear h3 hl3) | fail)
  obtain ⟨N, hN⟩ : ∃ N, N = T.namesOf (List.range T.toks.length) := ⟨_, rfl⟩
  obtain ⟨m, hm⟩ : ∃ m, m = N.length := ⟨_, rfl⟩
  have hmT : m = T.toks.length := by rw [hm, hN]; unfold Tree.namesOf; rw [List.length_map, List.length_range]
  rw [← hN] at H3
  rw [← hN, ← hm]
  have HN := Lib.hid (And.intro hN (And.intro hm hmT))
  have HG := Lib.hid (And.intro H3.out.1.good H3.out.1.ns)
  have hm256 : m ≤ 256 := hmT ▸ H3.out.1.good.small
  clear hN hm hmT HW0 HPL H2
  have hm0 : (0 : Int) ≤ (m : Int) := Int.natCast_nonneg m
  by_cases k0 : m = 0
  · subst k0
    go_wp2_with fail
    go_ret
    exact ⟨rfl, below_then HB1.out HB1.out.size H3.out.1.bel⟩
  · by_cases k1 : m = 256
    · subst k1
      go_wp2_with fail
      go_ret
      exact ⟨rfl, below_then HB1.out HB1.out.size H3.out.1.bel⟩
    · have hz1 : ¬ (m : Int) = 0 := by omega
      have hz2 : ¬ (256 : Int) ≤ (m : Int) := by omega
      obtain ⟨q, hq⟩ : ∃ q, q = name.size % m := ⟨_, rfl⟩
      have hqm : q < m := by rw [hq]; exact Nat.mod_lt _ (by omega)
      have htm : Int.tmod (name.size : Int) (m : Int) = (q : Int) := by rw [hq]; rfl
      have hqz : (q : Int) < (m : Int) := Int.ofNat_lt.2 hqm
      have hq0 : (0 : Int) ≤ (q : Int) := Int.natCast_nonneg q
      obtain ⟨ad, rfl, hce⟩ := Kd.at_string H3.out.2.1 (q : Int) hq0 (by rw [← HN.out.2.1]; exact hqz)
      rw [Int.toNat_natCast, rdOf_getD] at hce
      obtain ⟨nm, hnm⟩ : ∃ nm, N.getD q ByteArray.empty = nm := ⟨_, rfl⟩
      rw [hnm] at hce
      have hqT : q < T.toks.length := HN.out.2.2 ▸ hqm
      have hnmT : (T.tk q).name = nm := by
        rw [← hnm, HN.out.1]
        unfold Tree.namesOf
        rw [List.getD_eq_getElem?_getD, List.getElem?_map, List.getElem?_range hqT]; rfl
      have HQ := Lib.hid (And.intro hqT hnmT)
      have hnz : ¬ (m : Int) = 0 := hz1
      clear hq hqm hnm hqT hnmT k0 k1 hm256
      obtain ⟨dq, hdq⟩ : ∃ dq, dq = (T.tk q).done := ⟨_, rfl⟩
      have HD0 := H3.out.1.done nm (Nat.le_trans (HQ.out.2 ▸ (HG.out.2 q HQ.out.1).1) (by decide))
      rw [HG.out.1.find HQ.out.1 (by rw [HQ.out.2])] at HD0
      simp only at HD0
      rw [← hdq] at HD0
      have HD := Lib.hid HD0
      have HDQ := Lib.hid hdq
      clear HD0 hdq
      go_upto_region 12 with (first | (go_at_call 19; refine HD.out.mono ?_; rintro _ w4 ⟨rfl, rfl⟩) | fail)
      clear hce htm hqz hq0 HD
      go_loopg [55] m (fun gk v55 wr => ∃ j : Nat, v55 = .int .i64 (j : Int) ∧ j ≤ m ∧ m ≤ j + gk ∧ wr = w4 ∧ Hid (∀ k, k < j → (N.getD k ByteArray.empty).toList ≠ fr1.toList ∧ (N.getD k ByteArray.empty).toList ≠ fr2.toList))
      case atStart => exact ⟨0, rfl, Nat.zero_le _, by omega, rfl, Lib.hid (fun k hk => by omega)⟩
      case round =>
        obtain ⟨j, rfl, hj, hg, rfl, HS⟩ := hrel
        by_cases hlt : j < m
        · have hltz : (j : Int) < (m : Int) := Int.ofNat_lt.2 hlt
          have hj0 : (0 : Int) ≤ (j : Int) := Int.natCast_nonneg j
          obtain ⟨ad', had, hce⟩ := Kd.at_string H3.out.2.1 (j : Int) hj0 (by rw [← HN.out.2.1]; exact hltz)
          obtain rfl := Option.some.inj had
          rw [Int.toNat_natCast, rdOf_getD] at hce
          obtain ⟨x, hx⟩ : ∃ x, N.getD j ByteArray.empty = x := ⟨_, rfl⟩
          rw [hx] at hce
          have HX := Lib.hid hx
          have HW := Lib.hid (wsuccB j (by omega))
          have HL := Lib.hid (And.intro (Nat.succ_le_of_lt hlt) (And.intro (show m - (j + 1) < gk by omega) (show m ≤ j + 1 + (m - (j + 1)) by omega)))
          clear hx hlt hj hg
          by_cases e1 : x.toList = [102, 114, 101, 115, 104, 95, 49]
          · have b1 : (x.toList == [102, 114, 101, 115, 104, 95, 49]) = true := by rw [e1]; rfl
            go_wp2_with fail
            go_ret
            exact ⟨rfl, below_then HB1.out HB1.out.size H3.out.1.bel⟩
          · have b1 : (x.toList == [102, 114, 101, 115, 104, 95, 49]) = false := by simpa using e1
            by_cases e2 : x.toList = [102, 114, 101, 115, 104, 95, 50]
            · have b2 : (x.toList == [102, 114, 101, 115, 104, 95, 50]) = true := by rw [e2]; rfl
              go_wp2_with fail
              go_ret
              exact ⟨rfl, below_then HB1.out HB1.out.size H3.out.1.bel⟩
            · have b2 : (x.toList == [102, 114, 101, 115, 104, 95, 50]) = false := by simpa using e2
              have HE := Lib.hid (And.intro e1 e2)
              go_wp2_with fail
              go_roundg (m - (j + 1))
              case measure => exact HL.out.2.1
              case rel => exact ⟨j + 1, (by first | exact congrArg _ HW.out | rfl), HL.out.1, HL.out.2.2, rfl, Lib.hid (fun k hk => by
                rcases Nat.lt_or_ge k j with h | h
                · exact HS.out k h
                · have hkj : k = j := by omega
                  rw [hkj, HX.out, fr1_l, fr2_l]
                  exact HE.out)⟩
        · have hltz : ¬ (j : Int) < (m : Int) := fun e => hlt (Int.ofNat_lt.1 e)
          have HALL := Lib.hid (show ∀ k, k < m → (N.getD k ByteArray.empty).toList ≠ fr1.toList ∧ (N.getD k ByteArray.empty).toList ≠ fr2.toList from fun k hk => HS.out k (by omega))
          clear hj hg hlt HS
          have hfn : ∀ f : ByteArray, (∀ k, k < m → (N.getD k ByteArray.empty).toList ≠ f.toList) → T.find f = none := fun f hf => by
            cases hc : T.find f with
            | none => rfl
            | some i =>
              have h2 := Tree.find_some hc
              refine absurd ?_ (hf i (HN.out.2.2 ▸ h2.1))
              rw [← h2.2, HN.out.1]
              unfold Tree.namesOf
              rw [List.getD_eq_getElem?_getD, List.getElem?_map, List.getElem?_range h2.1]; rfl
          have HF1N := Lib.hid (hfn fr1 (fun k hk => (HALL.out k hk).1))
          have HF2N := Lib.hid (hfn fr2 (fun k hk => (HALL.out k hk).2))
          have HM1 := Lib.hid (HDQ.out ▸ hang_make1 H3.out.1 HQ.out.1 HQ.out.2 HF1N.out (by have := HN.out.2.2; omega))
          have HSZ := Lib.hid (show nm.size ≤ maxLen from Nat.le_trans (HQ.out.2 ▸ (HG.out.2 q HQ.out.1).1) (by decide))
          clear hfn HALL
          go_upto_region 18 with (first | (go_at_call 16; refine HM1.out.mono ?_; rintro _ w5 ⟨rfl, X5, h5⟩; have H5 := Lib.hid h5; clear h5) | fail)
          by_cases k255 : m = 255
          · subst k255
            cases dq <;> (go_wp2_with fail; go_ret; exact ⟨rfl, below_then HB1.out HB1.out.size H5.out.bel⟩)
          · have hz3 : ¬ (255 : Int) ≤ (m : Int) := by omega
            have hA := Tree.hang_a HG.out.1 HQ.out.1 HQ.out.2 HF1N.out HF2N.out (by have := HN.out.2.2; omega)
            have HM2 := Lib.hid (hang_make2 H5.out hA.2.2.1 (hA.2.2.2.1.trans HDQ.out.symm))
            have HA := Lib.hid hA.2.2.2.2
            obtain ⟨T2, hT2⟩ : ∃ T2, T2 = (T.makeC fr1 [nm]).makeC fr2 [fr1] := ⟨_, rfl⟩
            rw [← hT2] at HM2 HA
            clear hA hT2 k255
            cases dq with
            | true =>
              go_upto_region 29 with (first | (go_at_call 16; refine HM2.out.mono ?_; rintro _ w7 ⟨rfl, X7, h7⟩; have H7 := Lib.hid (And.intro h7 (HA.out.done HDQ.out.symm)); clear h7) | fail)
              obtain ⟨T3, hT3⟩ : ∃ T3, T3 = T2 := ⟨_, rfl⟩
              rw [← hT3] at H7
              clear hT3
              obtain ⟨F, hF⟩ : ∃ F, F = T3.failL nm := ⟨_, rfl⟩
              have HF := Lib.hid (show F.length ≤ 1024 from hF ▸ failL_len H7.out.1.ns nm)
              have hFne : (0 : Int) < (F.length : Int) := by
                have : F ≠ [] := hF ▸ H7.out.2.ne
                have := List.length_pos_iff.2 this
                omega
              have HF0 := Lib.hid (fun w' (h' : Lv w1 w' b X7 T3) => hang_fail (nm := nm) h' HSZ.out H7.out.2.e0 hF.symm)
              have HF1 := Lib.hid (fun w' (h' : Lv w1 w' b X7 T3) => hang_fail (nm := nm) (n := fr1) h' (by decide) H7.out.2.e1 (H7.out.2.l1.trans hF.symm))
              have HF2 := Lib.hid (fun w' (h' : Lv w1 w' b X7 T3) => hang_fail (nm := nm) (n := fr2) h' (by decide) H7.out.2.e2 (H7.out.2.l2.trans hF.symm))
              have HFC := Lib.hid (fun w' (h' : Lv w1 w' b X7 T3) => hang_again h' HSZ.out H7.out.2)
              clear hF
              go_upto_region 30 with (first | (go_at_call 15; refine (HF0.out w7 H7.out.1).mono ?_; rintro _ w8 ⟨A8, c8, rfl, r8, h8, b8⟩; have H8 := Lib.hid (And.intro h8 r8); clear r8 h8 b8) | fail)
              go_upto_region 31 with (first | (go_at_call 15; refine (HF1.out w8 H8.out.1).mono ?_; rintro _ w9 ⟨A9, c9, rfl, r9, h9, b9⟩; have H9 := Lib.hid (And.intro h9 (And.intro r9 (H8.out.2.below b9))); clear r9 h9 b9) | fail)
              go_upto_region 32 with (first | (go_at_call 15; refine (HF2.out w9 H9.out.1).mono ?_; rintro _ w10 ⟨A10, c10, rfl, r10, h10, b10⟩; have H10 := Lib.hid (And.intro h10 (And.intro r10 (And.intro (H9.out.2.1.below b10) (H9.out.2.2.below b10)))); clear r10 h10 b10) | fail)
              go_upto_region 33 with (first | (go_at_call 17; refine (HFC.out w10 H10.out.1).mono ?_; rintro _ w11 ⟨A11, c11, rfl, X11, h11, k11⟩; have H11 := Lib.hid (And.intro h11 (And.intro (k11 _ _ H10.out.2.1) (And.intro (k11 _ _ H10.out.2.2.1) (k11 _ _ H10.out.2.2.2)))); clear h11 k11) | fail)
              have R8 := Lib.hid (Kd.R_reads' H11.out.2.2.2).2
              have R9 := Lib.hid (Kd.R_reads' H11.out.2.2.1).2
              have R10 := Lib.hid (Kd.R_reads' H11.out.2.1).2
              go_wp2_with (first | (go_at_call 20; (with_reducible refine (failsE w11 A8 A9 c8 c9 F ⟨R8.out.2, R8.out.1⟩ ⟨R9.out.2, R9.out.1⟩ HF.out).mono ?_); rintro _ w12 ⟨rfl, ⟨m12, rfl⟩⟩) | (go_at_call 20; (with_reducible refine (failsE (w11.drewN m12) A9 A10 c9 c10 F ⟨Kd.C_below R9.out.2 (pw_below_drewN (Below.refl _ _) _), R9.out.1⟩ ⟨Kd.C_below R10.out.2 (pw_below_drewN (Below.refl _ _) _), R10.out.1⟩ HF.out).mono ?_); rintro _ w13 ⟨rfl, ⟨m13, rfl⟩⟩) | fail)
              go_ret
              refine ⟨?_, below_then HB1.out HB1.out.size (pw_below_drewN H11.out.1.bel _)⟩
              show Ending.returned (Value.bool (decide (0 < F.length))) = _
              rw [decide_eq_true (Int.natCast_pos.1 hFne)]
            | false =>
              have hfr := HA.out.free HDQ.out.symm
              go_upto_region 26 with (first | (go_at_call 16; refine HM2.out.mono ?_; rintro _ w6 ⟨rfl, X6, h6⟩; have H6 := Lib.hid h6; clear h6) | fail)
              obtain ⟨m', hm'⟩ := hfr.2.1
              have HC0 := H6.out.cancel nm HSZ.out
              obtain ⟨T3, hT3⟩ : ∃ T3, T3 = T2.cancelC nm [] := ⟨_, rfl⟩
              have hz := hfr.2.2
              rw [hfr.1, hm', ← hT3] at HC0
              rw [← hT3] at hz
              obtain ⟨L, hL⟩ : ∃ L, L = nm :: (m' ++ [fr1, fr2]) := ⟨_, rfl⟩
              rw [← hL] at HC0
              have HC := Lib.hid HC0
              have HZ := Lib.hid hz
              have HLL := Lib.hid hL
              clear hm' HC0 hT3 hz hL hfr
              go_upto_region 27 with (first | (go_at_call 17; refine HC.out.mono ?_; rintro _ w7 ⟨A7, c7, rfl, hr7, X7, h7, -⟩; have H7 := Lib.hid (And.intro h7 HZ.out); have HR7 := Lib.hid hr7; clear h7 hr7) | fail)
              obtain ⟨p, hp⟩ : ∃ p, p = (nm :: m').length := ⟨_, rfl⟩
              have hLa : L = (nm :: m') ++ [fr1, fr2] := by rw [HLL.out]; simp
              have hLl : L.length = p + 2 := by rw [hLa, hp]; simp
              have hp1 : 1 ≤ p := by rw [hp]; simp
              have hLs : L.length ≤ 9223372036854775807 := Nat.le_trans HR7.out.2.1 (by decide)
              obtain ⟨r, hr⟩ : ∃ r, r = p + 1 := ⟨_, rfl⟩
              obtain ⟨a7, rfl, hc0⟩ := Kd.at_string HR7.out ((0 : Nat) : Int) (by decide) (by omega)
              obtain ⟨a8, e7, hc1⟩ := Kd.at_string HR7.out (p : Int) (Int.natCast_nonneg p) (by omega)
              have e7' := Option.some.inj e7
              subst e7'
              clear e7
              obtain ⟨a9, e8, hc2⟩ := Kd.at_string HR7.out (r : Int) (Int.natCast_nonneg _) (by omega)
              have e8' := Option.some.inj e8
              subst e8'
              clear e8
              rw [Int.toNat_natCast, rdOf_getD] at hc0 hc1 hc2
              rw [show L.getD 0 ByteArray.empty = nm by rw [HLL.out]; rfl] at hc0
              rw [show L.getD p ByteArray.empty = fr1 by rw [hLa, hp]; exact getD_end1 _ _ _ _] at hc1
              rw [show L.getD r ByteArray.empty = fr2 by rw [hLa, hr, hp]; exact getD_end2 _ _ _ _] at hc2
              have hc0' : w7.cell? a7 = some (.string nm) := hc0
              have hc1' : w7.cell? (a7.add p) = some (.string ⟨#[102, 114, 101, 115, 104, 95, 49]⟩) := hc1
              have hc2' : w7.cell? (a7.add r) = some (.string ⟨#[102, 114, 101, 115, 104, 95, 50]⟩) := hc2
              have hw2 : wrap64 ((L.length : Int) - 2) = (p : Int) := by rw [hLl]; unfold wrap64; omega
              have hw1 : wrap64 ((L.length : Int) - 1) = (r : Int) := by rw [hLl]; unfold wrap64; omega
              have hz4 : ¬ (L.length : Int) < 3 := by omega
              have hz5 : (p : Int) < (L.length : Int) := by omega
              have hz6 : (r : Int) < (L.length : Int) := by omega
              have hz7 : (0 : Int) < (L.length : Int) := by omega
              have hz8 : (0 : Int) ≤ (p : Int) := Int.natCast_nonneg p
              have hz9 : (0 : Int) ≤ (r : Int) := Int.natCast_nonneg _
              clear hc0 hc1 hc2 hp hr hLa hLl hp1 hLs
              go_upto_region 29 with fail
              obtain ⟨F, hF⟩ : ∃ F, F = T3.failL nm := ⟨_, rfl⟩
              have HF := Lib.hid (show F.length ≤ 1024 from hF ▸ failL_len H7.out.1.ns nm)
              have hFne : (0 : Int) < (F.length : Int) := by
                have : F ≠ [] := hF ▸ H7.out.2.ne
                have := List.length_pos_iff.2 this
                omega
              have HF0 := Lib.hid (fun w' (h' : Lv w1 w' b X7 T3) => hang_fail (nm := nm) h' HSZ.out H7.out.2.e0 hF.symm)
              have HF1 := Lib.hid (fun w' (h' : Lv w1 w' b X7 T3) => hang_fail (nm := nm) (n := fr1) h' (by decide) H7.out.2.e1 (H7.out.2.l1.trans hF.symm))
              have HF2 := Lib.hid (fun w' (h' : Lv w1 w' b X7 T3) => hang_fail (nm := nm) (n := fr2) h' (by decide) H7.out.2.e2 (H7.out.2.l2.trans hF.symm))
              have HFC := Lib.hid (fun w' (h' : Lv w1 w' b X7 T3) => hang_again h' HSZ.out H7.out.2)
              clear hF
              go_upto_region 30 with (first | (go_at_call 15; refine (HF0.out w7 H7.out.1).mono ?_; rintro _ w8 ⟨A8, c8, rfl, r8, h8, b8⟩; have H8 := Lib.hid (And.intro h8 r8); clear r8 h8 b8) | fail)
              go_upto_region 31 with (first | (go_at_call 15; refine (HF1.out w8 H8.out.1).mono ?_; rintro _ w9 ⟨A9, c9, rfl, r9, h9, b9⟩; have H9 := Lib.hid (And.intro h9 (And.intro r9 (H8.out.2.below b9))); clear r9 h9 b9) | fail)
              go_upto_region 32 with (first | (go_at_call 15; refine (HF2.out w9 H9.out.1).mono ?_; rintro _ w10 ⟨A10, c10, rfl, r10, h10, b10⟩; have H10 := Lib.hid (And.intro h10 (And.intro r10 (And.intro (H9.out.2.1.below b10) (H9.out.2.2.below b10)))); clear r10 h10 b10) | fail)
              go_upto_region 33 with (first | (go_at_call 17; refine (HFC.out w10 H10.out.1).mono ?_; rintro _ w11 ⟨A11, c11, rfl, X11, h11, k11⟩; have H11 := Lib.hid (And.intro h11 (And.intro (k11 _ _ H10.out.2.1) (And.intro (k11 _ _ H10.out.2.2.1) (k11 _ _ H10.out.2.2.2)))); clear h11 k11) | fail)
              have R8 := Lib.hid (Kd.R_reads' H11.out.2.2.2).2
              have R9 := Lib.hid (Kd.R_reads' H11.out.2.2.1).2
              have R10 := Lib.hid (Kd.R_reads' H11.out.2.1).2
              go_wp2_with (first | (go_at_call 20; (with_reducible refine (failsE w11 A8 A9 c8 c9 F ⟨R8.out.2, R8.out.1⟩ ⟨R9.out.2, R9.out.1⟩ HF.out).mono ?_); rintro _ w12 ⟨rfl, ⟨m12, rfl⟩⟩) | (go_at_call 20; (with_reducible refine (failsE (w11.drewN m12) A9 A10 c9 c10 F ⟨Kd.C_below R9.out.2 (pw_below_drewN (Below.refl _ _) _), R9.out.1⟩ ⟨Kd.C_below R10.out.2 (pw_below_drewN (Below.refl _ _) _), R10.out.1⟩ HF.out).mono ?_); rintro _ w13 ⟨rfl, ⟨m13, rfl⟩⟩) | fail)
              go_ret
              refine ⟨?_, below_then HB1.out HB1.out.size (pw_below_drewN H11.out.1.bel _)⟩
              show Ending.returned (Value.bool (decide (0 < F.length))) = _
              rw [decide_eq_true (Int.natCast_pos.1 hFne)]
end
end Go.Proofs.YtdnkedifjaccoaaDoor.Ce
