/- TokenLimits, walked. -/
import Derived.Test.YtdnkedifjaccoaaDoorLt
namespace Go.Proofs.YtdnkedifjaccoaaDoor.Ce
open Go.RowKit Go.Maps Go.Shelf Go.Lib Go.Proofs Go.Proofs.YtdnkedifjaccoaaDoor Go.Proofs.YtdnkedifjaccoaaDoorW.PrintWords Go.Proofs.YtdnkedifjaccoaaDoorW.PrintLast Go.Proofs.YtdnkedifjaccoaaDoorW.PrintMore PToken
set_option linter.unusedVariables false
set_option linter.unusedSimpArgs false
section
variable {X X' : Nat → Prop} {w w' w0 : World} {b : Nat} {T : Tree}
/-- Two rows that grow side by side: names, and a number of each. -/
structure Pair (w : World) (base : Nat) (v : Value) (xs : List ByteArray) (u : Value) (ys : List Int) : Prop where
  a : Kd.R Kd.string 9 w base (fun k => some k ≠ u.ownBlock) v xs
  b : Kd.R (Kd.int .i64) 3 w base (fun k => some k ≠ v.ownBlock) u ys
theorem Pair.below {base : Nat} {v u : Value} {xs : List ByteArray} {ys : List Int} (h : Pair w base v xs u ys) (hb : Below w.heap.size w w') : Pair w' base v xs u ys := ⟨Kd.R_below h.a hb, Kd.R_below h.b hb⟩
theorem Pair.fresh1 {base : Nat} {v u : Value} {xs : List ByteArray} {ys : List Int} (h : Pair w base v xs u ys) : ∀ k, w.heap.size ≤ k → some k ≠ u.ownBlock := fun k hk e => by
  have := ((Kd.R_bound h.b).1 k e.symm).2.2.1; omega
theorem Pair.fresh2 {base : Nat} {v u : Value} {xs : List ByteArray} {ys : List Int} (h : Pair w base v xs u ys) : ∀ k, w.heap.size ≤ k → some k ≠ v.ownBlock := fun k hk e => by
  have := ((Kd.R_bound h.a).1 k e.symm).2.2.1; omega
theorem re_int {base : Nat} {ok ok' : Nat → Prop} {v : Value} {ys : List Int} (h : Kd.R (Kd.int .i64) 3 w base ok v ys) (hk : ∀ k, v.ownBlock = some k → ok' k) : Kd.R (Kd.int .i64) 3 w base ok' v ys := ⟨hk, h.2⟩
theorem re_str {base : Nat} {ok ok' : Nat → Prop} {v : Value} {ys : List ByteArray} (h : Kd.R Kd.string 9 w base ok v ys) (hk : ∀ k, v.ownBlock = some k → ok' k) : Kd.R Kd.string 9 w base ok' v ys := ⟨hk, h.2⟩
theorem Pair.grow1 {base : Nat} {v v1 u : Value} {xs zs : List ByteArray} {ys : List Int} (h : Pair w base v xs u ys) (ho : Kd.R Kd.string 9 w' base (fun k => some k ≠ u.ownBlock) v1 zs) (hg : w.grownBy w' v.ownBlock) (hat : v1.ownBlock = v.ownBlock ∨ ∃ b, v1.ownBlock = some b ∧ w.heap.size ≤ b) : Pair w' base v1 zs u ys :=
  ⟨ho, re_int (Kd.R_grown h.b hg (fun k hk => hk)) (fun k hk e => by
    have hlt := ((Kd.R_bound h.b).1 k hk).2.2.1
    rcases hat with h1 | ⟨q, h1, h2⟩
    · exact h.b.1 k hk (e.trans h1)
    · rw [h1] at e
      have := Option.some.inj e
      omega)⟩
theorem Pair.grow2 {base : Nat} {v u u1 : Value} {xs : List ByteArray} {ys zs : List Int} (h : Pair w base v xs u ys) (ho : Kd.R (Kd.int .i64) 3 w' base (fun k => some k ≠ v.ownBlock) u1 zs) (hg : w.grownBy w' u.ownBlock) (hat : u1.ownBlock = u.ownBlock ∨ ∃ b, u1.ownBlock = some b ∧ w.heap.size ≤ b) : Pair w' base v xs u1 zs :=
  ⟨re_str (Kd.R_grown h.a hg (fun k hk => hk)) (fun k hk e => by
    have hlt := ((Kd.R_bound h.a).1 k hk).2.2.1
    rcases hat with h1 | ⟨q, h1, h2⟩
    · exact h.a.1 k hk (e.trans h1)
    · rw [h1] at e
      have := Option.some.inj e
      omega), ho⟩
theorem Pair.nil (w : World) (base : Nat) : Pair w base (.slice none 0 0) [] (.slice none 0 0) [] := ⟨Kd.R_nil _ _ _ _ _, Kd.R_nil _ _ _ _ _⟩
/-- Limit, of a live token. -/
theorem Lv.limit (h : Lv w0 w b X T) (nm : ByteArray) (hn : nm.size ≤ maxLen) {i : Nat} (hf : T.find nm = some i) :
    Calls Tryd.prog 22 #[.pointer (some ⟨b, 0, none⟩), .string nm] w fun e w' => ∃ n : Int, e = .returned (.tuple #[.int .i64 (if n < 0 then 0 else n), .bool (decide (0 ≤ n)), .int .i64 0]) ∧ (∃ S, Tree.LimP T i [] (-1) S n) ∧ Below w.heap.size w w' := by
  obtain ⟨s, k⟩ := h.l
  exact Limit_is k.tm k.good nm hn hf
theorem Lv.advance (h : Lv w0 w b X T) (d : Int) :
    Calls Tryd.prog 11 #[.pointer (some ⟨b, 0, none⟩), .int .i64 d] w fun e w' => (∃ v, e = .returned (.tuple #[v, .int .i64 (T.advE d)])) ∧ ∃ X', Lv w0 w' b X' (T.advC d) ∧ (∀ v F, RowX Kd.string 9 X w v F → RowX Kd.string 9 X' w' v F) ∧ (∀ v F, RowX (Kd.int .i64) 3 X w v F → RowX (Kd.int .i64) 3 X' w' v F) := by
  obtain ⟨s, k⟩ := h.l
  refine (Advance_is k.tm k.good k.ns k.laid d).mono ?_
  rintro e w' ⟨v, X', s', rfl, ha, hv⟩
  exact ⟨⟨v, rfl⟩, X', h.api ha (Tree.advC_good k.good d).1 (k.ns.advC k.good.wf d), fun v F hr => hr.api ha, fun v F hr => hr.api ha⟩
theorem Lv.now (h : Lv w0 w b X T) : Calls Tryd.prog 14 #[.pointer (some ⟨b, 0, none⟩)] w fun e w' => e = .returned (.int .i64 T.now) ∧ w' = w := by
  obtain ⟨s, k⟩ := h.l
  exact now_is k.tm
theorem lim_more {Lx : List ByteArray} {V : List Int} {j : Nat} {x : ByteArray} {v : Int} (h : Lx.length ≤ j ∧ V.length = Lx.length ∧ ∀ k, k < Lx.length → LimOK T (Lx.getD k ByteArray.empty) (V.getD k 0)) (hx : LimOK T x v) :
    (Lx ++ [x]).length ≤ j + 1 ∧ (V ++ [v]).length = (Lx ++ [x]).length ∧ ∀ k, k < (Lx ++ [x]).length → LimOK T ((Lx ++ [x]).getD k ByteArray.empty) ((V ++ [v]).getD k 0) := by
  refine ⟨by have := h.1; simp; omega, by simp [h.2.1], fun k hk => ?_⟩
  rw [List.length_append] at hk
  simp only [List.length_cons, List.length_nil] at hk
  rw [List.getD_eq_getElem?_getD, List.getD_eq_getElem?_getD]
  by_cases e : k < Lx.length
  · rw [List.getElem?_append_left e, List.getElem?_append_left (by rw [h.2.1]; exact e), ← List.getD_eq_getElem?_getD, ← List.getD_eq_getElem?_getD]
    exact h.2.2 k e
  · have hk2 : k = Lx.length := by omega
    rw [List.getElem?_append_right (by omega), List.getElem?_append_right (by rw [h.2.1]; omega), hk2, h.2.1, Nat.sub_self]
    exact hx
theorem advE_or (k : Int) : T.advE k = 0 ∨ T.advE k = 1 := by
  unfold Tree.advE; split <;> simp
theorem lim_short (h : NS T) {x : ByteArray} {v : Int} (hl : LimOK T x v) : x.size ≤ maxLen := by
  obtain ⟨i, hf, -, -⟩ := hl
  have h1 := Tree.find_some hf
  rw [← bytes_eq h1.2]
  exact Nat.le_trans (h i h1.1).1 (by decide)
end
section
set_option maxHeartbeats 8000000 in
set_option maxRecDepth 100000 in
theorem tlimits_is (w : World) (hla : LaidF w) (A : Option Addr) (c : Nat) (l : List CallV) (hr : Kd.C kC w A l.length l) (hl : l.length ≤ 2000000000000) (hok : ∀ x ∈ l, CallOk x) (ticks : Int) :
    Calls Tryd.prog 6 #[.slice A l.length c, .int .i64 ticks] w fun e w' => e = .returned (.bool true) ∧ Below w.heap.size w w' := by
  have HW0 := Lib.hid (works_is w hla)
  have HPL := Lib.hid (fun (w1 : World) (hb : Below w.heap.size w w1) => played_is w1 (hla.below hb) A c l (Kd.C_below hr hb) hl hok)
  obtain ⟨T, hT⟩ : ∃ T, T = Tree.playC (fun x => amongK 5 x.kind) T0 l := ⟨_, rfl⟩
  rw [← hT] at HPL
  obtain ⟨n, hn⟩ : ∃ n, n = l.length := ⟨_, rfl⟩
  rw [← hn] at HPL ⊢
  clear hla hr hl hok hT hn
  go_enter Tryd.func6, Tryd.ntmps6
  go_upto_region 6 with (first | (go_at_call 7; refine HW0.out.mono ?_; rintro _ w1 ⟨rfl, hb1⟩; have HB1 := Lib.hid hb1; clear hb1) | (go_at_call 8; refine (HPL.out w1 HB1.out).mono ?_; rintro _ w2 ⟨b, X, s, rfl, h2, hb2⟩; have H2 := Lib.hid (show Lv w1 w2 b X T from ⟨⟨s, h2⟩, hb2⟩); clear h2 hb2) | fail)
  go_upto_region 7 with (first | (go_at_call 21; refine H2.out.names.mono ?_; rintro _ w3 ⟨A3, c3, rfl, h3, hl3⟩; have H3 := Lib.hid (And.intro hl3 h3); clear h3 hl3) | fail)
  obtain ⟨N, hN⟩ : ∃ N, N = T.namesOf (List.range T.toks.length) := ⟨_, rfl⟩
  obtain ⟨m, hm⟩ : ∃ m, m = N.length := ⟨_, rfl⟩
  have hmT : m = T.toks.length := by rw [hm, hN]; unfold Tree.namesOf; rw [List.length_map, List.length_range]
  rw [← hN] at H3
  rw [← hN, ← hm]
  have HN := Lib.hid (And.intro hN (And.intro hm hmT))
  have HG := Lib.hid (And.intro H3.out.1.good H3.out.1.ns)
  have HM := Lib.hid (show m ≤ 256 from hmT ▸ H3.out.1.good.small)
  have HDOM := Lib.hid (show ∀ k, X k → k < w3.heap.size from H3.out.1.l.elim fun s h => fun k hk => (h.tm.dom k hk).2)
  clear hN hm hmT HW0 HPL H2
  go_upto_region 9 with fail
  go_upto_region 10 with fail
  go_loopg [7, 8, 32] m (fun gk v7 v8 v32 wr => ∃ (j : Nat) (Lx : List ByteArray) (V : List Int), v32 = .int .i64 (j : Int) ∧ j ≤ m ∧ m ≤ j + gk ∧ Hid (Pair wr w3.heap.size v7 Lx v8 V ∧ Below w3.heap.size w3 wr) ∧ Hid (Lx.length ≤ j ∧ V.length = Lx.length ∧ ∀ k, k < Lx.length → LimOK T (Lx.getD k ByteArray.empty) (V.getD k 0)))
  case atStart => exact ⟨0, [], [], rfl, Nat.zero_le _, by omega, Lib.hid ⟨Pair.nil _ _, Below.refl _ _⟩, Lib.hid ⟨Nat.le_refl _, rfl, fun k hk => by simp at hk⟩⟩
  case round =>
    obtain ⟨j, Lx, V, rfl, hj, hg, HS, HI⟩ := hrel
    by_cases hlt : j < m
    · have hltz : (j : Int) < (m : Int) := Int.ofNat_lt.2 hlt
      have hj0 : (0 : Int) ≤ (j : Int) := Int.natCast_nonneg j
      obtain ⟨ad, rfl, hce⟩ := Kd.at_string (Kd.C_below H3.out.2.1 HS.out.2) (j : Int) hj0 (by rw [← HN.out.2.1]; exact hltz)
      rw [Int.toNat_natCast, rdOf_getD] at hce
      obtain ⟨x, hx⟩ : ∃ x, N.getD j ByteArray.empty = x := ⟨_, rfl⟩
      rw [hx] at hce
      have hjT : j < T.toks.length := HN.out.2.2 ▸ hlt
      have hxT : (T.tk j).name = x := by
        rw [← hx, HN.out.1]
        unfold Tree.namesOf
        rw [List.getD_eq_getElem?_getD, List.getElem?_map, List.getElem?_range hjT]; rfl
      have hxs : x.size ≤ maxLen := Nat.le_trans (hxT ▸ (HG.out.2 j hjT).1) (by decide)
      have hf := HG.out.1.find hjT (by rw [hxT])
      obtain ⟨d, hd⟩ : ∃ d, d = (T.tk j).done := ⟨_, rfl⟩
      have HD0 := (H3.out.1.below HS.out.2).done x hxs
      rw [hf] at HD0
      simp only at HD0
      rw [← hd] at HD0
      have HD := Lib.hid HD0
      have HL0 := Lib.hid ((H3.out.1.below HS.out.2).limit x hxs hf)
      have HFD := Lib.hid (And.intro hf hd)
      have HW := Lib.hid (wsucc j (by have := HM.out; omega))
      have HLN := Lib.hid (show Lx.length ≤ 256 ∧ V.length ≤ 256 by have := HI.out.1; have := HI.out.2.1; have := HM.out; omega)
      have HL := Lib.hid (And.intro (Nat.succ_le_of_lt hlt) (And.intro (show m - (j + 1) < gk by omega) (show m ≤ j + 1 + (m - (j + 1)) by omega)))
      clear hx hjT hxT hxs hf HD0 hd hlt hj hg
      go_upto_region 14 with (first | (go_at_call 19; refine HD.out.mono ?_; rintro _ w4 ⟨rfl, rfl⟩) | (go_at_call 22; refine HL0.out.mono ?_; rintro _ w5 ⟨v5, rfl, hp5, hb5⟩; have H5 := Lib.hid (And.intro hp5 (And.intro hb5 (HS.out.2.trans (hb5.mono HS.out.2.size)))); clear hp5 hb5) | fail)
      have HP5 := Lib.hid (HS.out.1.below H5.out.2.1)
      obtain ⟨A7, c7, rfl, -, -⟩ := Kd.R_reads HP5.out.a
      obtain ⟨A8, c8, rfl, -, -⟩ := Kd.R_reads HP5.out.b
      cases d with
      | true =>
        by_cases hn5 : v5 < 0
        · rw [if_pos hn5, decide_eq_false (show ¬ 0 ≤ v5 by omega)]
          clear hn5
          go_wp2_with fail
          go_roundg (m - (j + 1))
          case measure => exact HL.out.2.1
          case rel => exact ⟨j + 1, Lx, V, (by first | exact congrArg _ HW.out | rfl), HL.out.1, HL.out.2.2, Lib.hid ⟨HP5.out, H5.out.2.2⟩, Lib.hid ⟨Nat.le_succ_of_le HI.out.1, HI.out.2⟩⟩
        · rw [if_neg hn5, decide_eq_true (show 0 ≤ v5 by omega)]
          clear hn5
          go_wp2_with fail
          go_roundg (m - (j + 1))
          case measure => exact HL.out.2.1
          case rel => exact ⟨j + 1, Lx, V, (by first | exact congrArg _ HW.out | rfl), HL.out.1, HL.out.2.2, Lib.hid ⟨HP5.out, H5.out.2.2⟩, Lib.hid ⟨Nat.le_succ_of_le HI.out.1, HI.out.2⟩⟩
      | false =>
        obtain ⟨S5, hS5⟩ := H5.out.1
        by_cases hn5 : v5 < 0
        · have HI2 := Lib.hid (lim_more HI.out (lim_none hS5 HFD.out.1 HFD.out.2.symm hn5))
          rw [if_pos hn5, decide_eq_false (show ¬ 0 ≤ v5 by omega)]
          clear hn5 hS5
          go_wp2_with (first | ((with_reducible refine gate_builtin (b := .append) (xs := #[.tmp 59, .tmp 61]) rfl ?_); (try (refine gate_guard (by rfl) ?_; dsimp only)); at_builtin; refine Kd.R_append Kd.string (w0 := w3) w3.heap.size rfl (.tmp 59) (.tmp 61) 28 9 (.string ⟨#[]⟩) 16 rfl Tryd.underlying28 info9s rfl (by decide) (by decide) (.slice A7 Lx.length c7) Lx x [.string x] (fun k => some k ≠ (Value.slice A8 V.length c8).ownBlock) (fun _ => False) rfl rfl rfl (fun _ hk => hk.elim) HP5.out.fresh1 HP5.out.a H5.out.2.2 H5.out.2.2.size (by have := HLN.out.1; omega) ?_; intro v7 w7 ho hb hg hat; have H7 := Lib.hid (And.intro (HP5.out.grow1 ho hg hat) hb); clear ho hb hg hat) | ((with_reducible refine gate_builtin (b := .append) (xs := #[.tmp 63, .tmp 65]) rfl ?_); (try (refine gate_guard (by rfl) ?_; dsimp only)); at_builtin; refine Kd.R_append (Kd.int .i64) (w0 := w3) w3.heap.size rfl (.tmp 63) (.tmp 65) 51 3 (.int .i64 0) 8 rfl Tryd.underlying51 info3 rfl (by decide) (by decide) (.slice A8 V.length c8) V 1099511627777 [.int .i64 1099511627777] (fun k => some k ≠ v7.ownBlock) (fun _ => False) rfl rfl rfl (fun _ hk => hk.elim) H7.out.1.fresh2 H7.out.1.b H7.out.2 H7.out.2.size (by have := HLN.out.2; omega) ?_; intro v8 w8 ho hb hg hat; have H8 := Lib.hid (And.intro (H7.out.1.grow2 ho hg hat) hb); clear ho hb hg hat) | fail)
          go_roundg (m - (j + 1))
          case measure => exact HL.out.2.1
          case rel => exact ⟨j + 1, Lx ++ [x], V ++ [1099511627777], (by first | exact congrArg _ HW.out | rfl), HL.out.1, HL.out.2.2, H8, HI2⟩
        · have HI2 := Lib.hid (lim_more HI.out (lim_some hS5 HFD.out.1 HFD.out.2.symm hn5))
          rw [if_neg hn5, decide_eq_true (show 0 ≤ v5 by omega)]
          clear hn5 hS5
          go_wp2_with (first | ((with_reducible refine gate_builtin (b := .append) (xs := #[.tmp 59, .tmp 61]) rfl ?_); (try (refine gate_guard (by rfl) ?_; dsimp only)); at_builtin; refine Kd.R_append Kd.string (w0 := w3) w3.heap.size rfl (.tmp 59) (.tmp 61) 28 9 (.string ⟨#[]⟩) 16 rfl Tryd.underlying28 info9s rfl (by decide) (by decide) (.slice A7 Lx.length c7) Lx x [.string x] (fun k => some k ≠ (Value.slice A8 V.length c8).ownBlock) (fun _ => False) rfl rfl rfl (fun _ hk => hk.elim) HP5.out.fresh1 HP5.out.a H5.out.2.2 H5.out.2.2.size (by have := HLN.out.1; omega) ?_; intro v7 w7 ho hb hg hat; have H7 := Lib.hid (And.intro (HP5.out.grow1 ho hg hat) hb); clear ho hb hg hat) | ((with_reducible refine gate_builtin (b := .append) (xs := #[.tmp 63, .tmp 65]) rfl ?_); (try (refine gate_guard (by rfl) ?_; dsimp only)); at_builtin; refine Kd.R_append (Kd.int .i64) (w0 := w3) w3.heap.size rfl (.tmp 63) (.tmp 65) 51 3 (.int .i64 0) 8 rfl Tryd.underlying51 info3 rfl (by decide) (by decide) (.slice A8 V.length c8) V v5 [.int .i64 v5] (fun k => some k ≠ v7.ownBlock) (fun _ => False) rfl rfl rfl (fun _ hk => hk.elim) H7.out.1.fresh2 H7.out.1.b H7.out.2 H7.out.2.size (by have := HLN.out.2; omega) ?_; intro v8 w8 ho hb hg hat; have H8 := Lib.hid (And.intro (H7.out.1.grow2 ho hg hat) hb); clear ho hb hg hat) | fail)
          go_roundg (m - (j + 1))
          case measure => exact HL.out.2.1
          case rel => exact ⟨j + 1, Lx ++ [x], V ++ [v5], (by first | exact congrArg _ HW.out | rfl), HL.out.1, HL.out.2.2, H8, HI2⟩
    · have hltz : ¬ (j : Int) < (m : Int) := fun e => hlt (Int.ofNat_lt.1 e)
      have HLN := Lib.hid (show Lx.length ≤ 256 by have := HI.out.1; have := HM.out; omega)
      have HR1 := Lib.hid (And.intro (RowX.of (X := X) HS.out.1.a HDOM.out) (RowX.of (X := X) HS.out.1.b HDOM.out))
      have HAD := Lib.hid ((H3.out.1.below HS.out.2).advance ticks)
      obtain ⟨A7, c7, rfl, -, -⟩ := Kd.R_reads HR1.out.1
      obtain ⟨A8, c8, rfl, -, -⟩ := Kd.R_reads HR1.out.2
      clear hj hg hlt HS H3
      go_upto_region 22 with (first | (go_at_call 11; refine HAD.out.mono ?_; rintro _ w4 ⟨⟨v4, rfl⟩, X4, h4, ka, kb⟩; have H4 := Lib.hid (And.intro h4 (And.intro (ka _ _ HR1.out.1) (kb _ _ HR1.out.2))); clear h4 ka kb) | fail)
      have HLA := Lib.hid (fun (x : ByteArray) (v : Int) (h : LimOK T x v) => lim_adv (k := ticks) HG.out.1 h)
      have hae := advE_or (T := T) ticks
      obtain ⟨e1, he1⟩ : ∃ e, e = T.advE ticks := ⟨_, rfl⟩
      rw [← he1] at HLA hae ⊢
      obtain ⟨U, hU⟩ : ∃ U, U = T.advC ticks := ⟨_, rfl⟩
      rw [← hU] at HLA H4
      obtain ⟨p, hp⟩ : ∃ p, p = Lx.length := ⟨_, rfl⟩
      have HP := Lib.hid hp
      rw [← hp]
      rw [← hp] at HLN
      have HR4 := Lib.hid (show RowX Kd.string 9 X4 w4 (.slice A7 p c7) Lx from hp ▸ H4.out.2.1)
      have HQ4 := Lib.hid (show RowX (Kd.int .i64) 3 X4 w4 (.slice A8 p c8) V from (hp.trans HI.out.2.1.symm) ▸ H4.out.2.2)
      rw [show V.length = p from HI.out.2.1.trans hp.symm]
      clear he1 hU hp HR1 HAD
      go_upto_region 23 with fail
      go_loopg [76] p (fun gk v76 wr => ∃ (k : Nat), v76 = .int .i64 (k : Int) ∧ k ≤ p ∧ p ≤ k + gk ∧ Hid (Lv w1 wr b X4 U ∧ RowX Kd.string 9 X4 wr (.slice A7 p c7) Lx ∧ RowX (Kd.int .i64) 3 X4 wr (.slice A8 p c8) V))
      case atStart => exact ⟨0, rfl, Nat.zero_le _, by omega, Lib.hid ⟨H4.out.1, HR4.out, HQ4.out⟩⟩
      case round =>
        obtain ⟨k, rfl, hk, hg, HS⟩ := hrel
        by_cases hlt : k < p
        · have hltz : (k : Int) < (p : Int) := Int.ofNat_lt.2 hlt
          have hk0 : (0 : Int) ≤ (k : Int) := Int.natCast_nonneg k
          have r7 := (Kd.R_reads' HS.out.2.1).2.2
          have r8 := (Kd.R_reads' HS.out.2.2).2.2
          obtain ⟨a7, rfl, hce⟩ := Kd.at_string r7 (k : Int) hk0 (by rw [← HP.out]; exact hltz)
          obtain ⟨a8, rfl, hci⟩ := Kd.at_int r8 (k : Int) hk0 (by rw [HI.out.2.1, ← HP.out]; exact hltz)
          rw [Int.toNat_natCast, rdOf_getD] at hce
          have hrd : rd V (k : Int) = V.getD k 0 := by unfold rd; rw [Int.toNat_natCast]
          rw [Int.toNat_natCast, hrd] at hci
          have hlo := HI.out.2.2 k (by rw [← HP.out]; exact hlt)
          obtain ⟨x, hx⟩ : ∃ x, Lx.getD k ByteArray.empty = x := ⟨_, rfl⟩
          obtain ⟨v, hv⟩ : ∃ v, V.getD k 0 = v := ⟨_, rfl⟩
          rw [hx] at hce hlo
          rw [hv] at hci hlo
          have HD0 := HS.out.1.done x (lim_short HG.out.2 hlo)
          obtain ⟨ix, hix, hdx⟩ := HLA.out x v hlo
          rw [hix] at HD0
          simp only at HD0
          rw [hdx] at HD0
          have HD := Lib.hid HD0
          have HN1 := Lib.hid (fun q => (HS.out.1.below (pw_below_drewN (Below.refl _ _) q)).now)
          have HW := Lib.hid (wsucc k (by have := HLN.out; omega))
          have HL := Lib.hid (And.intro (Nat.succ_le_of_lt hlt) (And.intro (show p - (k + 1) < gk by omega) (show p ≤ k + 1 + (p - (k + 1)) by omega)))
          obtain ⟨nw, hnw⟩ : ∃ nw, nw = U.now := ⟨_, rfl⟩
          rw [← hnw] at HD HN1
          clear r7 r8 hrd hlo hx hv HD0 hix hdx hlt hk hg hnw
          go_upto_region 26 with (first | (go_at_call 19; refine HD.out.mono ?_; rintro _ w5 ⟨rfl, rfl⟩) | fail)
          rcases hae with rfl | rfl
          · by_cases hv : v ≤ nw
            · rw [show (decide ((0 : Int) = 0) && decide (v ≤ nw)) = true by rw [decide_eq_true hv]; rfl]
              go_region_held3 (fun w' => w'.cell? (a8.add k) = some (.int .i64 v)) (first | exact hci) (first | (go_at_call 14; refine (HN1.out _).mono ?_; rintro _ w6 ⟨rfl, rfl⟩) | fail)
              all_goals
                go_wp2_with fail
                go_roundg (p - (k + 1))
                case measure => exact HL.out.2.1
                case rel => exact ⟨k + 1, (by first | exact congrArg _ HW.out | rfl), HL.out.1, HL.out.2.2, Lib.hid ⟨HS.out.1.below (pw_below_drewN (Below.refl _ _) _), HS.out.2.1.below (pw_below_drewN (Below.refl _ _) _), HS.out.2.2.below (pw_below_drewN (Below.refl _ _) _)⟩⟩
            · rw [show (decide ((0 : Int) = 0) && decide (v ≤ nw)) = false by rw [decide_eq_false hv]; rfl]
              go_region_held3 (fun w' => w'.cell? (a8.add k) = some (.int .i64 v)) (first | exact hci) (first | (go_at_call 14; refine (HN1.out _).mono ?_; rintro _ w6 ⟨rfl, rfl⟩) | fail)
              all_goals
                go_wp2_with fail
                go_roundg (p - (k + 1))
                case measure => exact HL.out.2.1
                case rel => exact ⟨k + 1, (by first | exact congrArg _ HW.out | rfl), HL.out.1, HL.out.2.2, Lib.hid ⟨HS.out.1.below (pw_below_drewN (Below.refl _ _) _), HS.out.2.1.below (pw_below_drewN (Below.refl _ _) _), HS.out.2.2.below (pw_below_drewN (Below.refl _ _) _)⟩⟩
          · rw [show (decide ((1 : Int) = 0) && decide (v ≤ nw)) = false from rfl]
            go_quiet (fail)
            all_goals
                go_wp2_with fail
                go_roundg (p - (k + 1))
                case measure => exact HL.out.2.1
                case rel => exact ⟨k + 1, (by first | exact congrArg _ HW.out | rfl), HL.out.1, HL.out.2.2, Lib.hid ⟨HS.out.1.below (pw_below_drewN (Below.refl _ _) _), HS.out.2.1.below (pw_below_drewN (Below.refl _ _) _), HS.out.2.2.below (pw_below_drewN (Below.refl _ _) _)⟩⟩
        · have hltz : ¬ (k : Int) < (p : Int) := fun e => hlt (Int.ofNat_lt.1 e)
          clear hk hg hlt
          go_wp2_with fail
          go_ret
          exact ⟨rfl, below_then HB1.out HB1.out.size HS.out.1.bel⟩
end
end Go.Proofs.YtdnkedifjaccoaaDoor.Ce
