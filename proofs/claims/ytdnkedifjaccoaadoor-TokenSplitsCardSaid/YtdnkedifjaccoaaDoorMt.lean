/- TokenSplits, walked: two trees, one of which goes on in time. -/
import Derived.Test.YtdnkedifjaccoaaDoorPh
namespace Go.Proofs.YtdnkedifjaccoaaDoor.Ce
open Go.RowKit Go.Maps Go.Shelf Go.Lib Go.Proofs Go.Proofs.YtdnkedifjaccoaaDoor Go.Proofs.YtdnkedifjaccoaaDoorW.PrintWords Go.Proofs.YtdnkedifjaccoaaDoorW.PrintLast Go.Proofs.YtdnkedifjaccoaaDoorW.PrintMore PToken
set_option linter.unusedVariables false
set_option linter.unusedSimpArgs false
section
/-- Two trees side by side. -/
structure Duo (w : World) (b : Nat) (X : Nat → Prop) (T : Tree) (b2 : Nat) (X2 : Nat → Prop) (U : Tree) (w0 : World) : Prop where
  l1 : ∃ s, Liv X w b T s w0.heap.size
  l2 : ∃ s, Liv X2 w b2 U s w0.heap.size
  d : ∀ k, X2 k → ¬ X k
  bel : Below w0.heap.size w0 w
variable {X X' X2 Y : Nat → Prop} {w w' B : World} {b b2 : Nat} {T T' U : Tree}
theorem Duo.swap (h : Duo w b X T b2 X2 U B) : Duo w b2 X2 U b X T B := ⟨h.l2, h.l1, fun k h1 h2 => h.d k h2 h1, h.bel⟩
theorem Duo.below (h : Duo w b X T b2 X2 U B) (hb : Below w.heap.size w w') : Duo w' b X T b2 X2 U B :=
  ⟨h.l1.elim fun s k => ⟨s, k.below hb⟩, h.l2.elim fun s k => ⟨s, k.below hb⟩, h.d, h.bel.trans (hb.mono h.bel.size)⟩
/-- A row of names beside both. -/
def RowD (X X2 : Nat → Prop) (w : World) (v : Value) (N : List ByteArray) : Prop := Kd.R Kd.string 9 w 0 (fun q => ¬ X q ∧ ¬ X2 q ∧ q < w.heap.size) v N
theorem RowD.swap {v : Value} {N : List ByteArray} (h : RowD X X2 w v N) : RowD X2 X w v N := Kd.R_mono h (fun q hq => ⟨hq.2.1, hq.1, hq.2.2⟩)
theorem RowD.below {v : Value} {N : List ByteArray} (h : RowD X X2 w v N) (hb : Below w.heap.size w w') : RowD X X2 w' v N :=
  Kd.R_mono (Kd.R_below h hb) (fun q hq => ⟨hq.1, hq.2.1, Nat.lt_of_lt_of_le hq.2.2 hb.size⟩)
theorem Duo.adv (h : Duo w b X T b2 X2 U B) (k : Int) :
    Calls Tryd.prog 11 #[.pointer (some ⟨b, 0, none⟩), .int .i64 k] w fun e w' => ∃ v X', e = .returned (.tuple #[v, .int .i64 (T.advE k)]) ∧ Duo w' b X' (T.advC k) b2 X2 U B ∧ RowD X' X2 w' v (newN T (T.advC k)) ∧ (∀ u N, RowD X X2 w u N → RowD X' X2 w' u N) := by
  obtain ⟨s, h1⟩ := h.l1
  obtain ⟨s2, h2⟩ := h.l2
  refine (Advance_is h1.tm h1.good h1.ns h1.laid k).mono ?_
  rintro e w' ⟨v, X', s', rfl, ha, hv⟩
  refine ⟨v, X', rfl, ⟨⟨s', h1.api ha (Tree.advC_good h1.good k).1 (h1.ns.advC h1.good.wf k) h.bel.size⟩, ⟨s2, h2.other ha h.d⟩, apart_api h2 ha h.d, h.bel.trans (ha.new_below h1.new h.bel.size)⟩, ?_, fun u N hr => ?_⟩
  · refine Kd.R_lower (Kd.R_mono (Kd.R_bound hv) (fun q hq => ⟨hq.1.1, fun e => ?_, hq.2.2.1⟩)) (Nat.zero_le _)
    have := (h2.tm.dom q e).2
    omega
  · refine Kd.R_mono (Kd.R_move hr (fun q hq => ha.chg.block q hq.2.2 hq.1)) (fun q hq => ⟨fun e => ?_, hq.2.1, Nat.lt_of_lt_of_le hq.2.2 ha.chg.size⟩)
    rcases ha.sub q e with h3 | h3
    · exact hq.1 h3
    · omega
/-- A row against itself. -/
theorem texts_same (W : World) (A B : Option Addr) (c d : Nat) (a : List ByteArray) (h : Kd.C Kd.string W A a.length a ∧ a.length ≤ c) (k : Kd.C Kd.string W B a.length a ∧ a.length ≤ d) (hz : a.length ≤ 256) :
    Calls Tryd.prog 12 #[.slice A a.length c, .slice B a.length d] W fun e w' => e = .returned (.bool true) ∧ Drawn0 W w' := by
  have := texts_is W A B c d a a h.1 h.2 k.1 k.2 (by omega)
  rwa [decide_eq_true (rfl : a = a)] at this
theorem Duo.order (h : Duo w b X T b2 X2 T B) (p : Nat) (hp : p = b ∨ p = b2) :
    Calls Tryd.prog 13 #[.pointer (some ⟨p, 0, none⟩)] w fun e w' => ∃ A c, e = .returned (.slice A (T.namesOf T.ord).length c) ∧ (Kd.C Kd.string w' A (T.namesOf T.ord).length (T.namesOf T.ord) ∧ (T.namesOf T.ord).length ≤ c) ∧ Below w.heap.size w w' := by
  obtain ⟨s, h1⟩ := h.l1
  obtain ⟨s2, h2⟩ := h.l2
  rcases hp with rfl | rfl
  · refine (order_is h1.tm h1.good.wf h1.good.small).mono ?_
    rintro e w' ⟨v, rfl, hr, hb⟩
    obtain ⟨A, c, rfl, k, q⟩ := Kd.R_reads hr
    exact ⟨A, c, rfl, ⟨q, k⟩, hb⟩
  · refine (order_is h2.tm h2.good.wf h2.good.small).mono ?_
    rintro e w' ⟨v, rfl, hr, hb⟩
    obtain ⟨A, c, rfl, k, q⟩ := Kd.R_reads hr
    exact ⟨A, c, rfl, ⟨q, k⟩, hb⟩
theorem Duo.now (h : Duo w b X T b2 X2 T B) (p : Nat) (hp : p = b ∨ p = b2) :
    Calls Tryd.prog 14 #[.pointer (some ⟨p, 0, none⟩)] w fun e w' => e = .returned (.int .i64 T.now) ∧ w' = w := by
  obtain ⟨s, h1⟩ := h.l1
  obtain ⟨s2, h2⟩ := h.l2
  rcases hp with rfl | rfl
  · exact now_is h1.tm
  · exact now_is h2.tm
theorem ord_small (G : Tree.Good T) : (T.namesOf T.ord).length ≤ 256 := by
  have h1 := ord_len G.wf
  have h2 := G.small
  unfold Tree.namesOf
  rw [List.length_map]; omega
theorem advE_two (k : Int) : T.advE k = 0 ∨ T.advE k = 1 := by
  unfold Tree.advE; split <;> simp
set_option maxHeartbeats 4000000 in
set_option maxRecDepth 100000 in
theorem splits_is (w : World) (hla : LaidF w) (A : Option Addr) (c : Nat) (l : List CallV) (hr : Kd.C kC w A l.length l) (hl : l.length ≤ 2000000000000) (hok : ∀ x ∈ l, CallOk x) (a d : Int) :
    Calls Tryd.prog 3 #[.slice A l.length c, .int .i64 a, .int .i64 d] w fun e w' => e = .returned (.bool true) ∧ Below w.heap.size w w' := by
  have HW0 := Lib.hid (works_is w hla)
  have HPL := Lib.hid (fun (w1 : World) (hb : Below w.heap.size w w1) => played_is w1 (hla.below hb) A c l (Kd.C_below hr hb) hl hok)
  obtain ⟨T, hT⟩ : ∃ T, T = Tree.playC (fun x => amongK 5 x.kind) T0 l := ⟨_, rfl⟩
  rw [← hT] at HPL
  obtain ⟨n, hn⟩ : ∃ n, n = l.length := ⟨_, rfl⟩
  rw [← hn] at HPL ⊢
  obtain ⟨a1, ha1⟩ : ∃ a1, a1 = amongK 1048576 a := ⟨_, rfl⟩
  obtain ⟨d1, hd1⟩ : ∃ d1, d1 = amongK 1048576 d := ⟨_, rfl⟩
  have HA1 := Lib.hid (And.intro (ha1 ▸ among_lo 1048576 a (by decide) (by decide)) (hd1 ▸ among_lo 1048576 d (by decide) (by decide)))
  have HAA := Lib.hid (And.intro ha1 hd1)
  clear hla hr hl hok hT hn ha1 hd1
  go_enter Tryd.func3, Tryd.ntmps3
  go_upto_region 6 with (first | (go_at_call 7; refine HW0.out.mono ?_; rintro _ w1 ⟨rfl, hb1⟩; have HB1 := Lib.hid hb1; clear hb1) | (go_at_call 8; refine (HPL.out w1 HB1.out).mono ?_; rintro _ w2 ⟨b, X, s, rfl, h2, hb2⟩; have H2 := Lib.hid (And.intro h2 hb2); clear h2 hb2) | fail)
  go_upto_region 9 with (first | (go_at_call 9; refine (H2.out.1.clone H2.out.2.size).mono ?_; rintro _ w3 ⟨b2, X2, s2, rfl, h3, hb3⟩; have H3 := Lib.hid (show Duo w3 b X T b2 X2 T w1 from ⟨⟨s, H2.out.1.below hb3⟩, ⟨s2, h3.lower H2.out.2.size⟩, fun k hk e => Nat.not_lt.2 (h3.new k hk) (H2.out.1.tm.dom k e).2, H2.out.2.trans (hb3.mono H2.out.2.size)⟩); clear h3 hb3) | fail)
  go_upto_region 10 with (first | (go_at_call 10; refine (among_is _ _ 1048576 (by decide)).mono ?_; rintro _ w4 ⟨rfl, ⟨m4, rfl⟩⟩; first | rw [← HAA.out.1] | rw [← HAA.out.2]) | fail)
  rename_i mm K0 HK0
  have H4 := Lib.hid (H3.out.below (pw_below_drewN (Below.refl _ w3) (mm + m4)))
  obtain ⟨W4, hW4⟩ : ∃ W4, W4 = w3.drewN (mm + m4) := ⟨_, rfl⟩
  rw [← hW4] at H4 ⊢
  clear hW4 H3 H2 HPL HW0
  have HS := Lib.hid (show wrap64 (a1 + d1) = a1 + d1 by have := HA1.out; unfold wrap64; omega)
  go_upto_region 11 with (first | (go_at_call 11; refine (H4.out.adv a1).mono ?_; rintro _ w5 ⟨v5, X5, rfl, h5, r5, -⟩; have H5 := Lib.hid (And.intro h5 r5); clear h5 r5) | fail)
  go_upto_region 12 with (first | (go_at_call 11; refine (H5.out.1.adv d1).mono ?_; rintro _ w6 ⟨v6, X6, rfl, h6, r6, k6⟩; have H6 := Lib.hid (And.intro h6 (And.intro r6 (k6 _ _ H5.out.2))); clear h6 r6 k6) | fail)
  go_upto_region 13 with (first | (rw [HS.out]; go_at_call 11; refine (H6.out.1.swap.adv (a1 + d1)).mono ?_; rintro _ w7 ⟨v7, X7, rfl, h7, r7, k7⟩; have H7 := Lib.hid (And.intro h7.swap (And.intro r7.swap (And.intro (k7 _ _ H6.out.2.1.swap).swap (k7 _ _ H6.out.2.2.swap).swap))); clear h7 r7 k7) | fail)
  have HE := Lib.hid (show (T.advE a1 = 0 → (T.advC a1).advE d1 = 0 → (T.advC a1).advC d1 = T.advC (a1 + d1) ∧ newN T (T.advC a1) ++ newN (T.advC a1) ((T.advC a1).advC d1) = newN T ((T.advC a1).advC d1)) ∧ (newN T ((T.advC a1).advC d1)).length ≤ 256 from by
    have hG := H4.out.l1.elim fun s h => h.good
    have hG6 := H7.out.1.l1.elim fun s h => h.good
    refine ⟨fun e1 e2 => ⟨split_names a1 d1 e1 e2 HA1.out.1.1 HA1.out.2.1, newN_trans (Tree.advC_good hG a1).2 (Tree.advC_good (Tree.advC_good hG a1).1 d1).2 (Tree.advC_good hG a1).1.wf⟩, newN_len hG6.wf hG6.small⟩)
  obtain ⟨e1, he1⟩ : ∃ e1, e1 = T.advE a1 := ⟨_, rfl⟩
  obtain ⟨e2, he2⟩ : ∃ e2, e2 = (T.advC a1).advE d1 := ⟨_, rfl⟩
  obtain ⟨e3, he3⟩ : ∃ e3, e3 = T.advE (a1 + d1) := ⟨_, rfl⟩
  have t1 := advE_two (T := T) a1
  have t2 := advE_two (T := T.advC a1) d1
  have t3 := advE_two (T := T) (a1 + d1)
  rw [← he1] at HE t1 ⊢
  rw [← he2] at HE t2 ⊢
  rw [← he3] at t3 ⊢
  clear he1 he2 he3 H4 H5 H6
  obtain ⟨V, hV⟩ : ∃ V, V = (T.advC a1).advC d1 := ⟨_, rfl⟩
  obtain ⟨N5, hN5⟩ : ∃ N, N = newN T (T.advC a1) := ⟨_, rfl⟩
  obtain ⟨N6, hN6⟩ : ∃ N, N = newN (T.advC a1) V := ⟨_, rfl⟩
  rw [← hV, ← hN5, ← hN6] at H7 HE
  clear hV hN5 hN6
  by_cases hz : e1 = 0 ∧ e2 = 0 ∧ e3 = 0
  · obtain ⟨rfl, rfl, rfl⟩ := hz
    obtain ⟨hv, hn⟩ := HE.out.1 rfl rfl
    have hlen := HE.out.2
    obtain ⟨N7, hN7⟩ : ∃ N, N = newN T V := ⟨_, rfl⟩
    rw [← hv, ← hN7] at H7
    rw [← hN7] at hlen hn
    have HN := Lib.hid (And.intro hn (show N5.length + N6.length = N7.length by rw [← hn, List.length_append]))
    clear hN7
    clear HE t1 t2 t3 hv hn HA1 HAA HS
    have hr5 := H7.out.2.2.2
    have hr6 := H7.out.2.2.1
    have hr7 := H7.out.2.1
    obtain ⟨A5, c5, rfl, k5, q5⟩ := Kd.R_reads hr5
    obtain ⟨A6, c6, rfl, k6, q6⟩ := Kd.R_reads hr6
    obtain ⟨A7, c7, rfl, k7, q7⟩ := Kd.R_reads hr7
    have HQ := Lib.hid (And.intro q5 (And.intro q6 (And.intro q7 (And.intro k7 hlen))))
    clear q5 q6 q7 k5 k6 k7 hr5 hr6 hr7 hlen
    have HEB := Lib.hid (show Below w7.heap.size w7 (w7.alloc (.cells #[] 9)) from (Below.refl _ w7).alloc (Nat.le_refl _) _)
    have HDU := Lib.hid (fun (W : World) (hb : Below w7.heap.size w7 W) => H7.out.1.below hb)
    have HOS := Lib.hid (H7.out.1.l1.elim fun s h => ord_small h.good)
    have HKL := Lib.hid (fun (W : World) (hb : Below w7.heap.size w7 W) => And.intro (Kd.C_below HQ.out.2.2.1 hb) HQ.out.2.2.2.1)
    have HBE := Lib.hid (below_then HB1.out HB1.out.size H7.out.1.bel)
    clear H7
    go_upto_region 15 with fail
    go_wp2_with (first | ((with_reducible refine gate_builtin (b := .append) (xs := #[.tmp 69, .tmp 70]) rfl ?_); (try (refine gate_guard (by rfl) ?_; dsimp only)); at_builtin; refine Kd.R_append_rows Kd.string (w0 := w7) w7.heap.size (by rfl) (.tmp 69) (.tmp 70) 28 9 (.string ⟨#[]⟩) 16 rfl Tryd.underlying28 info9s rfl (by decide) (by decide) _ [] N5 _ _ c5 (fun _ => True) (fun _ => False) rfl rfl (emptyR Kd.string 9 w7 _ w7.heap.size (Nat.le_refl _) rfl) (Kd.C_below HQ.out.1 HEB.out) (fun _ _ hh => hh) (fun _ hh => hh.elim) (fun _ _ => trivial) HEB.out HEB.out.size (by have := HQ.out.2.2.2.2; have := HN.out.2; simp at this ⊢; omega) ?_; intro v8 w8 ho8 hb8 hg hat; rw [List.nil_append] at ho8; have H8 := Lib.hid (And.intro ho8 hb8); clear ho8 hb8 hg hat) | ((with_reducible refine gate_builtin (b := .append) (xs := #[.tmp 71, .tmp 72]) rfl ?_); (try (refine gate_guard (by rfl) ?_; dsimp only)); at_builtin; refine Kd.R_append_rows Kd.string (w0 := w7) (W := w8) w7.heap.size (by rfl) (.tmp 71) (.tmp 72) 28 9 (.string ⟨#[]⟩) 16 rfl Tryd.underlying28 info9s rfl (by decide) (by decide) v8 N5 N6 _ _ c6 (fun _ => True) (fun _ => False) rfl rfl H8.out.1 (Kd.C_below HQ.out.2.1 H8.out.2) (fun _ _ hh => hh) (fun _ hh => hh.elim) (fun _ _ => trivial) H8.out.2 H8.out.2.size (by have := HQ.out.2.2.2.2; have := HN.out.2; simp at this ⊢; omega) ?_; intro v9 w9 ho9 hb9 hg hat; rw [HN.out.1] at ho9; obtain ⟨A9, c9, rfl, kc9, kr9⟩ := Kd.R_reads ho9; have H9 := Lib.hid (And.intro (And.intro kr9 kc9) hb9); clear ho9 hb9 hg hat kc9 kr9) | (go_at_call 12; (with_reducible refine (texts_same w9 A9 A7 c9 c7 N7 H9.out.1 (HKL.out w9 H9.out.2) HQ.out.2.2.2.2).mono ?_); rintro _ w10 ⟨rfl, ⟨m10, rfl⟩⟩; have H10 := Lib.hid H9.out.2) | (go_at_call 12; (with_reducible refine (texts_same w12 A11 A12 c11 c12 (V.namesOf V.ord) (And.intro (Kd.C_below H11.out.1.1 H12.out.2.1) H11.out.1.2) H12.out.1 HOS.out).mono ?_); rintro _ w13 ⟨rfl, ⟨m13, rfl⟩⟩; have H13 := Lib.hid H12.out.2.2) | (go_at_call 13; (with_reducible refine ((HDU.out (w9.drewN m10) (pw_below_drewN H9.out.2 m10)).order b (Or.inl rfl)).mono ?_); rintro _ w11 ⟨A11, c11, rfl, h11, hb11⟩; have H11 := Lib.hid (And.intro h11 (below_then (pw_below_drewN H9.out.2 m10) (pw_below_drewN H9.out.2 m10).size hb11)); clear h11 hb11) | (go_at_call 13; (with_reducible refine ((HDU.out w11 H11.out.2).order b2 (Or.inr rfl)).mono ?_); rintro _ w12 ⟨A12, c12, rfl, h12, hb12⟩; have H12 := Lib.hid (And.intro h12 (And.intro hb12 (below_then H11.out.2 H11.out.2.size hb12))); clear h12 hb12) | (go_at_call 14; (with_reducible refine ((HDU.out (w12.drewN m13) (pw_below_drewN H12.out.2.2 m13)).now b (Or.inl rfl)).mono ?_); rintro _ w14 ⟨rfl, rfl⟩) | (go_at_call 14; (with_reducible refine ((HDU.out (w12.drewN m13) (pw_below_drewN H12.out.2.2 m13)).now b2 (Or.inr rfl)).mono ?_); rintro _ w14 ⟨rfl, rfl⟩) | fail)
    go_ret
    exact ⟨rfl, below_then HBE.out HBE.out.size (pw_below_drewN H12.out.2.2 _)⟩
  · have : e1 = 1 ∨ e2 = 1 ∨ e3 = 1 := by omega
    have HBE := Lib.hid (below_then HB1.out HB1.out.size H7.out.1.bel)
    clear HE H7
    rcases t1 with rfl | rfl <;> rcases t2 with rfl | rfl <;> rcases t3 with rfl | rfl <;> first | exact absurd ⟨rfl, rfl, rfl⟩ hz | (clear hz this; go_wp2_with fail; go_ret; exact ⟨rfl, HBE.out⟩)
end
end Go.Proofs.YtdnkedifjaccoaaDoor.Ce
