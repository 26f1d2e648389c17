/- played, walked. TokenSplits, walked. TokenSplits, walked: two trees side by side. -/
import Derived.Test.YtdnkedifjaccoaaDoorPg
namespace Go.Proofs.YtdnkedifjaccoaaDoor.Ce
open Go.RowKit Go.Maps Go.Shelf Go.Lib Go.Proofs Go.Proofs.YtdnkedifjaccoaaDoor Go.Proofs.YtdnkedifjaccoaaDoorW.PrintWords Go.Proofs.YtdnkedifjaccoaaDoorW.PrintLast Go.Proofs.YtdnkedifjaccoaaDoorW.PrintMore PToken
set_option linter.unusedVariables false
set_option linter.unusedSimpArgs false
section
theorem wsuccB (j : Nat) (h : j ≤ 2000000000000) : wrap64 ((j : Int) + 1) = ((j + 1 : Nat) : Int) := by
  have : ((j + 1 : Nat) : Int) = (j : Int) + 1 := by omega
  rw [this]; unfold wrap64; omega
def amongK (m k : Int) : Int := Int.tmod (wrap64 ((Int.tmod k m) + m)) m
theorem among_is (w : World) (k m : Int) (hm : m ≠ 0) : Calls Tryd.prog 10 #[.int .i64 k, .int .i64 m] w fun e w' => e = .returned (.int .i64 (amongK m k)) ∧ Drawn0 w w' :=
  onceweblaw04_among.calls k m (amongK m k) w (by unfold onceweblaw04_among.f; rw [if_neg hm]; rfl)
theorem emptyR {α : Type} (d : Kd α) (e : TypeId) (W W' : World) (base : Nat) (hb : base ≤ W.heap.size) (hW : W'.heap = (W.alloc (.cells #[] e)).heap) : d.R e W' base (fun _ => True) (.slice (some ⟨W.heap.size, 0, none⟩) 0 0) [] := by
  have h := World.ownsRow_lit (base := base) (e := e) (size := d.sz) W #[] 0 hb (by decide) (by simp)
  refine ⟨fun _ _ => trivial, [], own_move (by simpa using h) (fun k hk => by rw [hW]), Reps.none _ _⟩
/-- What is asked of the calls' sizes. -/
def CallOk (x : CallV) : Prop := x.name.size ≤ maxLen ∧ (∀ p ∈ x.names, p.size ≤ maxLen) ∧ x.names.length ≤ 8796093021952 ∧ x.cause.length ≤ 4398046510976
theorem playC_snoc (f : CallV → Int) (x : CallV) : ∀ (l : List CallV) (t : Tree), Tree.playC f t (l ++ [x]) = (Tree.playC f t l).callC (f x) x
  | [], t => rfl
  | y :: r, t => playC_snoc f x r _
/-- The copy of a call, and what lies behind its rows. -/
structure CallAt (w : World) (B : Nat) (x : CallV) (A0 : Option Addr) (c0 : Nat) (A1 : Option Addr) (c1 : Nat) : Prop where
  l0 : x.names.length ≤ c0
  g0 : Kd.string.C w A0 x.names.length x.names
  l1 : x.cause.length ≤ c1
  g1 : k56.C w A1 x.cause.length x.cause
set_option maxHeartbeats 4000000 in
set_option maxRecDepth 100000 in
theorem played_is (w : World) (hla : LaidF w) (A : Option Addr) (c : Nat) (l : List CallV) (hr : Kd.C kC w A l.length l) (hl : l.length ≤ 2000000000000) (hok : ∀ x ∈ l, CallOk x) :
    Calls Tryd.prog 8 #[.slice A l.length c] w fun e w' => ∃ b X s, e = .returned (.pointer (some ⟨b, 0, none⟩)) ∧ Liv X w' b (Tree.playC (fun x => amongK 5 x.kind) T0 l) s w.heap.size ∧ Below w.heap.size w w' := by
  have HN := Lib.hid (New_is w hla)
  obtain ⟨n, hn⟩ : ∃ n, n = l.length := ⟨_, rfl⟩
  have HR := Lib.hid (And.intro hr (And.intro hl (And.intro hok hn)))
  rw [← hn]
  clear hla hr hl hok hn
  go_enter Tryd.func8, Tryd.ntmps8
  go_wp2_with (first | (go_at_call 23; refine HN.out.mono ?_; rintro _ w0 ⟨b, X0, s0, rfl, hn0, ht0, hb0, hl0⟩; have H0 := Lib.hid (And.intro (show Liv X0 w0 b T0 s0 w.heap.size from ⟨ht0, hl0, Tree.Good.new, NS.zero, hn0⟩) hb0); clear hn0 ht0 hb0 hl0) | fail)
  go_loopg [3, 9] n (fun gk v3 v9 wr => ∃ (j : Nat) (b : Nat) (X : Nat → Prop) (s : Sh), v3 = .pointer (some ⟨b, 0, none⟩) ∧ v9 = .int .i64 (j : Int) ∧ j ≤ n ∧ n ≤ j + gk ∧ Hid (Liv X wr b (Tree.playC (fun x => amongK 5 x.kind) T0 (l.take j)) s w.heap.size ∧ Below w.heap.size w wr))
  case atStart => exact ⟨0, b, X0, s0, rfl, rfl, Nat.zero_le _, by omega, H0⟩
  case round =>
    obtain ⟨j, b, X, s, rfl, rfl, hj, hg, HS⟩ := hrel
    by_cases hlt : j < n
    · have hltz : (j : Int) < (n : Int) := Int.ofNat_lt.2 hlt
      have hj0 : (0 : Int) ≤ (j : Int) := Int.natCast_nonneg j
      obtain ⟨ad, A0, c0, A1, c1, rfl, x0, x1, x2, x3, x4, l0, g0, l1, g1⟩ := at_C (Kd.C_below HR.out.1 HS.out.2) (j : Int) hj0 (by rw [← HR.out.2.2.2]; exact hltz)
      rw [Int.toNat_natCast] at x0 x1 x2 x3 x4
      have hjl : j < l.length := by rw [← HR.out.2.2.2]; exact hlt
      have hxm : rdC l (j : Int) ∈ l := by
        unfold rdC
        rw [Int.toNat_natCast, List.getD_eq_getElem?_getD, List.getElem?_eq_getElem hjl]; exact List.getElem_mem hjl
      have htk : l.take (j + 1) = l.take j ++ [rdC l (j : Int)] := by
        unfold rdC
        rw [List.take_add_one, Int.toNat_natCast, List.getD_eq_getElem?_getD, List.getElem?_eq_getElem hjl]; rfl
      obtain ⟨x, hx⟩ : ∃ x, rdC l (j : Int) = x := ⟨_, rfl⟩
      rw [hx] at x0 x1 x2 x3 x4 l0 g0 l1 g1 hxm htk
      have HX := Lib.hid (HR.out.2.2.1 x hxm)
      have HTK := Lib.hid htk
      have HC := Lib.hid (CallAt.mk (B := 0) l0 g0 l1 g1)
      have HW := Lib.hid (wsuccB j (by have := HR.out.2.1; omega))
      have HL := Lib.hid (And.intro (Nat.succ_le_of_lt hlt) (And.intro (show n - (j + 1) < gk by omega) (show n ≤ j + 1 + (n - (j + 1)) by omega)))
      clear l0 g0 l1 g1 hjl hxm htk hx hlt hj hg
      have HA := Lib.hid (show Below wr.heap.size wr (wr.alloc (.cells #[.int .i64 x.kind, .int .i64 x.n, .string x.name, .slice A0 x.names.length c0, .slice A1 x.cause.length c1] 42)) from (Below.refl _ wr).alloc (Nat.le_refl _) _)
      go_upto_region 8 with (first | (go_at_call 10; refine (among_is _ x.kind 5 (by decide)).mono ?_; rintro _ w1 ⟨rfl, ⟨m1, hw1⟩⟩; have H1 := Lib.hid (show Below wr.heap.size wr w1 ∧ w1.heap[wr.heap.size]? = some (.cells #[.int .i64 x.kind, .int .i64 x.n, .string x.name, .slice A0 x.names.length c0, .slice A1 x.cause.length c1] 42 (0, 0)) from by rw [hw1]; exact ⟨pw_below_drewN HA.out m1, blk_new wr _⟩); clear hw1) | fail)
      obtain ⟨kk, hkk⟩ : ∃ kk, kk = amongK 5 x.kind := ⟨_, rfl⟩
      rw [← hkk]
      have HKK := Lib.hid hkk
      have y1 : w1.cell? ⟨wr.heap.size, 1, none⟩ = some (.int .i64 x.n) := (blk_cell H1.out.2 1).trans rfl
      have y2 : w1.cell? ⟨wr.heap.size, 2, none⟩ = some (.string x.name) := (blk_cell H1.out.2 2).trans rfl
      have y3 : w1.cell? ⟨wr.heap.size, 3, none⟩ = some (.slice A0 x.names.length c0) := (blk_cell H1.out.2 3).trans rfl
      have y4 : w1.cell? ⟨wr.heap.size, 4, none⟩ = some (.slice A1 x.cause.length c1) := (blk_cell H1.out.2 4).trans rfl
      have HS1 := Lib.hid (And.intro (HS.out.1.below H1.out.1) (And.intro (HS.out.2.trans (H1.out.1.mono HS.out.2.size)) (Nat.le_trans HS.out.2.size H1.out.1.size)))
      have HP := Lib.hid (show Tree.playC (fun x => amongK 5 x.kind) T0 (l.take (j + 1)) = (Tree.playC (fun x => amongK 5 x.kind) T0 (l.take j)).callC kk x from by rw [HTK.out, playC_snoc, hkk])
      clear hkk x0 x1 x2 x3 x4
      by_cases k2 : kk = 2
      · subst k2
        clear y3 y4
        go_wp2_with (first | (go_at_call 18; refine (HS1.out.1.until HS1.out.2.2 x.name HX.out.1 x.n).mono ?_; rintro _ w2 ⟨v2, rfl, ⟨X2, s2, h2, hv2⟩, hb2⟩; have H2 := Lib.hid (And.intro h2 (HS1.out.2.1.trans hb2)); clear h2 hv2 hb2) | fail)
        go_roundg (n - (j + 1))
        case measure => exact HL.out.2.1
        case rel => exact ⟨j + 1, b, X2, s2, rfl, (by first | exact congrArg _ HW.out | rfl), HL.out.1, HL.out.2.2, Lib.hid (by rw [HP.out]; exact H2.out)⟩
      · by_cases k3 : kk = 3
        · subst k3
          clear y2 y3 y4
          go_wp2_with (first | (go_at_call 11; refine (HS1.out.1.advance HS1.out.2.2 x.n).mono ?_; rintro _ w2 ⟨v2, rfl, ⟨X2, s2, h2, hv2⟩, hb2⟩; have H2 := Lib.hid (And.intro h2 (HS1.out.2.1.trans hb2)); clear h2 hv2 hb2) | fail)
          go_roundg (n - (j + 1))
          case measure => exact HL.out.2.1
          case rel => exact ⟨j + 1, b, X2, s2, rfl, (by first | exact congrArg _ HW.out | rfl), HL.out.1, HL.out.2.2, Lib.hid (by rw [HP.out]; exact H2.out)⟩
        · by_cases k4 : kk = 4
          · subst k4
            clear y1 y2 y3 y4
            go_wp2_with (first | (go_at_call 9; refine (HS1.out.1.clone HS1.out.2.2).mono ?_; rintro _ w2 ⟨b2, X2, s2, rfl, h2, hb2⟩; have H2 := Lib.hid (And.intro (h2.lower HS1.out.2.2) (HS1.out.2.1.trans (hb2.mono HS1.out.2.2))); clear h2 hb2) | fail)
            go_roundg (n - (j + 1))
            case measure => exact HL.out.2.1
            case rel => exact ⟨j + 1, b2, X2, s2, rfl, (by first | exact congrArg _ HW.out | rfl), HL.out.1, HL.out.2.2, Lib.hid (by rw [HP.out]; exact H2.out)⟩
          · by_cases k0 : kk = 0
            · subst k0
              clear y1 y4
              have HK := Lib.hid (fun (W : World) (hb : Below w1.heap.size w1 W) => show W.cell? ⟨wr.heap.size, 2, none⟩ = some (.string x.name) ∧ W.cell? ⟨wr.heap.size, 3, none⟩ = some (.slice A0 x.names.length c0) from
                ⟨(cell_blk (hb.block _ (blk_lt H1.out.2))).trans ((blk_cell H1.out.2 2).trans rfl), (cell_blk (hb.block _ (blk_lt H1.out.2))).trans ((blk_cell H1.out.2 3).trans rfl)⟩)
              have HLX := Lib.hid (And.intro (blk_lt H1.out.2) (show ¬ X wr.heap.size from fun e => Nat.lt_irrefl _ (HS.out.1.tm.dom _ e).2))
              have HE := Lib.hid (show Below w1.heap.size w1 (w1.alloc (.cells #[] 9)) from (Below.refl _ w1).alloc (Nat.le_refl _) _)
              go_upto_region 9 with fail
              go_region_held3 (fun w' => w'.cell? ⟨wr.heap.size, 2, none⟩ = some (.string x.name) ∧ w'.cell? ⟨wr.heap.size, 3, none⟩ = some (.slice A0 x.names.length c0)) (first | exact ⟨z52, z53⟩ | exact HK.out _ HB3.out | exact HK.out _ HE.out | exact HK.out _ (pw_below_drewN HE.out 1) | exact ⟨y2, y3⟩) (first | (refine Kd.R_append_rows_step Kd.string (w0 := w1) w1.heap.size (by rfl) (.tmp 23) (.tmp 25) 28 9 (.string ⟨#[]⟩) 16 rfl Tryd.underlying28 info9s rfl (by decide) (by decide) _ [] x.names _ _ c0 (fun _ => True) (fun _ => False) rfl rfl (emptyR Kd.string 9 w1 _ w1.heap.size (Nat.le_refl _) rfl) (Kd.C_below HC.out.g0 (H1.out.1.trans ((pw_below_drewN HE.out 1).mono H1.out.1.size))) (fun _ _ hh => hh) (fun _ hh => hh.elim) (fun _ _ => trivial) (pw_below_drewN HE.out 1) (pw_below_drewN HE.out 1).size (by have := HX.out.2.2.1; simp; omega) ?_; intro v3 w3 ho hb hg hat; rw [List.nil_append] at ho; obtain ⟨A3, c3, rfl, hc3, hr3⟩ := Kd.R_reads ho; have H3 := Lib.hid (And.intro hc3 hr3); have HB3 := Lib.hid hb; clear ho hb hg hat hc3 hr3) | (go_at_call 16; refine (Make_is (HS1.out.1.below HB3.out).tm HS1.out.1.good HS1.out.1.ns (HS1.out.1.below HB3.out).laid x.name HX.out.1 A3 c3 x.names H3.out.2 HX.out.2.1).mono ?_; rintro _ w5 ⟨X5, s5, rfl, ha5⟩; have z52 : w5.cell? ⟨wr.heap.size, 2, none⟩ = some (.string x.name) := (cell_blk (ha5.chg.block _ (Nat.lt_of_lt_of_le HLX.out.1 HB3.out.size) HLX.out.2)).trans (HK.out w3 HB3.out).1; have z53 : w5.cell? ⟨wr.heap.size, 3, none⟩ = some (.slice A0 x.names.length c0) := (cell_blk (ha5.chg.block _ (Nat.lt_of_lt_of_le HLX.out.1 HB3.out.size) HLX.out.2)).trans (HK.out w3 HB3.out).2; have H5 := Lib.hid (And.intro ((HS1.out.1.below HB3.out).api ha5 (Tree.makeC_good HS1.out.1.good x.name x.names).1 (HS1.out.1.ns.makeC HS1.out.1.good.wf x.name x.names) (Nat.le_trans HS1.out.2.2 HB3.out.size)) ((HS1.out.2.1.trans (HB3.out.mono HS1.out.2.2)).trans (ha5.new_below HS1.out.1.new (Nat.le_trans HS1.out.2.2 HB3.out.size)))); clear ha5) | fail)
              all_goals
                go_wp2_with fail
                go_roundg (n - (j + 1))
                case measure => exact HL.out.2.1
                case rel => exact ⟨j + 1, b, X5, s5, rfl, (by first | exact congrArg _ HW.out | rfl), HL.out.1, HL.out.2.2, Lib.hid (by rw [HP.out]; exact H5.out)⟩
            · by_cases k1 : kk = 1
              · subst k1
                clear y1 y3
                have HK := Lib.hid (fun (W : World) (hb : Below w1.heap.size w1 W) => show W.cell? ⟨wr.heap.size, 2, none⟩ = some (.string x.name) ∧ W.cell? ⟨wr.heap.size, 4, none⟩ = some (.slice A1 x.cause.length c1) from
                  ⟨(cell_blk (hb.block _ (blk_lt H1.out.2))).trans ((blk_cell H1.out.2 2).trans rfl), (cell_blk (hb.block _ (blk_lt H1.out.2))).trans ((blk_cell H1.out.2 4).trans rfl)⟩)
                have HLX := Lib.hid (And.intro (blk_lt H1.out.2) (show ¬ X wr.heap.size from fun e => Nat.lt_irrefl _ (HS.out.1.tm.dom _ e).2))
                have HE := Lib.hid (show Below w1.heap.size w1 (w1.alloc (.cells #[] 56)) from (Below.refl _ w1).alloc (Nat.le_refl _) _)
                go_upto_region 11 with fail
                go_region_held3 (fun w' => w'.cell? ⟨wr.heap.size, 2, none⟩ = some (.string x.name) ∧ w'.cell? ⟨wr.heap.size, 4, none⟩ = some (.slice A1 x.cause.length c1)) (first | exact ⟨z52, z53⟩ | exact HK.out _ HB3.out | exact HK.out _ HE.out | exact HK.out _ (pw_below_drewN HE.out 1) | exact ⟨y2, y4⟩) (first | (refine Kd.R_append_rows_step k56 (w0 := w1) w1.heap.size (by rfl) (.tmp 33) (.tmp 35) 38 56 (.agg #[(.int .i64 0), (.int .i64 0), (.string ⟨#[]⟩)]) 32 rfl Tryd.underlying38 info56 rfl (by decide) (by decide) _ [] x.cause _ _ c1 (fun _ => True) (fun _ => False) rfl rfl (emptyR k56 56 w1 _ w1.heap.size (Nat.le_refl _) rfl) (Kd.C_below HC.out.g1 (H1.out.1.trans ((pw_below_drewN HE.out 1).mono H1.out.1.size))) (fun y cs h => by rw [k56_open h]; exact k56_mkM _ _ _ y) (fun _ hh => hh.elim) (fun _ _ => trivial) (pw_below_drewN HE.out 1) (pw_below_drewN HE.out 1).size (by have := HX.out.2.2.2; simp; omega) ?_; intro v3 w3 ho hb hg hat; rw [List.nil_append] at ho; obtain ⟨A3, c3, rfl, hc3, hr3⟩ := Kd.R_reads ho; have H3 := Lib.hid (And.intro hc3 hr3); have HB3 := Lib.hid hb; clear ho hb hg hat hc3 hr3) | (go_at_call 17; refine (Cancel_is (HS1.out.1.below HB3.out).tm HS1.out.1.good HS1.out.1.ns (HS1.out.1.below HB3.out).laid x.name HX.out.1 A3 c3 x.cause H3.out.2).mono ?_; rintro _ w5 ⟨v5, X5, s5, rfl, ha5, -⟩; have z52 : w5.cell? ⟨wr.heap.size, 2, none⟩ = some (.string x.name) := (cell_blk (ha5.chg.block _ (Nat.lt_of_lt_of_le HLX.out.1 HB3.out.size) HLX.out.2)).trans (HK.out w3 HB3.out).1; have z53 : w5.cell? ⟨wr.heap.size, 4, none⟩ = some (.slice A1 x.cause.length c1) := (cell_blk (ha5.chg.block _ (Nat.lt_of_lt_of_le HLX.out.1 HB3.out.size) HLX.out.2)).trans (HK.out w3 HB3.out).2; have H5 := Lib.hid (And.intro ((HS1.out.1.below HB3.out).api ha5 (Tree.cancelC_good HS1.out.1.good x.name x.cause).1 (HS1.out.1.ns.cancelC HS1.out.1.good.wf x.name x.cause) (Nat.le_trans HS1.out.2.2 HB3.out.size)) ((HS1.out.2.1.trans (HB3.out.mono HS1.out.2.2)).trans (ha5.new_below HS1.out.1.new (Nat.le_trans HS1.out.2.2 HB3.out.size)))); clear ha5) | fail)
                all_goals
                  go_wp2_with fail
                  go_roundg (n - (j + 1))
                  case measure => exact HL.out.2.1
                  case rel => exact ⟨j + 1, b, X5, s5, rfl, (by first | exact congrArg _ HW.out | rfl), HL.out.1, HL.out.2.2, Lib.hid (by rw [HP.out]; exact H5.out)⟩
              · have hcc : ∀ t : Tree, t.callC kk x = t := fun t => by
                  unfold Tree.callC
                  rw [if_neg k0, if_neg k1, if_neg k2, if_neg k3]
                have HCC := Lib.hid hcc
                clear hcc y1 y2 y3 y4
                go_wp2_with fail
                go_roundg (n - (j + 1))
                case measure => exact HL.out.2.1
                case rel => exact ⟨j + 1, b, X, s, rfl, (by first | exact congrArg _ HW.out | rfl), HL.out.1, HL.out.2.2, Lib.hid (by rw [HP.out, HCC.out]; exact ⟨HS1.out.1, HS1.out.2.1⟩)⟩
    · have hltz : ¬ (j : Int) < (n : Int) := fun e => hlt (Int.ofNat_lt.1 e)
      have hjn : l.take j = l := List.take_of_length_le (by rw [← HR.out.2.2.2]; omega)
      have HS2 := Lib.hid (show Liv X wr b (Tree.playC (fun x => amongK 5 x.kind) T0 l) s w.heap.size ∧ Below w.heap.size w wr from by have := HS.out; rwa [hjn] at this)
      clear hjn hlt hj hg HS
      go_wp2_with fail
      go_ret
      exact ⟨b, rfl, ⟨X, s, HS2.out.1⟩, HS2.out.2⟩
end
end Go.Proofs.YtdnkedifjaccoaaDoor.Ce
namespace Go.Proofs.YtdnkedifjaccoaaDoor.Ce
open Go.RowKit Go.Maps Go.Shelf Go.Lib Go.Proofs Go.Proofs.YtdnkedifjaccoaaDoor Go.Proofs.YtdnkedifjaccoaaDoorW.PrintWords Go.Proofs.YtdnkedifjaccoaaDoorW.PrintLast Go.Proofs.YtdnkedifjaccoaaDoorW.PrintMore PToken
set_option linter.unusedVariables false
set_option linter.unusedSimpArgs false
section
theorem among_lo (m k : Int) (h0 : 0 < m) (h1 : m ≤ 1048576) : 0 ≤ amongK m k ∧ amongK m k < m := by
  have h2 : -m < Int.tmod k m ∧ Int.tmod k m < m := by
    constructor
    · have := Int.lt_tmod_of_pos k h0; omega
    · exact Int.tmod_lt_of_pos k h0
  have h3 : wrap64 (Int.tmod k m + m) = Int.tmod k m + m := by unfold wrap64; omega
  unfold amongK
  rw [h3]
  exact ⟨Int.tmod_nonneg _ (by omega), Int.tmod_lt_of_pos _ h0⟩
end
end Go.Proofs.YtdnkedifjaccoaaDoor.Ce
namespace Go.Proofs.YtdnkedifjaccoaaDoor.Ce
open Go.RowKit Go.Maps Go.Shelf Go.Lib Go.Proofs Go.Proofs.YtdnkedifjaccoaaDoor Go.Proofs.YtdnkedifjaccoaaDoorW.PrintWords Go.Proofs.YtdnkedifjaccoaaDoorW.PrintLast Go.Proofs.YtdnkedifjaccoaaDoorW.PrintMore PToken
set_option linter.unusedVariables false
set_option linter.unusedSimpArgs false
section
variable {X X' Y : Nat → Prop} {w w' : World} {b b2 B B2 : Nat} {T T' U : Tree} {s s' u : Sh}
/-- The other tree stays. -/
theorem Liv.other (h : Liv Y w b2 U u B2) (a : Api X w b T' X' w' s') (hd : ∀ k, Y k → ¬ X k) : Liv Y w' b2 U u B2 := ⟨h.tm.chg a.chg hd, a.laid, h.good, h.ns, h.new⟩
/-- And its blocks are told from those of the turned one. -/
theorem apart_api (h : Liv Y w b2 U u B2) (a : Api X w b T' X' w' s') (hd : ∀ k, Y k → ¬ X k) : ∀ k, Y k → ¬ X' k := fun k hk e => (a.sub k e).elim (hd k hk) (fun e2 => Nat.not_lt.2 e2 (h.tm.dom k hk).2)
/-- A row of names stays. -/
theorem StrO.other {base : Nat} {v : Value} {N : List ByteArray} (h : StrO X' w base v N) {S : Nat → Prop} (c : Chg S w w') (hs : ∀ k, base ≤ k → ¬ X' k → k < w.heap.size → ¬ S k) : Kd.R Kd.string 9 w' base (fun k => ¬ X' k ∧ k < w.heap.size) v N :=
  Kd.R_mono (Kd.R_move (Kd.R_bound h) (fun k hk => c.block k hk.2.2.1 (hs k hk.2.1 hk.1.1 hk.2.2.1))) (fun k hk => hk.1)
theorem split_names (a c : Int) (h : T.advE a = 0) (h2 : (T.advC a).advE c = 0) (h0 : 0 ≤ a) (h1 : 0 ≤ c) : (T.advC a).advC c = T.advC (a + c) := by
  have k1 : ¬ (a < 0 ∨ a > 1099511627776 - T.now) := fun k => by unfold Tree.advE at h; rw [if_pos k] at h; exact absurd h (by decide)
  have e1 : T.advC a = T.tick a := by unfold Tree.advC; rw [if_neg k1]
  rw [e1] at h2 ⊢
  have en : (T.tick a).now = T.now + a := rfl
  have k2 : ¬ (c < 0 ∨ c > 1099511627776 - (T.tick a).now) := fun k => by unfold Tree.advE at h2; rw [if_pos k] at h2; exact absurd h2 (by decide)
  rw [en] at k2
  have e2 : (T.tick a).advC c = (T.tick a).tick c := by unfold Tree.advC; rw [if_neg (by rw [en]; exact k2)]
  rw [e2, Tree.tick_two T a c h1]
  unfold Tree.advC
  rw [if_neg (by omega)]
end
end Go.Proofs.YtdnkedifjaccoaaDoor.Ce
