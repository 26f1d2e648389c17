/- TokenStays, walked. -/
import Derived.Test.YtdnkedifjaccoaaDoorSt
namespace Go.Proofs.YtdnkedifjaccoaaDoor.Ce
open Go.RowKit Go.Maps Go.Shelf Go.Lib Go.Proofs Go.Proofs.YtdnkedifjaccoaaDoor Go.Proofs.YtdnkedifjaccoaaDoorW.PrintWords Go.Proofs.YtdnkedifjaccoaaDoorW.PrintLast Go.Proofs.YtdnkedifjaccoaaDoorW.PrintMore PToken
set_option linter.unusedVariables false
set_option linter.unusedSimpArgs false
section
theorem texts_row (W : World) (A B : Option Addr) (c d : Nat) (a : List ByteArray) (h : Kd.C Kd.string W A a.length a ∧ a.length ≤ c) (k : Kd.C Kd.string W B a.length a ∧ a.length ≤ d) (hz : a.length ≤ 256) :
    Calls Tryd.prog 12 #[.slice A a.length c, .slice B a.length d] W fun e w' => e = .returned (.bool true) ∧ Drawn0 W w' := by
  have := texts_is W A B c d a a h.1 h.2 k.1 k.2 (by omega)
  rwa [decide_eq_true (rfl : a = a)] at this
theorem fails_row (W : World) (A B : Option Addr) (c d : Nat) (a : List S56) (h : Kd.C k56 W A a.length a ∧ a.length ≤ c) (k : Kd.C k56 W B a.length a ∧ a.length ≤ d) (hz : a.length ≤ 1024) :
    Calls Tryd.prog 20 #[.slice A a.length c, .slice B a.length d] W fun e w' => e = .returned (.bool true) ∧ Drawn0 W w' := by
  have := fails_is W A B c d a a h.1 h.2 k.1 k.2 (by omega)
  rwa [decide_eq_true (rfl : a = a)] at this
theorem ord_few {T : Tree} (G : Tree.Good T) : (T.namesOf T.ord).length ≤ 256 := by
  have h1 := ord_len G.wf
  have h2 := G.small
  unfold Tree.namesOf
  rw [List.length_map]; omega
/-- A row in a row of rows. -/
theorem at_rows {W : World} {A : Option Addr} {n : Nat} {L : List (List S56)} (h : Kd.C (Kd.slice 56 k56) W A n L) (j : Nat) (hj : j < L.length) (hn : n = L.length) : ∃ ad B c, A = some ad ∧ W.cell? (ad.add j) = some (.slice B (L.getD j []).length c) ∧ Kd.C k56 W B (L.getD j []).length (L.getD j []) ∧ (L.getD j []).length ≤ c := by
  obtain ⟨ad, cs, e, _, ⟨B, c, rfl, h1, h2⟩, hc0⟩ := Kd.C_get h [] (j : Int) (Int.natCast_nonneg j) (by omega)
  have := hc0 0 _ rfl
  rw [Int.toNat_natCast] at this h1 h2
  refine ⟨ad, B, c, e, ?_, h2, h1⟩
  rw [show (Kd.slice 56 k56).sz = 1 from rfl, Nat.mul_one, Nat.add_zero] at this
  exact this
end
section
set_option maxHeartbeats 8000000 in
set_option maxRecDepth 100000 in
theorem stays_is (w : World) (hla : LaidF w) (A : Option Addr) (c : Nat) (l : List CallV) (hr : Kd.C kC w A l.length l) (hl : l.length ≤ 2000000000000) (hok : ∀ x ∈ l, CallOk x)
    (A2 : Option Addr) (c2 : Nat) (l2 : List CallV) (hr2 : Kd.C kC w A2 l2.length l2) (hl2 : l2.length ≤ 2000000000000) (hok2 : ∀ x ∈ l2, CallOk x) :
    Calls Tryd.prog 4 #[.slice A l.length c, .slice A2 l2.length c2] w fun e w' => e = .returned (.bool true) ∧ Below w.heap.size w w' := by
  have HW0 := Lib.hid (works_is w hla)
  have HPL := Lib.hid (fun (w1 : World) (hb : Below w.heap.size w w1) => played_is w1 (hla.below hb) A c l (Kd.C_below hr hb) hl hok)
  obtain ⟨T, hT⟩ : ∃ T, T = Tree.playC (fun x => amongK 5 x.kind) T0 l := ⟨_, rfl⟩
  rw [← hT] at HPL
  obtain ⟨n, hn⟩ : ∃ n, n = l.length := ⟨_, rfl⟩
  rw [← hn] at HPL ⊢
  obtain ⟨n2, hn2⟩ : ∃ n, n = l2.length := ⟨_, rfl⟩
  have HR2 := Lib.hid (And.intro hr2 (And.intro hl2 (And.intro hok2 hn2)))
  rw [← hn2]
  clear hla hr hl hok hT hn hr2 hl2 hok2 hn2
  go_enter Tryd.func4, Tryd.ntmps4
  go_upto_region 6 with (first | (go_at_call 7; refine HW0.out.mono ?_; rintro _ w1 ⟨rfl, hb1⟩; have HB1 := Lib.hid hb1; clear hb1) | (go_at_call 8; refine (HPL.out w1 HB1.out).mono ?_; rintro _ w2 ⟨b, X, s, rfl, h2, hb2⟩; have H2 := Lib.hid (And.intro h2 hb2); clear h2 hb2) | fail)
  have HND := Lib.hid (And.intro (ord_few H2.out.1.good) (And.intro (fun m (hm : m ∈ T.namesOf T.ord) => ord_short H2.out.1.ns H2.out.1.good.wf hm) H2.out.1.good))
  go_upto_region 7 with (first | (go_at_call 13; refine (order_is H2.out.1.tm H2.out.1.good.wf H2.out.1.good.small).mono ?_; rintro _ w3 ⟨v3, rfl, hr3, hb3⟩; have H3 := Lib.hid (And.intro (H2.out.1.below hb3) (And.intro (H2.out.2.trans (hb3.mono H2.out.2.size)) (RowX.of (X := X) hr3 (fun k hk => (H2.out.1.tm.dom k hk).2)))); clear hr3 hb3) | fail)
  obtain ⟨N, hN⟩ : ∃ N, N = T.namesOf T.ord := ⟨_, rfl⟩
  rw [← hN] at H3 HND
  clear H2 HPL HW0
  obtain ⟨A3, c3, rfl, k3, q3⟩ := Kd.R_reads H3.out.2.2
  obtain ⟨n3, hn3⟩ : ∃ n, n = N.length := ⟨_, rfl⟩
  have HN3 := Lib.hid (And.intro q3 (And.intro k3 (And.intro hn3 (hn3 ▸ HND.out.1))))
  have HR0 := Lib.hid (show RowX Kd.string 9 X w3 (.slice A3 n3 c3) N from hn3 ▸ H3.out.2.2)
  rw [← hn3]
  have HFE := Lib.hid (fun (m : ByteArray) (hm : m ∈ N) => (stays_at HND.out.2.2 HND.out.2.2 (Tree.Ext.refl T) (hN ▸ hm)).2.2.2.2)
  have HNN := Lib.hid hN
  clear k3 q3 hn3 hN
  go_upto_region 8 with fail
  go_upto_region 9 with fail
  go_loopg [7, 31] n3 (fun gk v7 v31 wr => ∃ i : Nat, v31 = .int .i64 (i : Int) ∧ i ≤ n3 ∧ n3 ≤ i + gk ∧ Hid (Kd.R (Kd.slice 56 k56) 38 wr w3.heap.size (fun _ => True) v7 ((N.take i).map T.failL) ∧ Below w3.heap.size w3 wr))
  case atStart => exact ⟨0, rfl, Nat.zero_le _, by omega, Lib.hid ⟨Kd.R_nil _ _ _ _ _, Below.refl _ _⟩⟩
  case round =>
    obtain ⟨i, rfl, hi, hg, HS⟩ := hrel
    obtain ⟨Li, hLi⟩ : ∃ Li, Li = (N.take i).map T.failL := ⟨_, rfl⟩
    have hlen7 : Li.length = i := by rw [hLi, List.length_map, List.length_take]; have := HN3.out.2.2.1; omega
    have HL7 := Lib.hid hlen7
    rw [← hLi] at HS
    obtain ⟨A7, c7, rfl, -, -⟩ := Kd.R_reads HS.out.1
    by_cases hlt : i < n3
    · have hltz : (i : Int) < (n3 : Int) := Int.ofNat_lt.2 hlt
      have hi0 : (0 : Int) ≤ (i : Int) := Int.natCast_nonneg i
      obtain ⟨ad, rfl, hce⟩ := Kd.at_string (Kd.C_below HN3.out.1 HS.out.2) (i : Int) hi0 (by rw [← HN3.out.2.2.1]; exact hltz)
      rw [Int.toNat_natCast, rdOf_getD] at hce
      have hil : i < N.length := HN3.out.2.2.1 ▸ hlt
      have hxm : N.getD i ByteArray.empty ∈ N := by rw [List.getD_eq_getElem?_getD, List.getElem?_eq_getElem hil]; exact List.getElem_mem hil
      have htk : N.take (i + 1) = N.take i ++ [N.getD i ByteArray.empty] := by rw [List.take_add_one, List.getD_eq_getElem?_getD, List.getElem?_eq_getElem hil]; rfl
      obtain ⟨x, hx⟩ : ∃ x, N.getD i ByteArray.empty = x := ⟨_, rfl⟩
      rw [hx] at hce hxm htk
      have HTK := Lib.hid (show (N.take (i + 1)).map T.failL = Li ++ [T.failL x] by rw [htk, List.map_append, hLi]; rfl)
      have HXE := Lib.hid (And.intro (HFE.out x hxm) (HND.out.2.1 x hxm))
      have HF1 := Lib.hid (fail_is (H3.out.1.below HS.out.2).tm H3.out.1.ns x HXE.out.2)
      rw [HXE.out.1] at HF1
      have HLB := Lib.hid (show (Li.length + 1) * 24 ≤ 140737488355328 by rw [hlen7]; have := HN3.out.2.2.2; omega)
      have HW := Lib.hid (wsucc i (by have := HN3.out.2.2.2; omega))
      have HL := Lib.hid (And.intro (Nat.succ_le_of_lt hlt) (And.intro (show n3 - (i + 1) < gk by omega) (show n3 ≤ i + 1 + (n3 - (i + 1)) by omega)))
      clear hx hxm htk hil hlt hi hg hlen7 hLi
      go_upto_region 12 with (first | (go_at_call 15; refine HF1.out.mono ?_; rintro _ w4 ⟨v4, rfl, hr4, hb4⟩; have H4 := Lib.hid (And.intro hr4 (And.intro hb4 (HS.out.2.trans (hb4.mono HS.out.2.size)))); clear hr4 hb4) | fail)
      obtain ⟨A4, c4, rfl, -, -⟩ := Kd.R_reads H4.out.1
      have HIN := Lib.hid (show Kd.R k56 56 w4 w3.heap.size (fun k => some k ≠ (Value.slice A7 Li.length c7).ownBlock) (.slice A4 (T.failL x).length c4) (T.failL x) from
        Kd.R_lower (Kd.R_mono (Kd.R_bound H4.out.1) (fun k hk e => by have h1 := ((Kd.R_bound HS.out.1).1 k e.symm).2.2.1; have h2 := hk.2.1; omega)) HS.out.2.size)
      have HO4 := Lib.hid (Kd.R_below HS.out.1 H4.out.2.1)
      go_wp2_with (first | ((with_reducible refine gate_builtin (b := .append) (xs := #[.tmp 43, .tmp 45]) rfl ?_); (try (refine gate_guard (by rfl) ?_; dsimp only)); at_builtin; refine Kd.R_append (Kd.slice 56 k56) (w0 := w3) w3.heap.size rfl (.tmp 43) (.tmp 45) 36 38 (.slice none 0 0) 24 rfl Tryd.underlying36 (by kernel_rfl) rfl (by decide) (by decide) (.slice A7 Li.length c7) Li (T.failL x) [.slice A4 (T.failL x).length c4] (fun _ => True) (fun k => some k ≠ (Value.slice A7 Li.length c7).ownBlock) rfl rfl ⟨_, rfl, HIN.out⟩ (fun _ hk => ⟨trivial, hk⟩) (fun _ _ => trivial) HO4.out H4.out.2.2 H4.out.2.2.size HLB.out ?_; intro v5 w5 ho hb hg hat; have H5 := Lib.hid (And.intro ho hb); clear ho hb hg hat) | fail)
      go_roundg (n3 - (i + 1))
      case measure => exact HL.out.2.1
      case rel => exact ⟨i + 1, (by first | exact congrArg _ HW.out | rfl), HL.out.1, HL.out.2.2, Lib.hid (by rw [HTK.out]; exact H5.out)⟩
    · have hltz : ¬ (i : Int) < (n3 : Int) := fun e => hlt (Int.ofNat_lt.1 e)
      have HTE := Lib.hid (show N.take i = N from List.take_of_length_le (by have := HN3.out.2.2.1; omega))
      rw [HTE.out] at hLi
      have HLL := Lib.hid hLi
      have HV := Lib.hid (show Live w1 wr b X T (.slice A3 n3 c3) N (.slice A7 Li.length c7) Li from ⟨⟨s, H3.out.1.below HS.out.2⟩, H3.out.2.1.trans (HS.out.2.mono H3.out.2.1.size), HR0.out.below HS.out.2, RowX.of HS.out.1 (fun k hk => (H3.out.1.tm.dom k hk).2)⟩)
      have hi3 : i = n3 := by omega
      subst hi3
      clear hlt hi hg hLi hlen7 H3 HS HR0 HFE
      go_upto_region 17 with fail
      obtain ⟨wb, hwb⟩ : ∃ wb, wb = wr := ⟨_, rfl⟩
      subst hwb
      go_loopg [50] n2 (fun gk v50 wr => ∃ (j : Nat) (X' : Nat → Prop), v50 = .int .i64 (j : Int) ∧ j ≤ n2 ∧ n2 ≤ j + gk ∧ Hid (Live w1 wr b X' (Tree.playC (fun x => amongK 4 x.kind) T (l2.take j)) (.slice A3 i c3) N (.slice A7 Li.length c7) Li))
      case atStart => exact ⟨0, X, rfl, Nat.zero_le _, by omega, HV⟩
      case round =>
        obtain ⟨j, Xj, rfl, hj, hg, HS⟩ := hrel
        by_cases hlt : j < n2
        · have hltz : (j : Int) < (n2 : Int) := Int.ofNat_lt.2 hlt
          have hj0 : (0 : Int) ≤ (j : Int) := Int.natCast_nonneg j
          obtain ⟨ad, A0, c0, A1, c1, rfl, x0, x1, x2, x3, x4, l0, g0, l1, g1⟩ := at_C (Kd.C_below HR2.out.1 (below_then HB1.out HB1.out.size HS.out.bel)) (j : Int) hj0 (by rw [← HR2.out.2.2.2]; exact hltz)
          rw [Int.toNat_natCast] at x0 x1 x2 x3 x4
          have hjl : j < l2.length := by rw [← HR2.out.2.2.2]; exact hlt
          have hxm : rdC l2 (j : Int) ∈ l2 := by
            unfold rdC
            rw [Int.toNat_natCast, List.getD_eq_getElem?_getD, List.getElem?_eq_getElem hjl]; exact List.getElem_mem hjl
          have htk : l2.take (j + 1) = l2.take j ++ [rdC l2 (j : Int)] := by
            unfold rdC
            rw [List.take_add_one, Int.toNat_natCast, List.getD_eq_getElem?_getD, List.getElem?_eq_getElem hjl]; rfl
          obtain ⟨x, hx⟩ : ∃ x, rdC l2 (j : Int) = x := ⟨_, rfl⟩
          rw [hx] at x0 x1 x2 x3 x4 l0 g0 l1 g1 hxm htk
          have HX := Lib.hid (HR2.out.2.2.1 x hxm)
          have HTK := Lib.hid htk
          have HC := Lib.hid (CallAt.mk (B := 0) l0 g0 l1 g1)
          have HW := Lib.hid (wsuccB j (by have := HR2.out.2.1; omega))
          have HL := Lib.hid (And.intro (Nat.succ_le_of_lt hlt) (And.intro (show n2 - (j + 1) < gk by omega) (show n2 ≤ j + 1 + (n2 - (j + 1)) by omega)))
          clear l0 g0 l1 g1 hjl hxm htk hx hlt hj hg
          have HA := Lib.hid (show Below wr.heap.size wr (wr.alloc (.cells #[.int .i64 x.kind, .int .i64 x.n, .string x.name, .slice A0 x.names.length c0, .slice A1 x.cause.length c1] 42)) from (Below.refl _ wr).alloc (Nat.le_refl _) _)
          go_upto_region 20 with (first | (go_at_call 10; refine (among_is _ x.kind 4 (by decide)).mono ?_; rintro _ wa ⟨rfl, ⟨m1, hw1⟩⟩; have H1 := Lib.hid (show Below wr.heap.size wr wa ∧ wa.heap[wr.heap.size]? = some (.cells #[.int .i64 x.kind, .int .i64 x.n, .string x.name, .slice A0 x.names.length c0, .slice A1 x.cause.length c1] 42 (0, 0)) from by rw [hw1]; exact ⟨pw_below_drewN HA.out m1, blk_new wr _⟩); clear hw1) | fail)
          obtain ⟨kk, hkk⟩ : ∃ kk, kk = amongK 4 x.kind := ⟨_, rfl⟩
          rw [← hkk]
          have y1 : wa.cell? ⟨wr.heap.size, 1, none⟩ = some (.int .i64 x.n) := (blk_cell H1.out.2 1).trans rfl
          have y2 : wa.cell? ⟨wr.heap.size, 2, none⟩ = some (.string x.name) := (blk_cell H1.out.2 2).trans rfl
          have y3 : wa.cell? ⟨wr.heap.size, 3, none⟩ = some (.slice A0 x.names.length c0) := (blk_cell H1.out.2 3).trans rfl
          have y4 : wa.cell? ⟨wr.heap.size, 4, none⟩ = some (.slice A1 x.cause.length c1) := (blk_cell H1.out.2 4).trans rfl
          have HS1 := Lib.hid (HS.out.below H1.out.1)
          have HP := Lib.hid (show Tree.playC (fun x => amongK 4 x.kind) T (l2.take (j + 1)) = (Tree.playC (fun x => amongK 4 x.kind) T (l2.take j)).callC kk x from by rw [HTK.out, playC_snoc, hkk])
          have HLX := Lib.hid (And.intro (blk_lt H1.out.2) (show ¬ Xj wr.heap.size from HS.out.l.elim fun s h => fun e => Nat.lt_irrefl _ (h.tm.dom _ e).2))
          clear hkk x0 x1 x2 x3 x4
          by_cases k2 : kk = 2
          · subst k2
            clear y3 y4
            go_wp2_with (first | (go_at_call 18; refine (HS1.out.until x.name HX.out.1 x.n).mono ?_; rintro _ we ⟨⟨v2, rfl⟩, X2, h2⟩; have H2 := Lib.hid h2; clear h2) | fail)
            go_roundg (n2 - (j + 1))
            case measure => exact HL.out.2.1
            case rel => exact ⟨j + 1, X2, (by first | exact congrArg _ HW.out | rfl), HL.out.1, HL.out.2.2, Lib.hid (by rw [HP.out]; exact H2.out)⟩
          · by_cases k3 : kk = 3
            · subst k3
              clear y2 y3 y4
              go_wp2_with (first | (go_at_call 11; refine (HS1.out.advance x.n).mono ?_; rintro _ we ⟨⟨v2, rfl⟩, X2, h2⟩; have H2 := Lib.hid h2; clear h2) | fail)
              go_roundg (n2 - (j + 1))
              case measure => exact HL.out.2.1
              case rel => exact ⟨j + 1, X2, (by first | exact congrArg _ HW.out | rfl), HL.out.1, HL.out.2.2, Lib.hid (by rw [HP.out]; exact H2.out)⟩
            · by_cases k0 : kk = 0
              · subst k0
                clear y1 y4
                have HK := Lib.hid (fun (W : World) (hb : Below wa.heap.size wa W) => show W.cell? ⟨wr.heap.size, 2, none⟩ = some (.string x.name) ∧ W.cell? ⟨wr.heap.size, 3, none⟩ = some (.slice A0 x.names.length c0) from
                  ⟨(cell_blk (hb.block _ (blk_lt H1.out.2))).trans ((blk_cell H1.out.2 2).trans rfl), (cell_blk (hb.block _ (blk_lt H1.out.2))).trans ((blk_cell H1.out.2 3).trans rfl)⟩)
                have HE := Lib.hid (show Below wa.heap.size wa (wa.alloc (.cells #[] 9)) from (Below.refl _ wa).alloc (Nat.le_refl _) _)
                go_upto_region 21 with fail
                go_region_held3 (fun w' => w'.cell? ⟨wr.heap.size, 2, none⟩ = some (.string x.name) ∧ w'.cell? ⟨wr.heap.size, 3, none⟩ = some (.slice A0 x.names.length c0)) (first | exact ⟨z52, z53⟩ | exact HK.out _ HB3.out | exact HK.out _ HE.out | exact HK.out _ (pw_below_drewN HE.out 1) | exact ⟨y2, y3⟩) (first | (refine Kd.R_append_rows_step Kd.string (w0 := wa) wa.heap.size (by rfl) (.tmp 62) (.tmp 64) 28 9 (.string ⟨#[]⟩) 16 rfl Tryd.underlying28 info9s rfl (by decide) (by decide) _ [] x.names _ _ c0 (fun _ => True) (fun _ => False) rfl rfl (emptyR Kd.string 9 wa _ wa.heap.size (Nat.le_refl _) rfl) (Kd.C_below HC.out.g0 (H1.out.1.trans ((pw_below_drewN HE.out 1).mono H1.out.1.size))) (fun _ _ hh => hh) (fun _ hh => hh.elim) (fun _ _ => trivial) (pw_below_drewN HE.out 1) (pw_below_drewN HE.out 1).size (by have := HX.out.2.2.1; simp; omega) ?_; intro ve we ho hb hg hat; rw [List.nil_append] at ho; obtain ⟨Ae, ce, rfl, hce, hre⟩ := Kd.R_reads ho; have H3 := Lib.hid (And.intro hce hre); have HB3 := Lib.hid hb; clear ho hb hg hat hce hre) | (go_at_call 16; refine ((HS1.out.below HB3.out).make x.name HX.out.1 Ae ce x.names H3.out.2 HX.out.2.1).mono ?_; rintro _ wf ⟨rfl, X5, h5, hq5⟩; have z52 : wf.cell? ⟨wr.heap.size, 2, none⟩ = some (.string x.name) := (cell_blk (hq5 _ (Nat.lt_of_lt_of_le HLX.out.1 HB3.out.size) HLX.out.2)).trans (HK.out we HB3.out).1; have z53 : wf.cell? ⟨wr.heap.size, 3, none⟩ = some (.slice A0 x.names.length c0) := (cell_blk (hq5 _ (Nat.lt_of_lt_of_le HLX.out.1 HB3.out.size) HLX.out.2)).trans (HK.out we HB3.out).2; have H5 := Lib.hid h5; clear h5 hq5) | fail)
                all_goals
                  go_wp2_with fail
                  go_roundg (n2 - (j + 1))
                  case measure => exact HL.out.2.1
                  case rel => exact ⟨j + 1, X5, (by first | exact congrArg _ HW.out | rfl), HL.out.1, HL.out.2.2, Lib.hid (by rw [HP.out]; exact H5.out)⟩
              · by_cases k1 : kk = 1
                · subst k1
                  clear y1 y3
                  have HK := Lib.hid (fun (W : World) (hb : Below wa.heap.size wa W) => show W.cell? ⟨wr.heap.size, 2, none⟩ = some (.string x.name) ∧ W.cell? ⟨wr.heap.size, 4, none⟩ = some (.slice A1 x.cause.length c1) from
                    ⟨(cell_blk (hb.block _ (blk_lt H1.out.2))).trans ((blk_cell H1.out.2 2).trans rfl), (cell_blk (hb.block _ (blk_lt H1.out.2))).trans ((blk_cell H1.out.2 4).trans rfl)⟩)
                  have HE := Lib.hid (show Below wa.heap.size wa (wa.alloc (.cells #[] 56)) from (Below.refl _ wa).alloc (Nat.le_refl _) _)
                  go_upto_region 23 with fail
                  go_region_held3 (fun w' => w'.cell? ⟨wr.heap.size, 2, none⟩ = some (.string x.name) ∧ w'.cell? ⟨wr.heap.size, 4, none⟩ = some (.slice A1 x.cause.length c1)) (first | exact ⟨z52, z53⟩ | exact HK.out _ HB3.out | exact HK.out _ HE.out | exact HK.out _ (pw_below_drewN HE.out 1) | exact ⟨y2, y4⟩) (first | (refine Kd.R_append_rows_step k56 (w0 := wa) wa.heap.size (by rfl) (.tmp 72) (.tmp 74) 38 56 (.agg #[(.int .i64 0), (.int .i64 0), (.string ⟨#[]⟩)]) 32 rfl Tryd.underlying38 info56 rfl (by decide) (by decide) _ [] x.cause _ _ c1 (fun _ => True) (fun _ => False) rfl rfl (emptyR k56 56 wa _ wa.heap.size (Nat.le_refl _) rfl) (Kd.C_below HC.out.g1 (H1.out.1.trans ((pw_below_drewN HE.out 1).mono H1.out.1.size))) (fun y cs h => by rw [k56_open h]; exact k56_mkM _ _ _ y) (fun _ hh => hh.elim) (fun _ _ => trivial) (pw_below_drewN HE.out 1) (pw_below_drewN HE.out 1).size (by have := HX.out.2.2.2; simp; omega) ?_; intro ve we ho hb hg hat; rw [List.nil_append] at ho; obtain ⟨Ae, ce, rfl, hce, hre⟩ := Kd.R_reads ho; have H3 := Lib.hid (And.intro hce hre); have HB3 := Lib.hid hb; clear ho hb hg hat hce hre) | (go_at_call 17; refine ((HS1.out.below HB3.out).cancel x.name HX.out.1 Ae ce x.cause H3.out.2).mono ?_; rintro _ wf ⟨⟨v5, rfl⟩, X5, h5, hq5⟩; have z52 : wf.cell? ⟨wr.heap.size, 2, none⟩ = some (.string x.name) := (cell_blk (hq5 _ (Nat.lt_of_lt_of_le HLX.out.1 HB3.out.size) HLX.out.2)).trans (HK.out we HB3.out).1; have z53 : wf.cell? ⟨wr.heap.size, 4, none⟩ = some (.slice A1 x.cause.length c1) := (cell_blk (hq5 _ (Nat.lt_of_lt_of_le HLX.out.1 HB3.out.size) HLX.out.2)).trans (HK.out we HB3.out).2; have H5 := Lib.hid h5; clear h5 hq5) | fail)
                  all_goals
                    go_wp2_with fail
                    go_roundg (n2 - (j + 1))
                    case measure => exact HL.out.2.1
                    case rel => exact ⟨j + 1, X5, (by first | exact congrArg _ HW.out | rfl), HL.out.1, HL.out.2.2, Lib.hid (by rw [HP.out]; exact H5.out)⟩
                · have hcc : ∀ t : Tree, t.callC kk x = t := fun t => by
                    unfold Tree.callC
                    rw [if_neg k0, if_neg k1, if_neg k2, if_neg k3]
                  have HCC := Lib.hid hcc
                  clear hcc y1 y2 y3 y4
                  go_wp2_with fail
                  go_roundg (n2 - (j + 1))
                  case measure => exact HL.out.2.1
                  case rel => exact ⟨j + 1, Xj, (by first | exact congrArg _ HW.out | rfl), HL.out.1, HL.out.2.2, Lib.hid (by rw [HP.out, HCC.out]; exact HS1.out)⟩
        · have hltz : ¬ (j : Int) < (n2 : Int) := fun e => hlt (Int.ofNat_lt.1 e)
          have hjn : l2.take j = l2 := List.take_of_length_le (by rw [← HR2.out.2.2.2]; omega)
          obtain ⟨U, hU⟩ : ∃ U, U = Tree.playC (fun x => amongK 4 x.kind) T l2 := ⟨_, rfl⟩
          have hUG := Tree.playC_good (fun x : CallV => amongK 4 x.kind) l2 HND.out.2.2
          rw [← hU] at hUG
          have HU := Lib.hid hUG
          rw [hjn, ← hU] at HS
          clear hjn hlt hj hg hU hUG
          have HPR := Lib.hid (ord_prefix HND.out.2.2 HU.out.2)
          rw [← HNN.out] at HPR
          go_upto_region 30 with (first | (go_at_call 13; refine HS.out.order.mono ?_; rintro _ wc ⟨A6, c6, rfl, h6, hl6, hb6⟩; have H6 := Lib.hid (And.intro h6 (And.intro hl6 hb6)); clear h6 hl6 hb6) | fail)
          obtain ⟨M, hM⟩ : ∃ M, M = U.namesOf U.ord := ⟨_, rfl⟩
          rw [← hM] at HPR H6
          obtain ⟨m, hm⟩ : ∃ m, m = M.length := ⟨_, rfl⟩
          rw [← hM, ← hm]
          have hge : ¬ (m : Int) < (i : Int) := by have := HPR.out.1; have := HN3.out.2.2.1; omega
          have hc6 : (i : Int) ≤ (c6 : Int) := by have := HPR.out.1; have := HN3.out.2.2.1; have := H6.out.1.2; omega
          have hi0 : (0 : Int) ≤ (i : Int) := Int.natCast_nonneg i
          have HCT := Lib.hid (show Kd.C Kd.string wc A6 N.length N ∧ N.length ≤ c6 from by
            have h1 := Kd.C_take H6.out.1.1 HPR.out.1
            rw [HPR.out.2] at h1
            exact ⟨h1, Nat.le_trans HPR.out.1 H6.out.1.2⟩)
          clear hM hm
          have HTX0 := texts_row wc A6 A3 c6 c3 N HCT.out (And.intro (Kd.R_reads' H6.out.2.1.n).2.2 (by have := (Kd.R_reads' H6.out.2.1.n).2.1; have := HN3.out.2.2.1; omega)) HND.out.1
          rw [← HN3.out.2.2.1] at HTX0
          have HTX := Lib.hid HTX0
          clear HTX0
          go_upto_region 33 with (first | (go_at_call 12; refine HTX.out.mono ?_; rintro _ wd ⟨rfl, ⟨m7, hd7⟩⟩; have HLV := Lib.hid (show Live w1 wd b Xj U (.slice A3 i c3) N (.slice A7 Li.length c7) Li from by rw [hd7]; exact H6.out.2.1.below (pw_below_drewN (Below.refl _ _) m7)); clear hd7) | fail)
          clear hge hc6 H6 HCT HTX HS
          go_loopg [110] i (fun gk v110 wr => ∃ (j : Nat), v110 = .int .i64 (j : Int) ∧ j ≤ i ∧ i ≤ j + gk ∧ Hid (Live w1 wr b Xj U (.slice A3 i c3) N (.slice A7 Li.length c7) Li))
          case atStart => exact ⟨0, rfl, Nat.zero_le _, by omega, HLV⟩
          case round =>
            obtain ⟨j, rfl, hj, hg, HS⟩ := hrel
            by_cases hlt : j < i
            · have hltz : (j : Int) < (i : Int) := Int.ofNat_lt.2 hlt
              have hj0 : (0 : Int) ≤ (j : Int) := Int.natCast_nonneg j
              have r3 := (Kd.R_reads' HS.out.n).2.2
              have r7 := (Kd.R_reads' HS.out.f).2.2
              obtain ⟨ad3, rfl, hce⟩ := Kd.at_string r3 (j : Int) hj0 (by rw [← HN3.out.2.2.1]; exact hltz)
              rw [Int.toNat_natCast, rdOf_getD] at hce
              have hjN : j < N.length := HN3.out.2.2.1 ▸ hlt
              have hjL : j < Li.length := by rw [HL7.out]; exact hlt
              obtain ⟨ad7, B, cB, rfl, hce7, hr7, hl7⟩ := at_rows r7 j hjL rfl
              have hxm : N.getD j ByteArray.empty ∈ N := by rw [List.getD_eq_getElem?_getD, List.getElem?_eq_getElem hjN]; exact List.getElem_mem hjN
              have hF : Li.getD j [] = T.failL (N.getD j ByteArray.empty) := by
                rw [HLL.out, List.getD_eq_getElem?_getD, List.getD_eq_getElem?_getD, List.getElem?_map, List.getElem?_eq_getElem hjN]; rfl
              obtain ⟨y, hy⟩ : ∃ y, N.getD j ByteArray.empty = y := ⟨_, rfl⟩
              rw [hy] at hce hxm hF
              have hst := stays_at HND.out.2.2 HU.out.1 HU.out.2 (HNN.out ▸ hxm)
              obtain ⟨F, hFF⟩ : ∃ F, T.failL y = F := ⟨_, rfl⟩
              rw [hF, hFF] at hce7 hr7 hl7
              have hys := HND.out.2.1 y hxm
              have d0 := HS.out.done y hys
              have f0 := HS.out.fail y hys
              rw [hst.1, hst.2.1] at d0
              rw [hst.2.2.1, hst.2.2.2.1, hFF] at f0
              have HF := Lib.hid (show F.length ≤ 1024 from by obtain ⟨s', h'⟩ := HS.out.l; rw [← hFF, ← hst.2.2.2.1]; exact failL_len h'.ns y)
              have HDD := Lib.hid d0
              have HFF := Lib.hid f0
              have HB7 := Lib.hid (And.intro hr7 hl7)
              have HC7 := Lib.hid hce7
              have hj7 : (j : Int) < (Li.length : Int) := Int.ofNat_lt.2 hjL
              have HW := Lib.hid (wsucc j (by have := HN3.out.2.2.2; omega))
              have HL := Lib.hid (And.intro (Nat.succ_le_of_lt hlt) (And.intro (show i - (j + 1) < gk by omega) (show i ≤ j + 1 + (i - (j + 1)) by omega)))
              clear r3 r7 hjN hjL hxm hF hy hst hFF hys d0 f0 hr7 hl7 hlt hj hg hce7
              go_upto_region 37 with (first | (go_at_call 19; refine HDD.out.mono ?_; rintro _ wd ⟨rfl, rfl⟩) | (go_at_call 15; refine HFF.out.mono ?_; rintro _ we ⟨A8, c8, rfl, h8, hl8, hb8⟩; have H8 := Lib.hid (And.intro h8 (And.intro hl8 hb8)); clear h8 hl8 hb8) | fail)
              have hce7 := pw_cell_below H8.out.2.2 HC7.out
              go_wp2_with (first | (go_at_call 20; refine (fails_row we A8 B c8 cB F H8.out.1 ⟨Kd.C_below HB7.out.1 H8.out.2.2, HB7.out.2⟩ HF.out).mono ?_; rintro _ wf ⟨rfl, ⟨m9, hd9⟩⟩; have HLV := Lib.hid (show Live w1 wf b Xj U (.slice (some ad3) i c3) N (.slice (some ad7) Li.length c7) Li from by rw [hd9]; exact H8.out.2.1.below (pw_below_drewN (Below.refl _ _) m9)); clear hd9) | fail)
              go_roundg (i - (j + 1))
              case measure => exact HL.out.2.1
              case rel => exact ⟨j + 1, (by first | exact congrArg _ HW.out | rfl), HL.out.1, HL.out.2.2, HLV⟩
            · have hltz : ¬ (j : Int) < (i : Int) := fun e => hlt (Int.ofNat_lt.1 e)
              clear hj hg hlt
              go_wp2_with fail
              go_ret
              exact ⟨rfl, below_then HB1.out HB1.out.size HS.out.bel⟩
end
end Go.Proofs.YtdnkedifjaccoaaDoor.Ce
