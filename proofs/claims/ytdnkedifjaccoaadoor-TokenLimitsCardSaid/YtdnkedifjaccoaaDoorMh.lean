/- Clone, walked. -/
import Derived.Test.YtdnkedifjaccoaaDoorPf
namespace Go.Proofs.YtdnkedifjaccoaaDoor.Ce
open Go.RowKit Go.Maps Go.Shelf Go.Lib Go.Proofs Go.Proofs.YtdnkedifjaccoaaDoor Go.Proofs.YtdnkedifjaccoaaDoorW.PrintWords Go.Proofs.YtdnkedifjaccoaaDoorW.PrintLast Go.Proofs.YtdnkedifjaccoaaDoorW.PrintMore PToken
set_option linter.unusedVariables false
set_option linter.unusedSimpArgs false
section
variable {X : Nat → Prop} {w w' : World} {b : Nat} {T : Tree} {s : Sh}
set_option maxHeartbeats 8000000 in
set_option maxRecDepth 100000 in
theorem Clone_is (h : Tm X w b T s) (G : Tree.Good T) (hns : NS T) (hla : LaidF w) : Calls Tryd.prog 9 #[.pointer (some ⟨b, 0, none⟩)] w fun e w' => Fresh w T e w' := by
  obtain ⟨c0, -, -, -, -⟩ := h.cells
  obtain ⟨Aa, ca, hva, hca⟩ := own_slice h.all
  rw [h.len] at hva
  obtain ⟨Ao, co, hvo, hco⟩ := own_slice h.ord
  obtain ⟨n, hn⟩ : ∃ n, n = T.toks.length := ⟨_, rfl⟩
  obtain ⟨m, hm⟩ : ∃ m, m = T.ord.length := ⟨_, rfl⟩
  rw [← hn] at hva
  rw [← hm] at hvo
  have HT := Lib.hid (And.intro h hla)
  have HG := Lib.hid (And.intro G hns)
  have HN := Lib.hid (And.intro hn hm)
  have HV := Lib.hid (And.intro hva hvo)
  have hck := h.clock
  have HCK := Lib.hid (cclone_is hck)
  have hmm := @run_makeMap Tryd.prog
  clear h G hns hla hva hvo hca hco hn hm hck
  go_enter Tryd.func9, Tryd.ntmps9
  go_upto_region 2 with (first | (go_at_call 24; refine HCK.out.mono ?_; rintro _ w1 ⟨rfl, hc1, hb1⟩; have HB1 := Lib.hid (And.intro hc1 hb1); clear hc1 hb1) | fail)
  have z0 := HT.out.2.size
  have z1 := HB1.out.2.size
  have z1' : w.heap.size < w1.heap.size := blk_lt HB1.out.1
  obtain ⟨W2, hW2⟩ : ∃ W2, W2 = w1.alloc (.map #[] 0) := ⟨_, rfl⟩
  have z2 : W2.heap.size = w1.heap.size + 1 := by rw [hW2, World.size_alloc]
  have hb2 : Below w.heap.size w W2 := by rw [hW2]; exact HB1.out.2.alloc z1 _
  have hmp : W2.ownsMap Tryd.prog 9 ptrElem w1.heap.size 0 (.map []) := by rw [hW2]; exact World.ownsMap_made w1 Tryd.prog 9 ptrElem
  have hc2 : W2.heap[w.heap.size]? = some (.cells #[.int .i64 T.now, .int .i64 0, .slice none 0 0] 87 (0, 0)) := by rw [hW2]; exact blk_alloc HB1.out.1 _
  rw [← hW2, ← z2]
  obtain ⟨b2, hbb⟩ : ∃ b2, b2 = W2.heap.size := ⟨_, rfl⟩
  rw [← hbb]
  obtain ⟨W3, hW3⟩ : ∃ W3, W3 = W2.alloc (.cells #[.pointer (some ⟨w.heap.size, 0, none⟩), .slice none 0 0, .map (some w1.heap.size), .slice none 0 0] 61) := ⟨_, rfl⟩
  rw [← hW3]
  have hb3 : Below w.heap.size w W3 := by rw [hW3]; exact hb2.alloc hb2.size _
  have HO := Lib.hid (show ClO w b2 (T.upTo 0) (fun k => k = b2 ∨ k = w.heap.size ∨ k = w1.heap.size) W3 ⟨w.heap.size, w1.heap.size, .slice none 0 0, .slice none 0 0, [], fun _ => .slice none 0 0, fun _ => .slice none 0 0⟩ from
    ⟨fun k hk => by rcases hk with e | e | e <;> omega,
     Tm.newN (n := T.now) (c := w.heap.size) (m := w1.heap.size) ⟨by omega, by omega, by omega⟩ (by rw [hW3, hbb]; exact blk_new W2 _) (by rw [hW3]; exact blk_alloc hc2 _) (map_move hmp (by rw [hW3]; exact Below.heap_alloc _ _ _ hmp.lt)), hb3, HT.out.2.below hb3⟩)
  have c1 : W3.cell? ⟨b, 1, none⟩ = some (.slice Aa n ca) := by
    obtain ⟨-, q, -, -, -⟩ := (HT.out.1.below hb3).cells
    rw [HV.out.1] at q; exact q
  clear c0 z0 z1 z1' hW2 z2 hb2 hmp hc2 hbb hW3 hb3
  go_wp2_with fail
  clear c1 HCK hmm HB1
  go_loopg [24] n (fun gk vi wr => ∃ (j : Nat) (X2 : Nat → Prop) (s2 : Sh), vi = .int .i64 (j : Int) ∧ j ≤ n ∧ n ≤ j + gk ∧ Hid (ClO w b2 (T.upTo j) X2 wr s2))
  case atStart => exact ⟨0, _, _, rfl, Nat.zero_le _, by omega, HO⟩
  case round =>
    obtain ⟨j, X2, s2, rfl, hj, hg, HS⟩ := hrel
    by_cases hlt : j < n
    · have hltz : (j : Int) < (n : Int) := Int.ofNat_lt.2 hlt
      have hj0 : (0 : Int) ≤ (j : Int) := Int.natCast_nonneg j
      have hj' : j < T.toks.length := by rw [← HN.out.1]; exact hlt
      have hR := HT.out.1.below HS.out.bel
      obtain ⟨A', c', hv', -, -, hcell⟩ := hR.allB.open
      rw [HV.out.1] at hv'
      injection hv' with e1 e2 e3
      subst e1
      obtain ⟨ga, rfl, hca, -⟩ := hcell j (by rw [hR.len]; exact hj')
      rw [show s.g.getD j 0 = s.gg j from rfl] at hca
      have HTW := Lib.hid (hR.tcells j hj')
      obtain ⟨Aw, cw, hwv, -, hrw⟩ := Kd.R_reads (hR.why j hj')
      have HWV := Lib.hid (And.intro hwv (And.intro hrw (HG.out.2 j hj')))
      have HW := Lib.hid (wsucc j (by have := HG.out.1.small; omega))
      have HL := Lib.hid (And.intro (Nat.succ_le_of_lt hlt) (And.intro (show n - (j + 1) < gk by omega) (And.intro (show n ≤ j + 1 + (n - (j + 1)) by omega) hj')))
      obtain ⟨tk, htk⟩ : ∃ tk, tk = T.tk j := ⟨_, rfl⟩
      have HTK := Lib.hid htk
      rw [← htk] at HTW HWV hwv
      clear hcell e2 e3 hlt hj hg hj' hR hrw htk hwv
      go_upto_region 5 with fail
      have HK := Lib.hid (fun (W : World) (hb : Below wr.heap.size wr W) => show W.cell? ⟨s.gg j, 0, none⟩ = some (.string tk.name) ∧ W.cell? ⟨s.gg j, 2, none⟩ = some (.int .i64 tk.dl) ∧ W.cell? ⟨s.gg j, 3, none⟩ = some (.bool tk.done) ∧ W.cell? ⟨s.gg j, 4, none⟩ = some (.slice Aw tk.why.length cw) from by
        obtain ⟨t0, t1, t2, t3, t4, -⟩ := (HT.out.1.below (HS.out.bel.trans (hb.mono HS.out.bel.size))).tcells j HL.out.2.2.2
        rw [← HTK.out] at t0 t2 t3
        rw [HWV.out.1] at t4
        exact ⟨t0, t2, t3, t4⟩)
      have hk0 := HK.out wr (Below.refl _ _)
      obtain ⟨k00, k02, k03, k04⟩ := hk0
      go_region_held3 (fun w' => w'.cell? ⟨s.gg j, 0, none⟩ = some (.string tk.name) ∧ w'.cell? ⟨s.gg j, 2, none⟩ = some (.int .i64 tk.dl) ∧ w'.cell? ⟨s.gg j, 3, none⟩ = some (.bool tk.done) ∧ w'.cell? ⟨s.gg j, 4, none⟩ = some (.slice Aw tk.why.length cw)) (first | exact HK.out _ (HB6.out.alloc HB6.out.size _) | exact HK.out _ (pw_below_drewN (HB6.out.alloc HB6.out.size _) 1) | exact HK.out _ HB6.out | exact ⟨k00, k02, k03, k04⟩) (first | (go_at_call 25; refine (fclone_is _ Aw cw tk.why (by exact HWV.out.2.1) (by have := HWV.out.2.2.2.2; omega)).mono ?_; rintro _ w6 ⟨v6, rfl, hr6, hb6⟩; have HB6 := Lib.hid (show Below wr.heap.size wr w6 from (pw_below_drewN (Below.refl _ wr) 1).trans hb6); obtain ⟨A6, c6, hv6e, -, -⟩ := Kd.R_reads hr6; subst hv6e; have HR6 := Lib.hid hr6; clear hb6 hr6) | fail)
      have hsz6 := HB6.out.size
      obtain ⟨X6, hX6⟩ : ∃ X6, X6 = Upto X2 wr w6 := ⟨_, rfl⟩
      have HU := Lib.hid (show Tm X6 w6 b2 (T.upTo j) s2 from by rw [hX6]; exact HS.out.tm.upto HB6.out HS.out.laid)
      have HLA := Lib.hid (HS.out.laid.below HB6.out)
      have HWY := Lib.hid (show k56.R 56 w6 3 X6 (.slice A6 tk.why.length c6) tk.why from by
        rw [hX6]; exact Kd.R_mono (Kd.R_lower (Kd.R_bound HR6.out) HS.out.laid.size) (fun k hk => Or.inr ⟨hk.2.1, hk.2.2.1⟩))
      have HN6 := Lib.hid (show ∀ k, X6 k → w.heap.size ≤ k from fun k hk => by
        rw [hX6] at hk
        rcases hk with h1 | h1
        · exact HS.out.new k h1
        · have := HS.out.bel.size; omega)
      have HB0 := Lib.hid (show Below w.heap.size w w6 from HS.out.bel.trans (HB6.out.mono HS.out.bel.size))
      clear hX6
      have HC0 := Lib.hid (show ClS w6 s2 tk (.slice A6 tk.why.length c6) [] (.slice none 0 0) (w6.alloc (.cells #[.string tk.name, .slice none 0 0, .int .i64 tk.dl, .bool tk.done, .slice A6 tk.why.length c6] 65)) from ⟨(Below.refl _ w6).alloc (Nat.le_refl _) _, blk_new w6 _, rfl, Or.inl ⟨rfl, rfl⟩⟩)
      -- the source, from here on
      have HSR := Lib.hid (fun (W : World) (hb : Below w6.heap.size w6 W) => show Tm X W b T s from HT.out.1.below ((HS.out.bel.trans (HB6.out.mono HS.out.bel.size)).trans (hb.mono (Nat.le_trans HS.out.bel.size hsz6))))
      obtain ⟨Ap, cp, hpv, hpc⟩ := own_slice (HT.out.1.par j HL.out.2.2.2)
      obtain ⟨mp, hmp⟩ : ∃ mp, mp = tk.par.length := ⟨_, rfl⟩
      rw [← HTK.out, ← hmp] at hpv
      have t1 : (w6.alloc (.cells #[.string tk.name, .slice none 0 0, .int .i64 tk.dl, .bool tk.done, .slice A6 tk.why.length c6] 65)).cell? ⟨s.gg j, 1, none⟩ = some (.slice Ap mp cp) := by
        obtain ⟨-, q1, -, -, -, -⟩ := (HSR.out _ HC0.out.bel).tcells j HL.out.2.2.2
        rw [hpv] at q1; exact q1
      have HPV := Lib.hid hpv
      have hmp8 : mp ≤ 8 := by
        have := (HG.out.2 j HL.out.2.2.2).2.1
        rw [hmp, HTK.out]; exact this
      have HMP := Lib.hid (And.intro hmp hmp8)
      clear hpv hpc hmp hmp8 k00 k02 k03 k04 hca hsz6
      go_wp2_with fail
      clear t1
      go_loopg [52] mp (fun gi vi wi => ∃ (i : Nat) (pv : Value), vi = .int .i64 (i : Int) ∧ i ≤ mp ∧ mp ≤ i + gi ∧ Hid (ClS w6 s2 tk (.slice A6 tk.why.length c6) (tk.par.take i) pv wi))
      case atStart => exact ⟨0, _, rfl, Nat.zero_le _, by omega, HC0⟩
      case round =>
        obtain ⟨i, pv, rfl, hi, hgi, HCI⟩ := hrel
        obtain ⟨li, hli⟩ : ∃ li, li = tk.par.take i := ⟨_, rfl⟩
        have hlen : li.length = i := by rw [hli, List.length_take]; have := HMP.out.1; omega
        rw [← hli] at HCI
        by_cases hlt : i < mp
        · have hltz : (i : Int) < (mp : Int) := Int.ofNat_lt.2 hlt
          have hi0 : (0 : Int) ≤ (i : Int) := Int.natCast_nonneg i
          have hR := HSR.out _ HCI.out.bel
          have hil : i < tk.par.length := by rw [← HMP.out.1]; exact hlt
          obtain ⟨A', c', hv', -, -, hcell⟩ := (hR.parB j HL.out.2.2.2).open
          rw [← HTK.out, List.length_map, ← HMP.out.1, HPV.out] at hv'
          injection hv' with e1 e2 e3
          subst e1
          obtain ⟨gp, rfl, hcp, -⟩ := hcell i (by rw [List.length_map, ← HTK.out]; exact hil)
          rw [← HTK.out, getD_map_lt hil] at hcp
          have hpm : tk.par.getD i 0 ∈ tk.par := getD_mem hil
          have htk1 : tk.par.take (i + 1) = li ++ [tk.par.getD i 0] := by
            rw [hli, List.take_add_one, List.getElem?_eq_getElem hil, List.getD_eq_getElem?_getD, List.getElem?_eq_getElem hil]; rfl
          obtain ⟨p, hp⟩ : ∃ p, tk.par.getD i 0 = p := ⟨_, rfl⟩
          rw [hp] at hcp hpm htk1
          have hpj : p < j := HG.out.1.wf.par j HL.out.2.2.2 p (by rw [← HTK.out]; exact hpm)
          have hpn : p < T.toks.length := Nat.lt_trans hpj HL.out.2.2.2
          obtain ⟨x0, -, -, -, -, -⟩ := hR.tcells p hpn
          have hTU := HU.out.below HCI.out.bel
          obtain ⟨-, -, y2, -, -⟩ := hTU.cells
          have HFP := Lib.hid (show optP s2 ((T.upTo j).find (T.tk p).name) = some ⟨s2.gg p, 0, none⟩ by rw [upTo_find HG.out.1 (Nat.le_of_lt HL.out.2.2.2) hpj]; rfl)
          have hpz : (T.tk p).name.size ≤ maxLen := by have := (HG.out.2 p hpn).1; unfold maxLen; omega
          obtain ⟨pn, hpn'⟩ : ∃ pn, (T.tk p).name = pn := ⟨_, rfl⟩
          rw [hpn'] at x0 HFP hpz
          have hlk := name_run (W := wr.drew) (hTU.drewN 1) pn hpz HFP.out
          obtain ⟨Ax, cx, hpx, hcx⟩ := own_slice HCI.out.row
          have tkx := HCI.out.tok
          rw [hpx] at tkx
          rw [hlen] at hpx tkx
          have x1 : wr.cell? ⟨w6.heap.size, 1, none⟩ = some (.slice Ax i cx) := (blk_cell tkx 1).trans rfl
          have hBw : w6.heap.size < wr.heap.size := blk_lt tkx
          have hrow := HCI.out.row
          have hnB := ne_row tkx hrow (by decide)
          rw [hpx] at hrow hnB
          have HRW := Lib.hid (And.intro hrow (And.intro tkx hnB))
          have HCJ := Lib.hid (show ClS w6 s2 tk (.slice A6 tk.why.length c6) li (.slice Ax li.length cx) wr from by rw [hlen, ← hpx]; exact HCI.out)
          have HLI := Lib.hid (And.intro (Nat.succ_le_of_lt hlt) (And.intro (show mp - (i + 1) < gk by omega) (And.intro (show mp ≤ i + 1 + (mp - (i + 1)) by omega) (And.intro hlen htk1))))
          have HWI := Lib.hid (wsucc i (by have := HMP.out.2; omega))
          clear hli hcell e2 e3 hR hil hpm htk1 hp hpj hpn hTU hpz hpn' hpx hcx tkx hrow hnB hlt hi hgi hlen
          go_upto_region 9 with fail
          go_region_law (first | (refine step_append_cells (w0 := wr.drew) (W := wr.drew) w6.heap.size (by rfl) (.tmp 60) (.tmp 70) 58 63 (.pointer none) 1 8 rfl (by kernel_rfl) info63 rfl (by decide) (by decide) (.slice Ax i cx) li.length (li.map fun q => pt (s2.gg q)) [pt (s2.gg p)] rfl rfl rfl (by intro u hu; rw [List.mem_singleton.1 hu]; rfl) HRW.out.1 (Below.refl _ _) HCI.out.bel.size (by have := HLI.out.2.2.2.1; have := HLI.out.1; have := HMP.out.2; omega) ?_; intro v9 w9 ho9 hb9 hg9 hat9; obtain ⟨A9, c9, rfl, -⟩ := own_slice ho9; have hf9 : w9.heap[w6.heap.size]? = wr.heap[w6.heap.size]? := hg9.block w6.heap.size (show w6.heap.size < wr.drew.heap.size from blk_lt HRW.out.2.1) (fun e => HRW.out.2.2 e.symm); have y91 : w9.cell? ⟨w6.heap.size, 1, none⟩ = some (.slice Ax i cx) := (cell_blk hf9).trans (blk_cell HRW.out.2.1 1); have y92 : w9.frozen? ⟨w6.heap.size, 1, none⟩ = false := blk_frozen (hf9.trans HRW.out.2.1) 1; have H9 := Lib.hid (And.intro ho9 (And.intro hb9 (And.intro hg9 hf9))); clear ho9 hb9 hg9 hat9 hf9) | fail)
          all_goals
            go_wp2_with fail
            go_roundg (mp - (i + 1))
            case measure => exact HLI.out.2.1
            case rel =>
              refine ⟨i + 1, .slice A9 (li.length + 1) c9, (by first | exact congrArg _ HWI.out | rfl), HLI.out.1, HLI.out.2.2.1, Lib.hid ?_⟩
              rw [HLI.out.2.2.2.2]
              exact HCJ.out.step (by rw [HLI.out.2.2.2.1]; exact HRW.out.2.2) H9.out.1 H9.out.2.1 H9.out.2.2.2
        · have hltz : ¬ (i : Int) < (mp : Int) := fun e => hlt (Int.ofNat_lt.1 e)
          have hpar : li = tk.par := by rw [hli]; exact List.take_of_length_le (by have := HMP.out.1; omega)
          clear hli hlen hlt hi hgi
          subst hpar
          have hjl := HL.out.2.2.2
          have hsml := HG.out.1.small
          have hul : (T.upTo j).toks.length = j := upTo_len (Nat.le_of_lt hjl)
          have hgl : s2.g.length = j := by rw [HU.out.len, hul]
          have hXB := (HU.out.dom _ HU.out.xb).2
          obtain ⟨Aa2, ca2, hva2, -⟩ := own_slice HU.out.all
          rw [hgl] at hva2
          have hwsz : w6.heap.size < wr.heap.size := blk_lt HCI.out.tok
          have c1 : wr.cell? ⟨b2, 1, none⟩ = some (.slice Aa2 j ca2) := by
            obtain ⟨-, q, -, -, -⟩ := (HU.out.below HCI.out.bel).cells
            rw [hva2] at q; exact q
          obtain ⟨i0, hi0⟩ := info63e
          have HI := Lib.hid hi0
          have hown : wr.ownsRow 3 63 1 s2.va j (s2.g.map pt) := by
            have := HU.out.all
            rw [hgl] at this
            exact own_move this (fun k hk => HCI.out.bel.block k (own_lt this k hk))
          have HO := Lib.hid (own_move (w1 := wr.alloc (.cells #[.pointer (some ⟨w6.heap.size, 0, none⟩)] 63)) hown (fun k hk => Below.heap_alloc _ _ _ (own_lt hown k hk)))
          have HNW := Lib.hid (show ∀ j u, [pt w6.heap.size][j]? = some u → (wr.alloc (.cells #[.pointer (some ⟨w6.heap.size, 0, none⟩)] 63)).cell? ((⟨wr.heap.size, 0, none⟩ : Addr).add j) = some u from cell_one_new wr (pt w6.heap.size) 63)
          have HZ := Lib.hid (show j + 1 ≤ maxLen ∧ (j + 1) * 8 ≤ 140737488355328 ∧ 3 ≤ (wr.alloc (.cells #[.pointer (some ⟨w6.heap.size, 0, none⟩)] 63)).heap.size from by
            have h2 := HLA.out.size
            refine ⟨by unfold maxLen; omega, by omega, by rw [World.size_alloc]; omega⟩)
          have hvb : s2.va.ownBlock ≠ some b2 := ne_row HU.out.tree HU.out.all (by decide)
          have hval : ∀ k, s2.va.ownBlock = some k → k < w6.heap.size := fun k hk => (HU.out.dom k (HU.out.xa k hk)).2
          have HGR := Lib.hid (fun (w3 : World) (hg : (wr.alloc (.cells #[.pointer (some ⟨w6.heap.size, 0, none⟩)] 63)).grownBy w3 s2.va.ownBlock) => show wr.grownBy w3 s2.va.ownBlock from World.grownBy.trans (World.grownBy_alloc wr _ _) hg)
          have HQ := Lib.hid (fun (w3 : World) (hg : (wr.alloc (.cells #[.pointer (some ⟨w6.heap.size, 0, none⟩)] 63)).grownBy w3 s2.va.ownBlock) => show w3.cell? ⟨b2, 1, none⟩ = some (.slice Aa2 j ca2) ∧ w3.frozen? ⟨b2, 1, none⟩ = false ∧ w3.heap[b2]? = some (.cells s2.treeC 61 (0, 0)) ∧ w3.heap[w6.heap.size]? = some (.cells (tokC tk pv (.slice A6 tk.why.length c6)) 65 (0, 0)) from by
            have e1 : w3.heap[b2]? = some (.cells s2.treeC 61 (0, 0)) := ((HGR.out w3 hg).block b2 (by omega) (fun e => hvb e.symm)).trans ((HCI.out.bel.block b2 hXB).trans HU.out.tree)
            have e2 : w3.heap[w6.heap.size]? = some (.cells (tokC tk pv (.slice A6 tk.why.length c6)) 65 (0, 0)) := ((HGR.out w3 hg).block _ hwsz (fun e => by have := hval _ e.symm; omega)).trans HCI.out.tok
            exact ⟨(blk_cell e1 1).trans (by rw [← hva2]; rfl), blk_frozen e1 1, e1, e2⟩)
          have HVA2 := Lib.hid hva2
          have HWZ := Lib.hid hwsz
          have HXB := Lib.hid hXB
          clear hjl hsml hul hgl hXB hva2 hwsz hi0 hown hvb hval
          go_upto_region 12 with (first | (at_builtin; refine wpList_append_own_at _ rfl _ _ 58 rfl 3 63 i0 (.pointer none) 1 8 (by kernel_rfl) HI.out.1 HI.out.2.1 HI.out.2.2.1 HI.out.2.2.2 rfl (by decide) s2.va _ _ (by rw [HVA2.out]; rfl) HO.out ⟨wr.heap.size, 0, none⟩ 1 1 [pt w6.heap.size] rfl rfl HNW.out (by intro u hu; rw [List.mem_singleton.1 hu]; rfl) HZ.out.1 HZ.out.2.1 HZ.out.2.2 ?_; intro v3 w3 hown3 hgrow3 hnil3 hat3; obtain ⟨A3, k3, rfl, hk3⟩ := own_slice hown3; have q3 := HQ.out w3 hgrow3; obtain ⟨q31, q32, q33, q34⟩ := q3; have H3 := Lib.hid (And.intro hown3 (And.intro (HGR.out w3 hgrow3) (And.intro hat3 (And.intro q33 q34)))); clear hown3 hgrow3 hnil3 hat3 hk3 q33 q34) | fail)
          clear c1 q31 q32
          obtain ⟨W4, hW4⟩ : ∃ W4, W4 = w3.setCell ⟨b2, 1, none⟩ (.slice A3 (j + 1) k3) := ⟨_, rfl⟩
          rw [← hW4]
          have htree4 : W4.heap[b2]? = some (.cells #[pt s2.c, .slice A3 (j + 1) k3, .map (some s2.m), s2.vo] 61 (0, 0)) := by
            rw [hW4]; exact (blk_set H3.out.2.2.2.1 1 _).trans rfl
          have hb26 : w6.heap.size ≠ b2 := fun e => by have := HXB.out; omega
          have htok4 : W4.heap[w6.heap.size]? = some (.cells (tokC tk pv (.slice A6 tk.why.length c6)) 65 (0, 0)) := by
            rw [hW4, far_set 1 _ hb26]; exact H3.out.2.2.2.2
          have z2 : W4.cell? ⟨b2, 2, none⟩ = some (.map (some s2.m)) := (blk_cell htree4 2).trans rfl
          have z0 : W4.cell? ⟨w6.heap.size, 0, none⟩ = some (.string tk.name) := (blk_cell htok4 0).trans rfl
          obtain ⟨nM, D, hnM, hownM, hD⟩ := HU.out.map
          have hul : (T.upTo j).toks.length = j := upTo_len (Nat.le_of_lt HL.out.2.2.2)
          have hvm : s2.va.ownBlock ≠ some s2.m := row_ne_map HU.out.all hownM
          have hXm := (HU.out.dom _ HU.out.xm).2
          have hbm : b2 ≠ s2.m := fun e => ne_map HU.out.tree hownM e.symm
          have hown4 : W4.drew.ownsMap Tryd.prog 9 ptrElem s2.m nM D := map_move hownM (by
            show W4.heap[s2.m]? = _
            rw [hW4, far_set 1 _ (Ne.symm hbm), H3.out.2.1.block s2.m (by have := HWZ.out; omega) (fun e => hvm e.symm), HCI.out.bel.block s2.m hXm])
          have hsml := HG.out.1.small
          have hnz : tk.name.size ≤ maxLen := by have := (HG.out.2 j HL.out.2.2.2).1; rw [← HTK.out] at this; unfold maxLen; omega
          obtain ⟨w5, hrun, hown5, hturn5⟩ := hown4.store law9 under59 (by unfold maxLen; have := HL.out.2.2.2; omega) (key9 hnz) (ptrElem_pt (show 0 < w6.heap.size by have := HLA.out.size; omega))
          have H5 := Lib.hid (clone_add HU.out (fun i hi => by simp [Tree.upTo] at hi) (fun a ha p hp => by
              rw [hul] at ha
              rw [upTo_tk ha] at hp
              exact HG.out.1.wf.par a (Nat.lt_trans ha HL.out.2.2.2) p hp) HLA.out (by rw [HTK.out]; exact upTo_find_none HG.out.1 HL.out.2.2.2) HCI.out (fun p hp => by
              rw [hul]; rw [HTK.out] at hp; exact HG.out.1.wf.par j HL.out.2.2.2 p hp) HWY.out (by rw [hul]; exact H3.out.1) H3.out.2.1 (by rw [hul]; exact H3.out.2.2.1.imp id (fun e => ⟨_, e, by rw [World.size_alloc]; omega⟩)) hown5 hnM hownM.isMap hD (by rw [hul, ← hW4]; exact (Chg.of_below (pw_below_drewN (Below.refl _ W4) 1)).trans (Chg.turned hturn5 rfl)))
          obtain ⟨s5, HS5⟩ : ∃ s5, Hid (ClO w b2 (T.upTo (j + 1)) (Upto X6 w6 w5) w5 s5) := by
            have h5 := H5.out.tm
            rw [HTK.out, upTo_succ HL.out.2.2.2, ← HTK.out] at h5
            refine ⟨_, Lib.hid ⟨fun k hk => ?_, h5, HB0.out.trans (H5.out.new_below HN6.out HB0.out.size), H5.out.laid⟩⟩
            rcases hk with h1 | h1
            · exact HN6.out k h1
            · have := HB0.out.size; omega
          clear H5
          clear htree4 hb26 htok4 hnM hownM hD hul hvm hXm hbm hown4 hsml hnz hown5 hturn5 hW4
          have hrun' : (Instr.mapUpdate 59 (.map (some s2.m)) (.string tk.name) (.pointer (some ⟨w6.heap.size, 0, none⟩))).run Tryd.prog W4.drew = .ok () w5 := hrun
          clear hrun
          go_region_law (fail)
          all_goals
            go_wp2_with fail
            go_roundg (n - (j + 1))
            case measure => exact HL.out.2.1
            case rel => exact ⟨j + 1, Upto X6 w6 w5, s5, (by first | exact congrArg _ HW.out | rfl), HL.out.1, HL.out.2.2.1, HS5⟩
    · have hltz : ¬ (j : Int) < (n : Int) := fun e => hlt (Int.ofNat_lt.1 e)
      have hjn : j = T.toks.length := by rw [← HN.out.1]; omega
      have HS0 := Lib.hid (show ClO w b2 (T.ordTo 0) X2 wr s2 from by
        have := HS.out
        rwa [hjn, upTo_all] at this)
      have c3 : wr.cell? ⟨b, 3, none⟩ = some (.slice Ao m co) := by
        obtain ⟨-, -, -, q, -⟩ := (HT.out.1.below HS.out.bel).cells
        rw [HV.out.2] at q; exact q
      clear hjn hlt hj hg
      go_wp2_with fail
      clear c3 HS
      go_loopg [100] m (fun gi vi wi => ∃ (k : Nat) (X2 : Nat → Prop) (s2 : Sh), vi = .int .i64 (k : Int) ∧ k ≤ m ∧ m ≤ k + gi ∧ Hid (ClO w b2 (T.ordTo k) X2 wi s2))
      case atStart => exact ⟨0, _, _, rfl, Nat.zero_le _, by omega, HS0⟩
      case round =>
        obtain ⟨k, X2, s2, rfl, hk, hgk, HS⟩ := hrel
        by_cases hlt : k < m
        · have hltz : (k : Int) < (m : Int) := Int.ofNat_lt.2 hlt
          have hk0 : (0 : Int) ≤ (k : Int) := Int.natCast_nonneg k
          have hk' : k < T.ord.length := by rw [← HN.out.2]; exact hlt
          have hR := HT.out.1.below HS.out.bel
          obtain ⟨A', c', hv', -, -, hcell⟩ := hR.ordB.open
          rw [List.length_map, ← HN.out.2, HV.out.2] at hv'
          injection hv' with e1 e2 e3
          subst e1
          obtain ⟨ga, rfl, hca, -⟩ := hcell k (by rw [List.length_map]; exact hk')
          rw [getD_map_lt hk'] at hca
          have him : T.ord.getD k 0 ∈ T.ord := getD_mem hk'
          obtain ⟨i, hi⟩ : ∃ i, T.ord.getD k 0 = i := ⟨_, rfl⟩
          rw [hi] at hca him
          have hin := ((HG.out.1.wf.ord i).1 him).1
          obtain ⟨x0, -, -, -, -, -⟩ := hR.tcells i hin
          obtain ⟨-, -, y2, y3, yf⟩ := HS.out.tm.cells
          have y3f := yf 3
          have hol : (T.ordTo k).ord.length = k := by simp [Tree.ordTo]; omega
          have hrow : wr.ownsRow w.heap.size 63 1 s2.vo k ((T.ordTo k).ord.map fun q => pt (s2.gg q)) := by
            have h1 := HS.out.tm.ord
            rw [hol] at h1
            exact ⟨h1.1, h1.2.imp id (fun ⟨g, cap, cur, h2, h3, h4⟩ => ⟨g, cap, cur, h2, HS.out.new g (HS.out.tm.xo g (by rw [h2]; rfl)), h4⟩)⟩
          obtain ⟨Ar, cr, hvr, -⟩ := own_slice hrow
          rw [hvr] at y3 hrow
          have hrb := ne_row HS.out.tm.tree HS.out.tm.ord (by decide)
          rw [hvr] at hrb
          have HFP := Lib.hid (show optP s2 ((T.ordTo k).find (T.tk i).name) = some ⟨s2.gg i, 0, none⟩ by rw [ordTo_find HG.out.1 hin]; rfl)
          have hpz : (T.tk i).name.size ≤ maxLen := by have := (HG.out.2 i hin).1; unfold maxLen; omega
          obtain ⟨pn, hpn⟩ : ∃ pn, (T.tk i).name = pn := ⟨_, rfl⟩
          rw [hpn] at x0 HFP hpz
          have hlk := name_run (W := wr.drew) (HS.out.tm.drewN 1) pn hpz HFP.out
          have HRW := Lib.hid (And.intro hrow (And.intro hvr hrb))
          have hXB := HS.out.tm.dom _ HS.out.tm.xb
          have hb2w : b2 < wr.heap.size := hXB.2
          have HXB := Lib.hid (And.intro hXB HS.out.tm.tree)
          have HL := Lib.hid (And.intro (Nat.succ_le_of_lt hlt) (And.intro (show m - (k + 1) < gk by omega) (And.intro (show m ≤ k + 1 + (m - (k + 1)) by omega) (And.intro hk' hi))))
          have HW := Lib.hid (wsucc k (by have h1 := ord_len HG.out.1.wf; have h2 := HG.out.1.small; omega))
          have HK := Lib.hid (show (k + 1) * 8 ≤ 140737488355328 by have h1 := ord_len HG.out.1.wf; have h2 := HG.out.1.small; omega)
          clear hcell e2 e3 hlt hk hgk hk' hR him hi hin hol hrow hvr hrb hpz hpn hXB yf
          go_upto_region 17 with fail
          go_region_law (first | (refine step_append_cells (w0 := wr.drew) (W := wr.drew) w.heap.size (by rfl) (.tmp 108) (.tmp 118) 58 63 (.pointer none) 1 8 rfl (by kernel_rfl) info63 rfl (by decide) (by decide) (.slice Ar k cr) k ((T.ordTo k).ord.map fun q => pt (s2.gg q)) [pt (s2.gg i)] rfl rfl rfl (by intro u hu; rw [List.mem_singleton.1 hu]; rfl) HRW.out.1 (Below.refl _ _) HS.out.bel.size HK.out ?_; intro v9 w9 ho9 hb9 hg9 hat9; obtain ⟨A9, c9, rfl, -⟩ := own_slice ho9; have hf9 : w9.heap[b2]? = some (.cells s2.treeC 61 (0, 0)) := (hg9.block b2 (show b2 < wr.drew.heap.size from HXB.out.1.2) (fun e => HRW.out.2.2 e.symm)).trans HXB.out.2; have y91 : w9.cell? ⟨b2, 3, none⟩ = some (.slice Ar k cr) := (blk_cell hf9 3).trans (by rw [← HRW.out.2.1]; rfl); have y92 : w9.frozen? ⟨b2, 3, none⟩ = false := blk_frozen hf9 3; have H9 := Lib.hid (And.intro ho9 (And.intro hb9 (And.intro hg9 hat9))); clear ho9 hb9 hg9 hat9 hf9) | fail)
          all_goals
            obtain ⟨X9, s9, h9⟩ := HS.out.step HT.out.2 HG.out.1.wf HL.out.2.2.2.1 HL.out.2.2.2.2 H9.out.1 H9.out.2.1 (by rw [HRW.out.2.1]; exact H9.out.2.2.1) (by rw [HRW.out.2.1]; exact H9.out.2.2.2)
            have HS9 := Lib.hid h9
            clear h9
            go_wp2_with fail
            go_roundg (m - (k + 1))
            case measure => exact HL.out.2.1
            case rel => exact ⟨k + 1, X9, s9, (by first | exact congrArg _ HW.out | rfl), HL.out.1, HL.out.2.2.1, HS9⟩
        · have hltz : ¬ (k : Int) < (m : Int) := fun e => hlt (Int.ofNat_lt.1 e)
          have hkm : k = T.ord.length := by rw [← HN.out.2]; omega
          have HS0 := Lib.hid (show ClO w b2 T X2 wr s2 from by
            have := HS.out
            rwa [hkm, ordTo_all] at this)
          clear hkm hlt hk hgk HS
          go_wp2_with fail
          go_ret
          exact ⟨b2, X2, s2, rfl, HS0.out.new, HS0.out.tm, HS0.out.bel, HS0.out.laid⟩
end
end Go.Proofs.YtdnkedifjaccoaaDoor.Ce
