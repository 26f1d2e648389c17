/- Whatever was called, going from a task to the one that runs what it waits for, one comes to an end: the walk of DependNever. -/
import Derived.Test.YtohkobfamofkgaaNv
import Derived.Test.YtohkobfamofkgaaWlRound
namespace Go.Proofs.Ytohkobfamofkgaa
open Go.RowKit Go.Maps Go.Proofs.Ytohkobfamofkgaa Go.Proofs.Ytohkobfamofkgaa.Wb Go.Proofs.YtohkobfamofkgaaW.PrintWords Go.Proofs.YtohkobfamofkgaaW.PrintLast Go.Proofs.YtohkobfamofkgaaW.PrintMore

theorem Wb.Iw.never {m : Web} (h : Iw m) {L : List Int} {e : Int} (k : Cy.Says (nexts m 128) L e) : L = [] ∧ e = 0 ∧ Cy.Flat (nexts m 128) := by
  have hL : L = [] ∧ e = 0 := by
    rcases k with ⟨k, _⟩ | ⟨_, k, _⟩ | ⟨_, _, k, k2⟩
    · rw [nexts_length] at k; omega
    · exact absurd h.nexts_good k
    · refine ⟨?_, k⟩
      cases k2 with
      | none _ => rfl
      | some m p hc => exact absurd hc (h.no_cyc m)
  obtain ⟨rfl, rfl⟩ := hL
  exact ⟨rfl, rfl, Cy.flat k rfl⟩

/-- A row of one's own that grows, above what stood in w. -/
structure Gr (w wr : World) (v : Value) (l : List Int) : Prop where
  row : Row w.heap.size wr v l
  bel : Below w.heap.size w wr
structure Gr1 (w wr : World) (v : Value) (l : List Int) (x : Int) : Prop where
  row : Row w.heap.size (wr.alloc (.cells #[.int .i64 x] 3)) v l
  new1 : ([x].map (Value.int .i64)).length = [x].length * 1
  new2 : ∀ j u, ([x].map (Value.int .i64))[j]? = some u → (wr.alloc (.cells #[.int .i64 x] 3)).cell? ((⟨wr.heap.size, 0, none⟩ : Addr).add j) = some u
  new3 : ∀ u ∈ [x].map (Value.int .i64), u.oneCell' = true
  q1 : l.length + 1 ≤ maxLen
  q2 : (l.length + 1) * 8 ≤ 140737488355328
  q3 : w.heap.size ≤ (wr.alloc (.cells #[.int .i64 x] 3)).heap.size
theorem Gr.one {w wr : World} {v : Value} {l : List Int} (h : Gr w wr v l) (hl : l.length ≤ 1000) (x : Int) : Gr1 w wr v l x := by
  obtain ⟨h1, h2, h3⟩ := news (w := wr.alloc (.cells #[.int .i64 x] 3)) (n := 1) (l := [x]) (blk_new wr (.cells #[.int .i64 x] 3)) rfl
  have hs := h.bel.size
  exact ⟨h.row.below ((Below.refl wr.heap.size wr).alloc (Nat.le_refl _) _), h1, h2, h3, by unfold maxLen; omega, by omega, by rw [World.size_alloc]; omega⟩
theorem Gr.more {w wr w' : World} {v v' : Value} {l : List Int} {x : Int} (h : Gr w wr v l) (hown : w'.ownsRow w.heap.size 3 1 v' (l.length + 1) (l.map (Value.int .i64) ++ [x].map (Value.int .i64)))
    (hgrow : (wr.alloc (.cells #[.int .i64 x] 3)).grownBy w' v.ownBlock) : Gr w w' v' (l ++ [x]) := by
  refine ⟨by unfold Row; rw [List.length_append, List.map_append]; exact hown, ?_⟩
  exact (h.bel.alloc h.bel.size _).grown hgrow (by rw [World.size_alloc]; have := h.bel.size; omega) (fun k hk => (h.row.block hk).1)

set_option maxHeartbeats 4000000 in
set_option maxRecDepth 100000 in
theorem walk_never (A : Option Addr) (l : List (Int × Int × Int)) (c : Nat) (w : World) (hl : l.length ≤ c) (hC : Kd.C kcall w A l.length l) (hb : l.length * 24 ≤ 140737488351232) :
    Calls Try.prog 8 #[.slice A l.length c] w fun e w' => e = .returned (.bool true) ∧ Below w.heap.size w w' := by
  have HC := Lib.hid hC
  have HL := Lib.hid (And.intro hl hb)
  obtain ⟨i0, hi, hz0, hz1, hz2⟩ := info_parts Wb.info3
  have HI := Lib.hid (And.intro hi (And.intro hz0 (And.intro hz1 hz2)))
  clear hC hl hb hi hz0 hz1 hz2
  go_enter Try.func8, Try.ntmps8
  go_wp2_with (go_at_call 12; refine (works_true w).mono ?_; rintro _ w1 ⟨rfl, hb1⟩; have HB1 := Lib.hid hb1; clear hb1)
  refine (played_k A l c w w1 HB1 HL.out.1 HC HL.out.2).mono ?_
  rintro _ w2 ⟨b, m, rfl, H2⟩
  clear HB1 HL HC
  generalize Value.slice A l.length c = V0
  have HG := Lib.hid (show Gr w2 (w2.alloc (.cells #[] 3)) (.slice (some ⟨w2.heap.size, 0, none⟩) 0 0) (nexts m 0) from ⟨⟨rfl, Or.inr ⟨w2.heap.size, 0, #[], rfl, Nat.le_refl _, blk_new w2 _, Nat.le_refl _, Nat.zero_le _, rfl, rfl⟩⟩, (Below.refl w2.heap.size w2).alloc (Nat.le_refl _) _⟩)
  go_wp2_with fail
  go_loopg [4, 5] 128 (fun gk v i wr => ∃ j : Nat, i = .int .i64 j ∧ j + gk = 128 ∧ Hid (Gr w2 wr v (nexts m j)))
  case atStart => exact ⟨0, rfl, rfl, HG⟩
  case round =>
    obtain ⟨j, rfl, hj, HY⟩ := hrel
    clear HG
    by_cases hlt : j < 128
    · have hlt2 : (j : Int) < 128 := by omega
      have hw : IntKind.i64.wrap ((j : Int) + 1) = ((j + 1 : Nat) : Int) := by rw [IntWalk.i64_in _ (by omega)]; omega
      have hw2 : IntKind.i64.wrap ((j : Int) + 1) = (j : Int) + 1 := by rw [IntWalk.i64_in _ (by omega)]
      have HJ := Lib.hid hj
      clear hj
      have HLn := Lib.hid (nexts_length m j)
      rcases H2.out.iw.wf.wai j hlt with hz | ⟨d, hd, hz⟩
      · have HO := Lib.hid (HY.out.one (by rw [nexts_length]; omega) (-1))
        have HN := Lib.hid (show nexts m j ++ [-1] = nexts m (j + 1) by rw [nexts_succ]; unfold next; rw [if_pos hz])
        go_wp2_with (first | (go_at_call 25; refine (waiting_k j hlt (Lib.hid (H2.out.to HY.out.bel))).mono ?_; rintro _ w3 ⟨rfl, rfl⟩; rw [hz]) | (at_builtin; refine wpList_append_own_at _ rfl _ _ 22 rfl w2.heap.size 3 i0 (.int .i64 0) 1 8 Try.underlying22 HI.out.1 HI.out.2.1 HI.out.2.2.1 HI.out.2.2.2 rfl (by decide) u4 (nexts m j).length ((nexts m j).map (Value.int .i64)) rfl HO.out.row ⟨wr.heap.size, 0, none⟩ 1 1 _ rfl HO.out.new1 HO.out.new2 HO.out.new3 HO.out.q1 HO.out.q2 HO.out.q3 ?_; intro v' w' hown hgrow hnil hloc; have HM := Lib.hid (HY.out.more hown hgrow); clear hown hgrow hnil hloc))
        go_roundg (gk - 1)
        case measure => have := HJ.out; omega
        case rel => exact ⟨j + 1, rfl, by have := HJ.out; omega, by rw [← HN.out]; exact HM⟩
      · have hz0 : m.wai j ≠ 0 := by omega
        obtain ⟨d', r, hd', hr, k1, k2, k3, k4⟩ := H2.out.iw.next_some hlt hz0
        obtain rfl : d' = d := by omega
        have HO := Lib.hid (HY.out.one (by rw [nexts_length]; omega) (r : Int))
        have HN := Lib.hid (show nexts m j ++ [(r : Int)] = nexts m (j + 1) by rw [nexts_succ, k3])
        have hb1 : ((d' : Int) + 1 == 0) = false := by simpa using (by omega : ¬ (d' : Int) + 1 = 0)
        have hb2 : ((r : Int) == (j : Int)) = false := by simpa using (by omega : ¬ ((r : Int) = j))
        have hb3 : ((r : Int) + 1 == 0) = false := by simpa using (by omega : ¬ (r : Int) + 1 = 0)
        clear k3 k4 hz0 hz
        go_wp2_with (first | (go_at_call 25; refine (waiting_k j hlt (Lib.hid (H2.out.to HY.out.bel))).mono ?_; rintro _ w3 ⟨rfl, rfl⟩; rw [k1, if_neg (by omega), show (d' : Int) + 1 - 1 = d' by omega, show ((d' : Int) + 1 != 0) = true by simpa using (by omega : ¬ (d' : Int) + 1 = 0)]) | (go_at_call 19; refine (runner_k d' hd' (Lib.hid (H2.out.to HY.out.bel))).mono ?_; rintro _ w3 ⟨rfl, rfl⟩; rw [k2, if_neg (by omega), show (r : Int) + 1 - 1 = r by omega, show ((r : Int) + 1 != 0) = true by simpa using (by omega : ¬ (r : Int) + 1 = 0)]) | (at_builtin; refine wpList_append_own_at _ rfl _ _ 22 rfl w2.heap.size 3 i0 (.int .i64 0) 1 8 Try.underlying22 HI.out.1 HI.out.2.1 HI.out.2.2.1 HI.out.2.2.2 rfl (by decide) u4 (nexts m j).length ((nexts m j).map (Value.int .i64)) rfl HO.out.row ⟨wr.heap.size, 0, none⟩ 1 1 _ rfl HO.out.new1 HO.out.new2 HO.out.new3 HO.out.q1 HO.out.q2 HO.out.q3 ?_; intro v' w' hown hgrow hnil hloc; have HM := Lib.hid (HY.out.more hown hgrow); clear hown hgrow hnil hloc))
        go_roundg (gk - 1)
        case measure => have := HJ.out; omega
        case rel => exact ⟨j + 1, rfl, by have := HJ.out; omega, by rw [← HN.out]; exact HM⟩
    · obtain rfl : j = 128 := by omega
      clear hj hlt
      obtain ⟨A2, c2, hv⟩ := HY.out.row.shape
      rw [nexts_length] at hv
      subst hv
      obtain ⟨ad, rfl, -, -⟩ := (IntsAt.of_row HY.out.row).cell (fun e => by have := congrArg List.length e; rw [nexts_length] at this; simp at this)
      go_wp2_with fail
      obtain ⟨L, e, HSy, HC1⟩ := dep_call wr (.slice (some ad) 128 c2) (nexts m 128) (Lib.hid (IntsAt.of_row HY.out.row))
      obtain ⟨rfl, rfl, hF⟩ := H2.out.iw.never HSy.out
      have HFl := Lib.hid hF
      clear hF HSy
      refine HC1.mono ?_
      clear HC1
      rintro _ w3 ⟨u, rfl, HU, HB3⟩
      obtain ⟨A3, c3, hu, _, _⟩ := HU.out
      subst hu
      have HBe := Lib.hid (show Beh w w3 (.slice (some ad) 128 c2) (nexts m 128) (.slice A3 0 c3) [] from ⟨(IntsAt.of_row HY.out.row).below HB3.out, HU.out, bt (bt H2.out.bel HY.out.bel) HB3.out⟩)
      have HLn := Lib.hid (nexts_length m 128)
      clear HU HB3 HY H2
      generalize nexts m 128 = of at *
      go_wp2_with fail
      go_loopw [71] (fun i wr => ∃ j : Int, i = .int .i64 j ∧ 0 ≤ j ∧ j ≤ 128 ∧ Hid (Beh w wr (.slice (some ad) 128 c2) of (.slice A3 0 c3) [])) (fun i _ => (128 - intOf i).toNat)
      case atStart => exact ⟨0, rfl, by omega, by omega, HBe⟩
      case round =>
        obtain ⟨j, rfl, h0, h1, HY⟩ := hrel
        clear HBe
        by_cases hj : j < 128
        · go_wp2_with fail
          go_loopw [15, 16] (fun k n wr => ∃ q : Nat, n = .int .i64 q ∧ k = .int .i64 (Cy.it of q j) ∧ q ≤ 129 ∧ Hid (Beh w wr (.slice (some ad) 128 c2) of (.slice A3 0 c3) [])) (fun _ n _ => (129 - intOf n).toNat)
          case atStart => exact ⟨0, rfl, rfl, by omega, HY⟩
          case round =>
            obtain ⟨q, rfl, rfl, hq, HZ⟩ := hrel
            clear HY
            have hr := Cy.it_range HFl.out.good h0 (by rw [HLn.out]; omega) q
            have hoff := HFl.out.off j h0 (by rw [HLn.out]; omega)
            rw [HLn.out] at hr hoff
            have HX := Lib.hid (show Cy.it of (q + 1) j = Cy.nx of (Cy.it of q j) from rfl)
            have hback : 0 ≤ Cy.it of q j → q ≤ 128 := fun h => by
              rcases Nat.lt_or_ge 128 q with k | k
              · have := Cy.it_back (of := of) (x := j) (Nat.le_of_lt k) h; omega
              · exact k
            have HB := Lib.hid hback
            clear hback hoff
            generalize Cy.it of q j = x at *
            by_cases hx : 0 ≤ x
            · have hq2 : (q : Int) ≤ 128 := by have := HB.out hx; omega
              have q0 := HZ.out.a.at_ x hx (by rw [HLn.out]; exact hr.1)
              have hx1 : x < 128 := hr.1
              have hw : IntKind.i64.wrap ((q : Int) + 1) = q + 1 := IntWalk.i64_in _ (by omega)
              clear hr
              go_wp2_with fail
              go_roundw
              case measure => simp [intOf]; omega
              case rel => exact ⟨q + 1, by rfl, by rw [HX.out, Cy.nx_pos hx], by omega, HZ⟩
            · have hx' : x < 0 := by omega
              have hw : IntKind.i64.wrap (j + 1) = j + 1 := IntWalk.i64_in _ (by omega)
              by_cases hq2 : (q : Int) ≤ 128
              · go_wp2_with fail
                go_roundw
                case measure => simp [intOf]; omega
                case rel => exact ⟨j + 1, rfl, by omega, by omega, HZ⟩
              · go_wp2_with fail
                go_roundw
                case measure => simp [intOf]; omega
                case rel => exact ⟨j + 1, rfl, by omega, by omega, HZ⟩
        · obtain rfl : j = 128 := by omega
          go_wp2_with fail
          go_ret
          exact ⟨rfl, HY.out.bel⟩
end Go.Proofs.Ytohkobfamofkgaa
