/- The chapter's second example: works tells true. -/
import Derived.Test.YtchbammjcnhkiaaDoorCl
namespace Go.Proofs.YtchbammjcnhkiaaDoor.Ce
open Go.RowKit Go.Maps Go.Proofs.YtchbammjcnhkiaaDoor Go.Proofs.YtchbammjcnhkiaaDoorW.PrintWords Go.Proofs.YtchbammjcnhkiaaDoorW.PrintLast Go.Proofs.YtchbammjcnhkiaaDoorW.PrintMore PCellPlays
attribute [local go_sem] max2_int min2_int max_two min_two max_three min_three
theorem row_one64 {w : World} {b : Nat} {t : TypeId} (x : S64) (h : w.heap[b]? = some (.cells #[.int .i64 x.f0, .int .i64 x.f1, .string x.f2] t (0, 0))) : Kd.C k64 w (some ⟨b, 0, none⟩) 1 [x] := by
  refine ⟨rfl, by decide, fun _ => ⟨⟨b, 0, none⟩, rfl, fun j y hj => ?_⟩⟩
  cases j with
  | succ j => simp at hj
  | zero =>
    simp at hj
    subst hj
    refine ⟨[.int .i64 x.f0, .int .i64 x.f1, .string x.f2], rfl, k64_mk w x, fun i u hu => ?_⟩
    rw [← hu]
    have e : (⟨b, 0, none⟩ : Addr).add (0 * k64.sz + i) = ⟨b, i, none⟩ := by
      unfold Addr.add
      split
      · rename_i h2
        have : i = 0 := by omega
        subst this
        rfl
      · simp
    rw [e, blk_cell h]
    simp
def wS0 : Cel := ⟨true, 3, 10, 2, 100, 1, 0, 0, 0, 0, 0, 0⟩
def wS1 : Cel := ⟨true, 3, 10, 2, 100, 2, 1, 1, 0, 0, 0, 0⟩
def wS2 : Cel := ⟨true, 3, 10, 2, 100, 4, 1, 0, 1, 15, 5, 2⟩
theorem wS1_is : begunC wS0 1 0 = wS1 := rfl
theorem wS2_is : againC wS1 2 5 = wS2 := by rfl
theorem w_right : rightB 2 [] [⟨6, 0, ⟨#[]⟩⟩] = true := by decide
set_option maxHeartbeats 1000000 in
set_option maxRecDepth 100000 in
theorem works_is (w : World) (hla : Laid w) : Calls Tryd.prog 7 #[] w fun e w' => e = .returned (.bool true) ∧ Below w.heap.size w w' := by
  have HL := Lib.hid hla
  clear hla
  go_enter Tryd.func7, Tryd.ntmps7
  go_wp2_with fail
  refine (new_ok _ true 3 10 2 100 (by decide) (by decide) (by decide) (by decide) (by decide) (by decide) (by decide) (by decide)).mono ?_
  rintro _ w1 ⟨b, rfl, h1, hb1, hbb⟩
  have HA1 := Lib.hid (show At w1 b wS0 (.slice none 0 0) (.slice none 0 0) from h1)
  have HB1 := Lib.hid hb1
  have HBB := Lib.hid hbb
  clear h1 hb1 hbb
  go_wp2_with fail
  refine (begin_ok _ b wS0 _ _ 1 0 HA1.out (by decide) (by decide) (by decide) (by decide) (by decide) (by decide)).mono ?_
  rintro _ w2 ⟨rfl, h2, hc2⟩
  rw [wS1_is] at h2
  have HA2 := Lib.hid h2
  have HB2 := Lib.hid (Chg.below HB1.out hc2 (fun i hi => by have := HBB.out; omega) HB1.out.size)
  have e1 : wS0.gen + 1 = 1 := rfl
  rw [e1]
  clear h2 hc2
  go_wp2_with fail
  have kb := blk_new w2 (.cells #[.int .i64 6, .int .i64 0, .string ⟨#[]⟩] 64)
  have HB3 := Lib.hid (Below.alloc HB2.out HB2.out.size (.cells #[.int .i64 6, .int .i64 0, .string ⟨#[]⟩] 64))
  refine (end_again _ b wS1 _ _ 1 2 none (some ⟨w2.heap.size, 0, none⟩) 0 1 [] [⟨6, 0, ⟨#[]⟩⟩] 5 (blk_alloc HA2.out _) ⟨⟨rfl, by decide, fun h => absurd h (by decide)⟩, by decide, by decide, row_one64 ⟨6, 0, ⟨#[]⟩⟩ kb, by decide, by decide, HL.out.below HB3.out⟩ (by decide) (by decide) rfl rfl (by decide) w_right (by decide) (by decide) (by decide) (by decide) ⟨by decide, by decide, by decide, by decide, by decide⟩).mono ?_
  rintro _ w3 ⟨rfl, hc3, u, v, h3, -⟩
  rw [wS2_is] at h3
  have HA3 := Lib.hid h3
  have HB4 := Lib.hid (Chg.below HB3.out hc3 (fun i hi => by have := HBB.out; omega) HB3.out.size)
  clear h3 hc3 kb
  go_wp2_with fail
  refine (show Calls Tryd.prog 15 #[.pointer (some ⟨b, 0, none⟩)] w3 (fun e w' => e = .returned (.agg #[.int .i64 4, .int .i64 1, .int .i64 0, .int .i64 1, .int .i64 15]) ∧ Below w3.heap.size w3 w') from told_any _ b wS2 u v HA3.out (by decide)).mono ?_
  rintro _ w4 ⟨rfl, hb4⟩
  have HA4 := Lib.hid (blk_below HA3.out hb4)
  have HB5 := Lib.hid (below_step HB4.out hb4)
  clear hb4
  go_wp2_with fail
  refine (ask_is _ b wS2 u v 14 HA4.out (r := 3) (by decide)).mono ?_
  rintro _ w5 ⟨rfl, n, rfl⟩
  go_wp2_with fail
  refine (ask_is _ b wS2 u v 15 (At.drewN HA4.out n) (r := 1) (by decide)).mono ?_
  rintro _ w6 ⟨rfl, n2, rfl⟩
  go_wp2_with fail
  go_ret
  exact ⟨rfl, pw_below_drewN HB5.out _⟩
end Go.Proofs.YtchbammjcnhkiaaDoor.Ce
