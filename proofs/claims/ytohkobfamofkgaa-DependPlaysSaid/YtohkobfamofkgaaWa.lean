/- Wake, where the task waits: for every web. -/
import Derived.Test.YtohkobfamofkgaaSk
import Derived.Deep.RegionWith
namespace Go.Proofs.Ytohkobfamofkgaa.Wb
open Go.RowKit Go.Maps Go.Proofs.Ytohkobfamofkgaa Go.Proofs.YtohkobfamofkgaaW.PrintWords Go.Proofs.YtohkobfamofkgaaW.PrintLast Go.Proofs.YtohkobfamofkgaaW.PrintMore

/-- A row that the library has shortened in place, its value stored back. -/
theorem At.deleted {B : Nat} {w w3 : World} {b : Nat} {V : Nat → Value} {m : Web} (h : At B w b V m) {c : Nat} (hc : c < 256) {v' : Value} {l : List Int} (hr : Row B w3 v' l) (hbk : v'.ownBlock = (V (128 + c)).ownBlock) (hch : Chg (fun k => (V (128 + c)).ownBlock = some k) w w3) :
    Post B w b V { m with ls := upd m.ls (128 + c) l } (w3.setCell ⟨b, 512 + c, none⟩ v') := by
  have hb3 : Blk w3 b V m := blk_chg h.blk hch (fun e => h.ne (i := 128 + c) (by omega) e rfl)
  refine ⟨upd V (128 + c) v', h.put (l' := l) (hb3.setQueue hc _ _) (fun _ _ => rfl) ?_ ?_ (fun k hk => Or.inl (by rw [← hbk]; exact hk)) (by omega), ?_, own_upd (by omega) (fun k hk => Or.inl (by rw [← hbk]; exact hk))⟩
  · exact hr.move (fun k hk => Below.heap_setCell _ _ _ _ (h.ne (i := 128 + c) (by omega) (by rw [← hbk]; exact hk)))
  · intro j hj hne k hk
    rw [Below.heap_setCell _ _ _ _ (h.ne hj hk)]
    exact hch.block k ((h.row j hj).block hk).2.1 (fun e => h.apart j (128 + c) hj (by omega) hne k hk e)
  · exact (show Chg (Own b V) w w3 from hch.mono (fun k hk => Or.inr ⟨128 + c, by omega, hk⟩)).setCell (Or.inl rfl) _

set_option maxHeartbeats 2000000 in
set_option maxRecDepth 100000 in
theorem wake_ok (B : Nat) (w : World) (b : Nat) (V : Nat → Value) (m : Web) (t c : Nat) (ht : t < 128) (hc : c < 256) (h : At B w b V m) (hw : m.wai t = (c : Int) + 1) (hq : (t : Int) ∈ m.ls (128 + c)) :
    Calls Try.prog 21 #[.pointer (some ⟨b, 0, none⟩), .int .i64 t] w fun e w' => e = .returned (.int .i64 0) ∧ Post B w b V (woken m t c) w' := by
  have k := (Below.refl w.heap.size w).alloc (Nat.le_refl _) (.cells #[.int .i64 t] 3)
  have HA := Lib.hid (h.below k)
  have HK := Lib.hid k
  have c0 := (h.below k).blk.waits ht
  rw [hw] at c0
  have cb : (w.alloc (.cells #[.int .i64 t] 3)).cell? ⟨w.heap.size, 0, none⟩ = some (.int .i64 t) := (blk_cell (blk_new w (.cells #[.int .i64 t] 3)) 0).trans rfl
  have ht' : (t : Int) < 128 := by omega
  have hc' : (c : Int) < 256 := by omega
  have hb1 : ((c : Int) + 1 == 0) = false := by simpa using (by omega : ¬ (c : Int) + 1 = 0)
  have hs1 : IntKind.i64.wrap ((c : Int) + 1 - 1) = c := by rw [IntWalk.i64_in _ (by omega)]; omega
  have HH := Lib.hid h
  have HQ := Lib.hid hq
  have HCB := Lib.hid cb
  clear h k hw hq
  go_enter Try.func21, Try.ntmps21
  go_wp2_with (first | (go_at_call 29; refine (task_in _ _ (by omega) (by omega)).mono ?_; rintro _ _ ⟨rfl, rfl⟩))
  go_quiet (fail)
  go_wp2_with fail
  go_quiet (fail)
  go_wp2_with fail
  refine region_tail 5 (by kernel_rfl) (by kernel_rfl) (fun w1 => At B w1 b V m ∧ Below w.heap.size w w1 ∧ w1.cell? ⟨w.heap.size, 0, none⟩ = some (.int .i64 t)) ⟨HA.out.below ((below_drewN (below_drewN (Below.refl _ _) _) _).drew), (below_drewN (below_drewN HK.out _) _).drew, HCB.out⟩ ?_
  rintro w1 ⟨k1, k2, cb⟩
  clear c0 HA HK HCB
  simp only [List.take_succ_cons, List.take_zero, List.drop_succ_cons, List.drop_zero]
  have f := k1.blk.free
  have c0 := k1.blk.waits ht
  have HA := Lib.hid k1
  have HB := Lib.hid k2
  have HCB := Lib.hid cb
  clear k1 k2
  iterate 5 (refine wpStill_step (fun K hK => ?_); go_simp; refine hK _ ?_; clear hK K)
  refine wpStill_nil ?_
  go_wp2_with fail
  have HA2 := Lib.hid (HA.out.setWaits ht 0)
  have hbx : b ≠ w.heap.size := by have := blk_lt HH.out.blk; omega
  have HC2 := Lib.hid (show (w1.setCell ⟨b, 384 + t, none⟩ (.int .i64 0)).drew.cell? ⟨w.heap.size, 0, none⟩ = some (.int .i64 t) from by
    have e : (w1.setCell ⟨b, 384 + t, none⟩ (.int .i64 0)).heap[w.heap.size]? = w1.heap[w.heap.size]? := Below.heap_setCell _ _ _ _ (fun e => hbx e.symm)
    show (w1.setCell ⟨b, 384 + t, none⟩ (.int .i64 0)).cell? _ = _
    unfold World.cell?
    rw [e]
    exact HCB.out)
  have HW2 := Lib.hid (show Chg (Own b V) w (w1.setCell ⟨b, 384 + t, none⟩ (.int .i64 0)) from (Chg.of_below HB.out).setCell (Or.inl rfl) _)
  clear f c0 cb HA HB HCB
  generalize w1.setCell ⟨b, 384 + t, none⟩ (.int .i64 0) = w2 at *
  have hnb : (V (128 + c)).ownBlock ≠ some w.heap.size := fun e => by have := ((HH.out.row (128 + c) (by omega)).block e).2.1; omega
  have HD := Lib.hid (delete_row B w2.drew (V (128 + c)) (m.ls (128 + c)) t w.heap.size (HA2.out.row (128 + c) (by omega)) (fun e => by have := HQ.out; rw [e] at this; exact absurd this (by simp)) HC2.out hnb)
  generalize hF : (m.ls (128 + c)).filter (fun x => x ≠ (t : Int)) = F at HD
  have HF := Lib.hid hF
  clear hF
  have c3 := HA2.out.blk.queue hc
  have f := HA2.out.blk.free
  generalize hv : V (128 + c) = v0 at *
  have HV := Lib.hid hv
  clear hv hnb
  have HKeep := Lib.hid (show ∀ w3, Chg (fun k => v0.ownBlock = some k) w2.drew w3 → w3.cell? ⟨b, 512 + c, none⟩ = some v0 ∧ w3.frozen? ⟨b, 512 + c, none⟩ = false from fun w3 k => by
    have hbk : Blk w3 b V { m with wai := upd m.wai t 0 } := blk_chg (show w2.drew.heap[b]? = _ from HA2.out.blk) k (fun e => HA2.out.ne (i := 128 + c) (by omega) (by rw [HV.out]; exact e) rfl)
    exact ⟨(hbk.queue hc).trans (by rw [HV.out]), hbk.free _⟩)
  have f1 := f (512 + c)
  clear f
  have c3' : w2.drew.cell? ⟨b, 512 + c, none⟩ = some v0 := c3
  go_region_with (go_at_call 32; refine HD.out.mono ?_; rintro _ w3 ⟨v', rfl, hr, hbk, hch⟩; obtain ⟨A3, cap3, rfl⟩ := hr.shape; have HX := Lib.hid (And.intro hr (And.intro hbk hch)); obtain ⟨d0, d1⟩ := HKeep.out w3 hch; clear hr hbk hch)
  all_goals
    have HP := Lib.hid (HA2.out.deleted hc HX.out.1 (by rw [HV.out]; exact HX.out.2.1) (show Chg (fun k => (V (128 + c)).ownBlock = some k) w2 w3 from by rw [HV.out]; exact ⟨HX.out.2.2.os, HX.out.2.2.tape, HX.out.2.2.output, HX.out.2.2.size, HX.out.2.2.block⟩))
    go_wp2
    go_ret
    have e : ({ ls := upd m.ls (128 + c) F, run := m.run, wai := upd m.wai t 0 } : Web) = woken m t c := by unfold woken; rw [HF.out]
    exact ⟨rfl, Post.trans (V1 := V) HW2.out (fun k hk => Or.inl hk) (e ▸ HP.out)⟩
end Go.Proofs.Ytohkobfamofkgaa.Wb
