/- Clone: for every web. -/
import Derived.Test.YtohkobfamofkgaaCl
import Derived.Deep.RegionWith
namespace Go.Proofs.Ytohkobfamofkgaa.Wb
open Go.RowKit Go.Maps Go.Proofs.Ytohkobfamofkgaa Go.Proofs.YtohkobfamofkgaaW.PrintWords Go.Proofs.YtohkobfamofkgaaW.PrintLast Go.Proofs.YtohkobfamofkgaaW.PrintMore

section
variable {P : Program} {ops : Array Oper} {o : Oper} {a : Act} {w : World} {Q : Act → Prop} {rest : List Oper}
/-- One read in the order of the text, its value told. -/
theorem still_value (hg : o.guard = none) (v : Value) (hrun : (execOp a.eval o).run P w = .ok (.value v) w) (h : wpStill P ops w Q rest (a.put o.dst v)) : wpStill P ops w Q (o :: rest) a := by
  refine wpStill_step (fun K hK => ?_)
  have hw : Region.wanted o (yielded ops a.tmps) = true := by simp [Region.wanted, hg]
  rw [if_pos hw]
  unfold Oper.still
  rw [hrun, Oper.stillUpon_value]
  exact hK _ h
theorem still_load (hg : o.guard = none) (ty : TypeId) (x : Operand) (ho : o.op = .load ty x) (b n : Nat) (hx : a.eval x = .pointer (some ⟨b, n, none⟩)) (cs : List Value) (d : TypeDesc) (hc : w.rangeAt b n cs)
    (hu : P.underlying ty = some d) (hd : d.isRow = true) (hi : (P.info? ty).map (·.size) = some cs.length) (h : wpStill P ops w Q rest (a.put o.dst (.agg cs.toArray))) : wpStill P ops w Q (o :: rest) a :=
  still_value hg _ (by
    unfold execOp
    simp only [ho, hx, Instr.loadAt, Instr.sureAddr, Sem.run_bind, Sem.run_pure, Result.andThen_ok, run_loadVar_mid w b n ty cs d hc hu hd hi]) h
theorem still_build (hg : o.guard = none) (t : TypeId) (parts : Array (Nat × Operand)) (ho : o.op = .build t parts) (cells : Array Value) (hc : P.built t (parts.map fun (i, x) => (i, a.eval x)).toList = some cells)
    (h : wpStill P ops w Q rest (a.put o.dst (.agg cells))) : wpStill P ops w Q (o :: rest) a :=
  still_value hg _ (by
    unfold execOp
    simp only [ho, Sem.run_bind, run_build w t _ cells hc, Result.andThen_ok, Sem.run_pure]) h
end

/-- The first i rows of a web. -/
def part (m : Web) (i : Nat) : Web := { ls := fun j => if j < i then m.ls j else [], run := m.run, wai := m.wai }
theorem part_zero (m : Web) : part m 0 = bare m := by unfold part bare; congr 1
theorem part_next (m : Web) (i : Nat) : ({ part m i with ls := upd (part m i).ls i (m.ls i) } : Web) = part m (i + 1) := by
  have e : upd (fun j => if j < i then m.ls j else []) i (m.ls i) = fun j => if j < i + 1 then m.ls j else [] := by
    funext j
    by_cases e : j = i
    · subst e; rw [upd_same, if_pos (by omega)]
    · rw [upd_other _ _ e]
      by_cases h : j < i
      · rw [if_pos h, if_pos (by omega)]
      · rw [if_neg h, if_neg (by omega)]
  show (⟨upd (fun j => if j < i then m.ls j else []) i (m.ls i), m.run, m.wai⟩ : Web) = ⟨_, m.run, m.wai⟩
  rw [e]
theorem At.whole {B : Nat} {w : World} {b : Nat} {V : Nat → Value} {m : Web} (h : At B w b V (part m 384)) : At B w b V m := by
  refine ⟨h.blk, h.hb, fun i hi => ?_, h.apart⟩
  have k := h.row i hi
  have e : (part m 384).ls i = m.ls i := if_pos hi
  rw [e] at k
  exact k
theorem mine_bare (w : World) (m : Web) : Mine w (w.alloc (.cells (cells V0 (bare m)) 67 (0, 0))) w.heap.size (part m 0) := by
  rw [part_zero]
  exact ⟨V0, ⟨blk_new w _, Nat.le_refl _, fun _ _ => ⟨rfl, Or.inl ⟨rfl, rfl⟩⟩, fun _ _ _ _ _ k hk => absurd hk (by simp [V0, Value.ownBlock])⟩, (Below.refl _ _).alloc (Nat.le_refl _) _⟩
/-- One row more. -/
theorem mine_next {w wr w' : World} {x i o : Nat} {m : Web} {v : Value} (h : Mine w wr x (part m i)) (hi : i < 384) (ho : (i < 128 ∧ o = i) ∨ (128 ≤ i ∧ o = i + 384)) (hr : Row wr.heap.size w' v (m.ls i)) (hb : Below wr.heap.size wr w') : Mine w (w'.setCell ⟨x, o, none⟩ v) x (part m (i + 1)) := by
  obtain ⟨V, h1, h2⟩ := h
  have h1' := h1.below hb
  have hx := blk_lt h1.blk
  have hne : ∀ k, v.ownBlock = some k → k ≠ x := fun k hk => by have := (hr.block hk).1; omega
  have hset : Blk (w'.setCell ⟨x, o, none⟩ v) x (upd V i v) { part m i with ls := upd (part m i).ls i (m.ls i) } := by
    rcases ho with ⟨k1, k2⟩ | ⟨k1, k2⟩
    · subst k2; exact h1'.blk.setStack k1 v (m.ls o)
    · obtain ⟨c, rfl⟩ : ∃ c, i = 128 + c := ⟨i - 128, by omega⟩
      have : o = 512 + c := by omega
      subst this
      exact h1'.blk.setQueue (by omega) v (m.ls (128 + c))
  have hxB := h1.hb
  refine ⟨upd V i v, ?_, ?_⟩
  · rw [← part_next]
    refine h1.put (l' := m.ls i) hset (fun _ _ => rfl) ?_ ?_ (fun k hk => Or.inr (hr.block hk).1) hi
    · exact (hr.lower h2.size).move (fun k hk => Below.heap_setCell _ _ _ _ (hne k hk))
    · intro j hj hji k hk
      rw [Below.heap_setCell _ _ _ _ (h1.ne hj hk)]
      exact hb.block k ((h1.row j hj).block hk).2.1
  · exact Chg.below (S := fun k => k = x) h2 ((show Chg (fun k => k = x) wr w' from Chg.of_below hb).setCell (p := ⟨x, o, none⟩) rfl v) (fun k hk => by subst hk; exact hxB) h2.size

def stk (V : Nat → Value) : List Value := (List.range 128).map V
def que (V : Nat → Value) : List Value := (List.range 256).map fun c => V (128 + c)
theorem range_runs {w : World} {b : Nat} {V : Nat → Value} {m : Web} (h : Blk w b V m) : w.rangeAt b 128 (runs m) := fun j v hv => by
  unfold runs at hv
  rw [List.getElem?_map] at hv
  by_cases hj : j < 256
  · rw [List.getElem?_range hj] at hv
    injection hv with hv
    rw [← hv]; exact h.runner hj
  · rw [List.getElem?_eq_none (by simp; omega)] at hv; exact absurd hv (by simp)
theorem range_wais {w : World} {b : Nat} {V : Nat → Value} {m : Web} (h : Blk w b V m) : w.rangeAt b 384 (wais m) := fun j v hv => by
  unfold wais at hv
  rw [List.getElem?_map] at hv
  by_cases hj : j < 128
  · rw [List.getElem?_range hj] at hv
    injection hv with hv
    rw [← hv]; exact h.waits hj
  · rw [List.getElem?_eq_none (by simp; omega)] at hv; exact absurd hv (by simp)
theorem range_stk {w : World} {b : Nat} {V : Nat → Value} {m : Web} (h : Blk w b V m) : w.rangeAt b 0 (stk V) := fun j v hv => by
  unfold stk at hv
  rw [List.getElem?_map] at hv
  by_cases hj : j < 128
  · rw [List.getElem?_range hj] at hv
    injection hv with hv
    rw [← hv, Nat.zero_add]; exact h.stack hj
  · rw [List.getElem?_eq_none (by simp; omega)] at hv; exact absurd hv (by simp)
theorem range_que {w : World} {b : Nat} {V : Nat → Value} {m : Web} (h : Blk w b V m) : w.rangeAt b 512 (que V) := fun j v hv => by
  unfold que at hv
  rw [List.getElem?_map] at hv
  by_cases hj : j < 256
  · rw [List.getElem?_range hj] at hv
    injection hv with hv
    rw [← hv]; exact h.queue hj
  · rw [List.getElem?_eq_none (by simp; omega)] at hv; exact absurd hv (by simp)

theorem index62 (SA : Array Value) (j : Nat) (v : Value) (w : World) (hj : j < 128) (h : SA[j]? = some v) : Sem.run Try.prog (Instr.index 62 (.agg SA) (.int .i64 j)) w = .ok v w := by
  obtain ⟨i0, hi, hz0, hz1, hz2⟩ := info_parts (show (Try.prog.info? 22).map (fun i => (i.zero, i.size, i.bytes)) = some (some (.slice none 0 0), 1, 24) by kernel_rfl)
  have hu : Try.prog.underlying 62 = some (.array 128 22) := Try.underlying62
  have hlt : (j : Int) < 128 := by omega
  have hag : ∀ w, (isAgg 22).run Try.prog w = .ok false w := fun _ => by kernel_rfl
  simp [Instr.index, asIntOf, run_underlying hu, hlt, hj, sizeOf, typeInfo, hi, hz1, Go.part, hag, h]
theorem index65 (SA : Array Value) (j : Nat) (v : Value) (w : World) (hj : j < 256) (h : SA[j]? = some v) : Sem.run Try.prog (Instr.index 65 (.agg SA) (.int .i64 j)) w = .ok v w := by
  obtain ⟨i0, hi, hz0, hz1, hz2⟩ := info_parts (show (Try.prog.info? 22).map (fun i => (i.zero, i.size, i.bytes)) = some (some (.slice none 0 0), 1, 24) by kernel_rfl)
  have hu : Try.prog.underlying 65 = some (.array 256 22) := Try.underlying65
  have hlt : (j : Int) < 256 := by omega
  have hag : ∀ w, (isAgg 22).run Try.prog w = .ok false w := fun _ => by kernel_rfl
  simp [Instr.index, asIntOf, run_underlying hu, hlt, hj, sizeOf, typeInfo, hi, hz1, Go.part, hag, h]
attribute [local irreducible] runs wais cells stk que
set_option maxHeartbeats 400000 in
set_option maxRecDepth 100000 in
theorem clone_web (B : Nat) (w : World) (b : Nat) (V : Nat → Value) (m : Web) (h : At B w b V m) (hl : ∀ i, i < 384 → (m.ls i).length ≤ 1000000) :
    Calls Try.prog 28 #[.pointer (some ⟨b, 0, none⟩)] w fun e w' => ∃ x, e = .returned (.pointer (some ⟨x, 0, none⟩)) ∧ Mine w w' x m := by
  have HA := Lib.hid h
  have HL := Lib.hid hl
  clear h hl
  go_enter Try.func28, Try.ntmps28
  go_wp2_with fail
  refine region_tail 9 (by kernel_rfl) (by kernel_rfl) (fun w1 => At B w1 b V m ∧ Below w.heap.size w w1) ⟨HA.out.below ((Below.refl _ _).drew), (Below.refl _ _).drew⟩ ?_
  rintro w1 ⟨k1, k2⟩
  have HR := Lib.hid (range_runs k1.blk)
  have HW := Lib.hid (range_wais k1.blk)
  have HB := Lib.hid k2
  have HP := Lib.hid k1
  clear k1 k2
  simp only [List.take_succ_cons, List.take_zero, List.drop_succ_cons, List.drop_zero]
  iterate 3 (refine wpStill_step (fun K hK => ?_); go_simp; refine hK _ ?_; clear hK K)
  refine still_load rfl 63 (.tmp 10) rfl b 128 rfl (runs m) _ HR.out Try.underlying63 rfl (by unfold runs; rw [List.length_map, List.length_range]; kernel_rfl) ?_
  iterate 3 (refine wpStill_step (fun K hK => ?_); go_simp; refine hK _ ?_; clear hK K)
  refine still_load rfl 64 (.tmp 14) rfl b 384 rfl (wais m) _ HW.out Try.underlying64 rfl (by unfold wais; rw [List.length_map, List.length_range]; kernel_rfl) ?_
  generalize hra : (runs m).toArray = RA
  generalize hwa : (wais m).toArray = WA
  have HBu := built67 m
  rw [hra, hwa] at HBu
  generalize hcz : cells V0 (bare m) = CZ at HBu
  have HCZ := Lib.hid hcz
  have hbuild := @still_build Try.prog
  refine still_build rfl 67 #[(1, .tmp 11), (2, .tmp 15)] rfl CZ ?_ ?_
  · simp only [List.map_toArray, List.map_cons, List.map_nil]
    exact HBu
  clear HBu hcz hra hwa hbuild
  have HS := Lib.hid (range_stk ((HP.out.below ((Below.refl _ _).alloc (Nat.le_refl _) (.cells CZ 67 (0, 0)))).blk))
  have HSz := Lib.hid (show (Try.prog.info? 62).map (·.size) = some (stk V).length from by rw [show (stk V).length = 128 by unfold stk; simp]; kernel_rfl)
  refine wpStill_nil ?_
  go_wp2_with ((with_reducible refine gate_dst (N := 21) rfl ?_); refine wpList_load_mid rfl 62 (.tmp 20) rfl b 0 rfl (stk V) _ HS.out Try.underlying62 rfl HSz.out ?_; generalize hsa : (stk V).toArray = SA; have HSA := Lib.hid hsa; clear hsa)
  have HM := Lib.hid (show Mine w1 (w1.alloc (.cells CZ 67 (0, 0))) w1.heap.size (part m 0) from by rw [← HCZ.out]; exact mine_bare w1 m)
  clear HS HSz HCZ HR HW
  go_loopg [22] 128 (fun gk i wr => ∃ j : Nat, i = .int .i64 j ∧ j + gk = 128 ∧ Hid (Mine w1 wr w1.heap.size (part m j)))
  case atStart => exact ⟨0, rfl, rfl, HM⟩
  case round =>
    obtain ⟨j, rfl, hj, HY⟩ := hrel
    clear HM
    by_cases hlt : j < 128
    · have hsj : SA[j]? = some (V j) := by rw [← HSA.out]; unfold stk; simp [hlt]
      have hlt2 : (j : Int) < 128 := by omega
      have hix := fun w => index62 SA j (V j) w hlt hsj
      generalize hv : V j = vj at *
      go_wp2_with fail
      have HV := Lib.hid hv
      have HD := Lib.hid (show Calls Try.prog 30 #[vj] wr.drew fun e w' => ∃ v', e = .returned v' ∧ Row wr.drew.heap.size w' v' (m.ls j) ∧ Below wr.drew.heap.size wr.drew w' from by
        obtain ⟨V1, k1, k2⟩ := HY.out
        have k := (HP.out.below k2).row j (by omega)
        rw [HV.out] at k
        exact clone_any B wr.drew vj (m.ls j) k (HL.out j (by omega)))
      have HKeep := Lib.hid (show ∀ w3, Below wr.drew.heap.size wr.drew w3 → (∃ v0, w3.cell? ⟨w1.heap.size, j, none⟩ = some v0) ∧ w3.frozen? ⟨w1.heap.size, j, none⟩ = false from fun w3 k => by
        obtain ⟨V1, k1, k2⟩ := HY.out
        have hb : Blk w3 w1.heap.size V1 (Wb.part m j) := (k.block _ (blk_lt k1.blk)).trans k1.blk
        exact ⟨⟨_, hb.stack hlt⟩, hb.free _⟩)
      clear hv hix hsj
      go_region_with (go_at_call 30; refine HD.out.mono ?_; rintro _ w3 ⟨v', rfl, hr, hbb⟩; obtain ⟨A3, cap3, rfl⟩ := hr.shape; have HX := Lib.hid (And.intro hr hbb); obtain ⟨⟨v0, d0⟩, d1⟩ := HKeep.out w3 hbb; clear hr hbb)
      all_goals
        have HN := Lib.hid (mine_next (i := j) (o := j) HY.out (by omega) (Or.inl ⟨hlt, rfl⟩) HX.out.1 ⟨HX.out.2.os, HX.out.2.tape, HX.out.2.output, HX.out.2.size, HX.out.2.block⟩)
        have hw : IntKind.i64.wrap ((j : Int) + 1) = j + 1 := IntWalk.i64_in _ (by omega)
        go_wp2_with fail
        go_roundg (gk - 1)
        case measure => omega
        case rel => exact ⟨j + 1, rfl, by omega, HN⟩
    · obtain rfl : j = 128 := by omega
      have HS2 := Lib.hid (show wr.rangeAt b 512 (que V) from by
        obtain ⟨V1, k1, k2⟩ := HY.out
        exact range_que (HP.out.below k2).blk)
      have HSz2 := Lib.hid (show (Try.prog.info? 65).map (·.size) = some (que V).length from by rw [show (que V).length = 256 by unfold que; simp]; kernel_rfl)
      go_wp2_with ((with_reducible refine gate_dst (N := 37) rfl ?_); refine wpList_load_mid rfl 65 (.tmp 36) rfl b 512 rfl (que V) _ HS2.out Try.underlying65 rfl HSz2.out ?_; generalize hqa : (que V).toArray = QA; have HQA := Lib.hid hqa; clear hqa)
      clear HS2 HSz2
      go_loopg [38] 256 (fun gk i wr => ∃ j : Nat, i = .int .i64 j ∧ j + gk = 256 ∧ Hid (Mine w1 wr w1.heap.size (part m (128 + j))))
      case atStart => exact ⟨0, rfl, rfl, HY⟩
      case round =>
        clear hj HY
        obtain ⟨j, rfl, hj, HY⟩ := hrel
        by_cases hlt : j < 256
        · have hsj : QA[j]? = some (V (128 + j)) := by rw [← HQA.out]; unfold que; simp [hlt]
          have hlt2 : (j : Int) < 256 := by omega
          have hix := fun w => index65 QA j (V (128 + j)) w hlt hsj
          generalize hv : V (128 + j) = vj at *
          go_wp2_with fail
          have HV := Lib.hid hv
          have HD := Lib.hid (show Calls Try.prog 30 #[vj] wr.drew fun e w' => ∃ v', e = .returned v' ∧ Row wr.drew.heap.size w' v' (m.ls (128 + j)) ∧ Below wr.drew.heap.size wr.drew w' from by
            obtain ⟨V1, k1, k2⟩ := HY.out
            have k := (HP.out.below k2).row (128 + j) (by omega)
            rw [HV.out] at k
            exact clone_any B wr.drew vj (m.ls (128 + j)) k (HL.out (128 + j) (by omega)))
          have HKeep := Lib.hid (show ∀ w3, Below wr.drew.heap.size wr.drew w3 → (∃ v0, w3.cell? ⟨w1.heap.size, 512 + j, none⟩ = some v0) ∧ w3.frozen? ⟨w1.heap.size, 512 + j, none⟩ = false from fun w3 k => by
            obtain ⟨V1, k1, k2⟩ := HY.out
            have hb : Blk w3 w1.heap.size V1 (Wb.part m (128 + j)) := (k.block _ (blk_lt k1.blk)).trans k1.blk
            exact ⟨⟨_, hb.queue hlt⟩, hb.free _⟩)
          clear hv hix hsj
          go_region_with (go_at_call 30; refine HD.out.mono ?_; rintro _ w3 ⟨v', rfl, hr, hbb⟩; obtain ⟨A3, cap3, rfl⟩ := hr.shape; have HX := Lib.hid (And.intro hr hbb); obtain ⟨⟨v0, d0⟩, d1⟩ := HKeep.out w3 hbb; clear hr hbb)
          all_goals
            have HN := Lib.hid (mine_next (i := 128 + j) (o := 512 + j) HY.out (by omega) (Or.inr ⟨by omega, by omega⟩) HX.out.1 ⟨HX.out.2.os, HX.out.2.tape, HX.out.2.output, HX.out.2.size, HX.out.2.block⟩)
            have hw : IntKind.i64.wrap ((j : Int) + 1) = j + 1 := IntWalk.i64_in _ (by omega)
            go_wp2_with fail
            go_roundg (gk - 1)
            case measure => omega
            case rel => exact ⟨j + 1, rfl, by omega, HN⟩
        · obtain rfl : j = 256 := by omega
          go_wp2_with fail
          go_ret
          obtain ⟨V1, k1, k2⟩ := HY.out
          have k3 := k1.whole
          exact ⟨_, rfl, V1, ⟨k3.blk, Nat.le_trans HB.out.size k3.hb, fun i hi => (k3.row i hi).lower HB.out.size, k3.apart⟩, HB.out.trans ⟨k2.os, k2.tape, k2.output, k2.size, fun i hi => k2.block i (Nat.lt_of_lt_of_le hi HB.out.size)⟩⟩
end Go.Proofs.Ytohkobfamofkgaa.Wb
