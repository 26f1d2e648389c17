/- The package fail, walked where the failure is right: sort, fits, well, begins, Check. -/
import Derived.Test.YtccjclmjoegibaaDoorFp
namespace Go.Proofs.YtccjclmjoegibaaDoor.Ce
open Go.RowKit Go.Maps Go.Proofs.YtccjclmjoegibaaDoor Go.Proofs.YtccjclmjoegibaaDoorW.PrintWords Go.Proofs.YtccjclmjoegibaaDoorW.PrintLast Go.Proofs.YtccjclmjoegibaaDoorW.PrintMore PCloserOrders Hp
attribute [local go_sem] max2_int min2_int max_two min_two max_three min_three max_four min_four
set_option linter.unusedVariables false
set_option linter.unusedSimpArgs false
def sortsL : List Int := [0, 1, 1, 1, 1, 1, 1, 1, 2, 3, 4, 1]
structure LaidF (w : World) : Prop where
  keys : Laid w
  sorts : ∀ j : Nat, j < 12 → w.cell? ⟨1, j, none⟩ = (sortsL.map (Value.int .i64))[j]?
  size : 2 ≤ w.heap.size
theorem LaidF.below {w w' : World} (h : LaidF w) (hb : Below w.heap.size w w') : LaidF w' := ⟨h.keys.below hb, fun j hj => (cell_blk (hb.block 1 (by have := h.size; omega))).trans (h.sorts j hj), Nat.le_trans h.size hb.size⟩
def sortK (k : Int) : Int := if k = 9 then 3 else if k = 10 then 4 else 1
theorem sort_is (w : World) (h : LaidF w) (k : Int) (hk : k = 1 ∨ k = 2 ∨ k = 9 ∨ k = 10) : Calls Tryd.prog 59 #[.int .i64 k] w fun e w' => e = .returned (.int .i64 (sortK k)) ∧ w' = w := by
  have h1 : w.cell? ⟨1, 1, none⟩ = some (.int .i64 1) := h.sorts 1 (by decide)
  have h2 : w.cell? ⟨1, 2, none⟩ = some (.int .i64 1) := h.sorts 2 (by decide)
  have h3 : w.cell? ⟨1, 9, none⟩ = some (.int .i64 3) := h.sorts 9 (by decide)
  have h4 : w.cell? ⟨1, 10, none⟩ = some (.int .i64 4) := h.sorts 10 (by decide)
  clear h
  rcases hk with rfl | rfl | rfl | rfl
  · clear h2 h3 h4; go_enter Tryd.func59, Tryd.ntmps59; go_wp2_with fail; go_ret; exact ⟨rfl, rfl⟩
  · clear h1 h3 h4; go_enter Tryd.func59, Tryd.ntmps59; go_wp2_with fail; go_ret; exact ⟨rfl, rfl⟩
  · clear h1 h2 h4; go_enter Tryd.func59, Tryd.ntmps59; go_wp2_with fail; go_ret; exact ⟨rfl, rfl⟩
  · clear h1 h2 h3; go_enter Tryd.func59, Tryd.ntmps59; go_wp2_with fail; go_ret; exact ⟨rfl, rfl⟩
theorem fits_is (w : World) (hla : LaidF w) (k n : Int) (t : ByteArray) (hr : rightC ⟨k, n, t⟩) : Calls Tryd.prog 60 #[.int .i64 k, .string t] w fun e w' => e = .returned (.bool true) ∧ Below w.heap.size w w' := by
  have HN := Lib.hid (name_is w t hla.keys)
  clear hla
  rcases hr with ⟨rfl | rfl, _, _⟩ | ⟨rfl, _, hn⟩ | ⟨rfl, _, ht⟩
  · clear HN; go_enter Tryd.func60, Tryd.ntmps60; go_wp2_with fail; go_ret; exact ⟨rfl, Below.refl _ _⟩
  · clear HN; go_enter Tryd.func60, Tryd.ntmps60; go_wp2_with fail; go_ret; exact ⟨rfl, Below.refl _ _⟩
  · have hn' : nameB t = true := hn
    rw [hn'] at HN
    clear hn hn'
    go_enter Tryd.func60, Tryd.ntmps60
    go_wp2_with fail
    refine HN.out.mono ?_
    rintro _ w2 ⟨rfl, ⟨m, rfl⟩⟩
    go_wp2_with fail
    go_ret
    exact ⟨rfl, pw_below_drewN (Below.refl _ _) m⟩
  · have ht' : t = ⟨#[]⟩ := ht
    subst ht'
    clear HN ht
    go_enter Tryd.func60, Tryd.ntmps60; go_wp2_with fail; go_ret; exact ⟨rfl, Below.refl _ _⟩
set_option maxHeartbeats 4000000 in
set_option maxRecDepth 100000 in
theorem well_is (w : World) (hla : LaidF w) (k n : Int) (t : ByteArray) (hr : rightC ⟨k, n, t⟩) : Calls Tryd.prog 76 #[.agg #[.int .i64 k, .int .i64 n, .string t]] w fun e w' => e = .returned (.bool true) ∧ Below w.heap.size w w' := by
  obtain ⟨w2, e2⟩ : ∃ w2, w2 = w.alloc (.cells #[.int .i64 k, .int .i64 n, .string t] 49) := ⟨_, rfl⟩
  have hb2 : Below w.heap.size w w2 := by rw [e2]; exact below_alloc (Below.refl _ _) _
  have k3 : w2.heap[w.heap.size]? = some (.cells #[.int .i64 k, .int .i64 n, .string t] 49 (0, 0)) := by rw [e2]; exact blk_new _ _
  have HB2 := Lib.hid hb2
  have HK3 := Lib.hid k3
  have HS := Lib.hid (sort_is w2 (hla.below hb2) k (by rcases hr with ⟨h | h, _⟩ | ⟨h, _⟩ | ⟨h, _⟩ <;> (have h' : k = _ := h; omega)))
  have HF := Lib.hid (fits_is w2 (hla.below hb2) k n t hr)
  have HT := Lib.hid (show (t.size : Int) ≤ 4096 by have := hr.text; have h' : t.size ≤ 4096 := this; omega)
  have HR := Lib.hid hr
  clear hla hr hb2 k3
  go_enter Tryd.func76, Tryd.ntmps76
  go_upto_region 1 with fail
  rw [← e2]
  clear e2
  have q0 := (blk_cell HK3.out 0).trans rfl
  have q1 := (blk_cell HK3.out 1).trans rfl
  have q2 := (blk_cell HK3.out 2).trans rfl
  go_wp2_with fail
  refine HS.out.mono ?_
  rintro _ w3 ⟨rfl, rfl⟩
  have ht : decide ((t.size : Int) ≤ 4096) = true := decide_eq_true HT.out
  have ht2 : (t.size : Int) ≤ 4096 := HT.out
  rcases HR.out with ⟨h | h, hn, -⟩ | ⟨h, hn, -⟩ | ⟨h, hn, -⟩
  · have h' : k = 1 := h
    have hn' : n = 0 := hn
    subst h'; subst hn'
    clear h hn
    rw [show sortK 1 = 1 from rfl]
    go_wp2_with fail
    refine HF.out.mono ?_
    rintro _ w4 ⟨rfl, hb4⟩
    have HB4 := Lib.hid (below_step HB2.out hb4)
    clear hb4
    go_wp2_with fail
    go_ret
    exact ⟨rfl, HB4.out⟩
  · have h' : k = 2 := h
    have hn' : n = 0 := hn
    subst h'; subst hn'
    clear h hn
    rw [show sortK 2 = 1 from rfl]
    go_wp2_with fail
    refine HF.out.mono ?_
    rintro _ w4 ⟨rfl, hb4⟩
    have HB4 := Lib.hid (below_step HB2.out hb4)
    clear hb4
    go_wp2_with fail
    go_ret
    exact ⟨rfl, HB4.out⟩
  · have h' : k = 9 := h
    have hn' : n = 1 := hn
    subst h'; subst hn'
    clear h hn
    rw [show sortK 9 = 3 from rfl]
    go_wp2_with fail
    refine HF.out.mono ?_
    rintro _ w4 ⟨rfl, hb4⟩
    have HB4 := Lib.hid (below_step HB2.out hb4)
    clear hb4
    go_wp2_with fail
    go_ret
    exact ⟨rfl, HB4.out⟩
  · have h' : k = 10 := h
    have hn' : (1 : Int) ≤ n := hn
    subst h'
    clear h hn
    rw [show sortK 10 = 4 from rfl]
    go_wp2_with fail
    refine HF.out.mono ?_
    rintro _ w4 ⟨rfl, hb4⟩
    have HB4 := Lib.hid (below_step HB2.out hb4)
    clear hb4
    go_wp2_with fail
    go_ret
    exact ⟨rfl, HB4.out⟩
end Go.Proofs.YtccjclmjoegibaaDoor.Ce
