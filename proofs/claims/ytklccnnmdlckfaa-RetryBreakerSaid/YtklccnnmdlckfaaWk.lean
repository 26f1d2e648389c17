/- The law's own example (works) answers true, given what three printed functions answer at its numbers. -/
import Derived.Test.YtklccnnmdlckfaaBrn
namespace Go.Proofs.Ytklccnnmdlckfaa.Br
open Go.RowKit Go.Maps Go.Proofs.Ytklccnnmdlckfaa Go.Proofs.YtklccnnmdlckfaaW.PrintWords Go.Proofs.YtklccnnmdlckfaaW.PrintLast Go.Proofs.YtklccnnmdlckfaaW.PrintMore

/-- A slice value that reads as a list of whole numbers. -/
def IntsAt (w : World) (v : Value) (l : List Int) : Prop := ∃ A c, v = .slice A l.length c ∧ l.length ≤ c ∧ Kd.C (Kd.int .i64) w A l.length l
theorem IntsAt.below {w w' : World} {v : Value} {l : List Int} (h : IntsAt w v l) (hb : Below w.heap.size w w') : IntsAt w' v l := by
  obtain ⟨A, c, e, hc, h⟩ := h
  exact ⟨A, c, e, hc, Kd.C_below h hb⟩
theorem IntsAt.of_R {w : World} {base : Nat} {ok : Nat → Prop} {v : Value} {l : List Int} (h : Kd.R (Kd.int .i64) 3 w base ok v l) : IntsAt w v l := by
  obtain ⟨A, c, e, hc, h⟩ := Kd.R_reads h
  exact ⟨A, c, e, hc, h⟩
theorem IntsAt.of_block {w : World} {g n : Nat} {cs : Array Value} {f : Nat × Nat} (l : List Int) (hb : w.heap[g]? = some (.cells cs 3 f)) (hc : cs = (l.map (Value.int .i64)).toArray) (hl : n = l.length) (hm : l.length ≤ 9223372036854775807) : IntsAt w (.slice (some ⟨g, 0, none⟩) n n) l := by
  subst hl
  refine ⟨_, _, rfl, Nat.le_refl _, rfl, hm, fun h0 => ⟨_, rfl, fun j p hj => ⟨[.int .i64 p], rfl, rfl, fun i u hu => ?_⟩⟩⟩
  have hi : i = 0 := by
    cases i with
    | zero => rfl
    | succ i => simp at hu
  subst hi
  obtain rfl : Value.int .i64 p = u := by simpa using hu
  show w.cell? (Addr.add ⟨g, 0, none⟩ (j * 1 + 0)) = _
  have ha : Addr.add ⟨g, 0, none⟩ (j * 1 + 0) = ⟨g, j, none⟩ := by
    unfold Addr.add
    split
    · rename_i h; have : j = 0 := by omega
      subst this; rfl
    · simp
  rw [ha, blk_cell hb, hc]
  simp [hj]

def pol (a b c d : Int) : Value := .agg #[.int .i64 a, .int .i64 b, .int .i64 c, .int .i64 d]

/-- What 'works' needs of the printed functions. -/
structure Needs : Prop where
  wait : ∀ w, Calls Try.prog 23 #[.agg #[.int .i64 5, .int .i64 10, .int .i64 3, .int .i64 50], .int .i64 2] w fun e w' => e = .returned (.tuple #[.int .i64 30, .int .i64 0]) ∧ Below w.heap.size w w'
  times : ∀ w, Calls Try.prog 10 #[.agg #[.int .i64 5, .int .i64 10, .int .i64 3, .int .i64 50], .int .i64 0] w fun e w' => ∃ v, e = .returned (.tuple #[v, .int .i64 0]) ∧ IntsAt w' v [0, 10, 40, 90, 140] ∧ Below w.heap.size w w'
  ints : ∀ w v u, IntsAt w v [0, 10, 40, 90, 140] → IntsAt w u [0, 10, 40, 90, 140] → Calls Try.prog 14 #[v, u] w fun e w' => e = .returned (.bool true) ∧ ∃ n, w' = w.drewN n

theorem below_chg {w1 w2 w4 : World} {S : Nat → Prop} (h : Below w1.heap.size w1 w2) (k : Chg S w2 w4) (hS : ∀ i, S i → w1.heap.size ≤ i) : Below w1.heap.size w1 w4 := Chg.below h k hS h.size

set_option maxRecDepth 100000 in
theorem works_any (hN : Needs) (w : World) : Calls Try.prog 15 #[] w fun e w' => e = .returned (.bool true) ∧ Below w.heap.size w w' := by
  have HN := Lib.hid hN
  clear hN
  go_enter Try.func15, Try.ntmps15
  go_wp2_with fail
  refine (HN.out.wait _).mono ?_
  rintro e w1 ⟨rfl, hb1⟩
  have HB := Lib.hid (((Below.refl w.heap.size w).alloc (Nat.le_refl _) _).trans (hb1.mono (by rw [World.size_alloc]; exact Nat.le_succ _)))
  have k1 := blk_below (blk_new w _) hb1
  have c0 : w1.cell? ⟨w.heap.size, 0, none⟩ = some (.int .i64 5) := (blk_cell k1 0).trans rfl
  have c1 : w1.cell? ⟨w.heap.size, 1, none⟩ = some (.int .i64 10) := (blk_cell k1 1).trans rfl
  have c2 : w1.cell? ⟨w.heap.size, 2, none⟩ = some (.int .i64 3) := (blk_cell k1 2).trans rfl
  have c3 : w1.cell? ⟨w.heap.size, 3, none⟩ = some (.int .i64 50) := (blk_cell k1 3).trans rfl
  clear hb1 k1
  go_wp2_with fail
  refine (HN.out.times _).mono ?_
  rintro e w2 ⟨v, rfl, hv, hb2⟩
  have HB2 := Lib.hid (HB.out.trans (hb2.mono HB.out.size))
  have HV := Lib.hid hv
  clear hb2 hv c0 c1 c2 c3 HB
  go_wp2_with fail
  refine (new_good _ 2 10 (by decide) (by decide)).mono ?_
  rintro e w3 ⟨b, m, rfl, kA, kM, kB, kb, km⟩
  have HA := Lib.hid (And.intro kA (And.intro kM (And.intro kB (And.intro kb km))))
  clear kA kM kB kb km
  go_wp2_with fail
  refine (ask_closed _ b m 0 (fresh 2 10) (.map []) 0 HA.out.1 HA.out.2.1 (by rfl) (by rfl) (by rfl) (by decide) (by unfold maxLen; omega) (by rfl)).mono ?_
  rintro e w4 ⟨he, -, -, k3⟩
  rw [show wrap64 ((fresh 2 10).tries + 1) = 1 from by show wrap64 (0 + 1) = 1; unfold wrap64; omega] at he
  subst he
  have hb4 : Below w2.heap.size w2 w4 := below_chg HA.out.2.2.1 k3 (fun i hi => by rcases hi with rfl | rfl; exact HA.out.2.2.2.1; exact HA.out.2.2.2.2)
  have HB4 := Lib.hid (HB2.out.trans (hb4.mono HB2.out.size))
  have HV4 := Lib.hid (HV.out.below hb4)
  clear hb4 k3 HA HB2 HV
  go_wp2_with fail
  have hv5 := HV4.out.below ((Below.refl w4.heap.size w4).alloc (Nat.le_refl _) (.cells #[.int .i64 0, .int .i64 10, .int .i64 40, .int .i64 90, .int .i64 140] 3))
  have hu5 := IntsAt.of_block (n := 5) [0, 10, 40, 90, 140] (blk_new w4 (.cells #[.int .i64 0, .int .i64 10, .int .i64 40, .int .i64 90, .int .i64 140] 3)) rfl rfl (by decide)
  refine (HN.out.ints _ _ _ hv5 hu5).mono ?_
  rintro e w5 ⟨rfl, n, rfl⟩
  have HB5 := Lib.hid (((HB4.out.alloc HB4.out.size (.cells #[.int .i64 0, .int .i64 10, .int .i64 40, .int .i64 90, .int .i64 140] 3))))
  clear hv5 hu5 HB4
  go_wp2_with fail
  go_ret
  exact ⟨rfl, HB5.out.trans (below_drewN _ _ |>.mono HB5.out.size)⟩
end Go.Proofs.Ytklccnnmdlckfaa.Br
