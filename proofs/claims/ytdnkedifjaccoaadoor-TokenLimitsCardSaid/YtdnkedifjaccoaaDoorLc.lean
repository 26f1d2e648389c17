/- What the rows' condition on the three listed variables gives a walk. -/
import Derived.Test.YtdnkedifjaccoaaDoorFg
import Derived.Test.YtdnkedifjaccoaaDoorRows
import Derived.ProofKit
import Derived.LaidMore
import Derived.OpenShut
import Derived.ShutString
import Derived.Stop.Joined
namespace Go.Proofs.YtdnkedifjaccoaaDoor
open Go.ChangeShapes Go.WideShapes Go.ChangeAt Go.RowKit
def laidL : List (String × DataW Unit) := [("onceweb/lex.keys", Rows.laid_onceweb_lex_keys), ("onceweb/fail.sorts", Rows.laid_onceweb_fail_sorts), ("onceweb/fail.values", Rows.laid_onceweb_fail_values)]
theorem gKeys : Tryd.prog.globalNamed "onceweb/lex.keys" = some 0 := by kernel_rfl
theorem gSorts : Tryd.prog.globalNamed "onceweb/fail.sorts" = some 1 := by kernel_rfl
theorem gValues : Tryd.prog.globalNamed "onceweb/fail.values" = some 2 := by kernel_rfl
theorem tKeys : (Tryd.prog.globals[0]?).map (·.type) = some 113 := by kernel_rfl
theorem tSorts : (Tryd.prog.globals[1]?).map (·.type) = some 121 := by kernel_rfl
theorem tValues : (Tryd.prog.globals[2]?).map (·.type) = some 122 := by kernel_rfl
theorem door_met (os : Os) (args : Array Value) : laidMetH Tryd.prog laidL ((World.doorLaid Tryd.prog 400 os).forCall (fun _ _ => 0) ⟨#[], args, []⟩).memory :=
  laidMetH_of_parts3 (fuel := 8) (laidMet_of_run' 8 (by kernel_rfl) (by kernel_rfl)) (by kernel_rfl) (by kernel_rfl)
section
variable {H : Type} {enc : TypeId × Value → H} {P : Program} {w : World} {base : Nat} {spare : Nat → Bool} {held : Bool} {fuel : Nat} {t e : TypeId} {cs : List Value} {x : DataW H × List MemPlace}
theorem arr_str {l : List ByteArray} (ht : P.underlying t = some (.array l.length e)) (he : P.underlying e = some .string) (hc : P.cellsOf e = 1) (h : DataW.trod enc P w base spare held fuel t cs = some x) (hx : x.1 = .agg (l.map fun s => .lit (.string s.data.toList))) : ∀ j : Nat, j < l.length → cs[j]? = (l.map Value.string)[j]? := by
  intro j hj
  obtain ⟨xs, m, _, rfl, _, hn, hel⟩ := DataW.trod_array ht h
  have h0 := hel j hj
  rw [hc, Nat.mul_one] at h0
  rw [List.getElem?_eq_getElem (by omega)] at h0
  obtain ⟨s, e1, e2, _⟩ := DataW.trod_string he h0
  simp only [DataW.agg.injEq] at hx
  have h1 : (xs.map (·.1))[j]? = (l.map fun s => DataW.lit (.string s.data.toList))[j]? := by rw [hx]
  rw [List.getElem?_map, List.getElem?_map, List.getElem?_eq_getElem (by omega), List.getElem?_eq_getElem hj] at h1
  simp only [Option.map_some, Option.some.injEq] at h1
  rw [e2] at h1
  simp only [DataW.lit.injEq, Lit.string.injEq] at h1
  have hs : s = l[j] := by
    cases s; rename_i d
    generalize l[j] = q at h1
    cases q; rename_i d'
    simp only [ByteArray.mk.injEq]
    exact Array.toList_inj.1 h1
  have h2 : cs[j]? = (List.take 1 (cs.drop j))[0]? := by
    rw [List.getElem?_take, if_pos (by decide), List.getElem?_drop, Nat.add_zero]
  rw [h2, e1, List.getElem?_map, List.getElem?_eq_getElem hj, hs]
  rfl
theorem arr_int {l : List Int} (ht : P.underlying t = some (.array l.length e)) (he : P.underlying e = some (.int .i64)) (hc : P.cellsOf e = 1) (h : DataW.trod enc P w base spare held fuel t cs = some x) (hx : x.1 = .agg (l.map fun s => .lit (.int .i64 s))) : ∀ j : Nat, j < l.length → cs[j]? = (l.map (Value.int .i64))[j]? := by
  intro j hj
  obtain ⟨xs, m, _, rfl, _, hn, hel⟩ := DataW.trod_array ht h
  have h0 := hel j hj
  rw [hc, Nat.mul_one] at h0
  rw [List.getElem?_eq_getElem (by omega)] at h0
  obtain ⟨k, e1, e2, _⟩ := DataW.trod_int he h0
  simp only [DataW.agg.injEq] at hx
  have h1 : (xs.map (·.1))[j]? = (l.map fun s => DataW.lit (.int .i64 s))[j]? := by rw [hx]
  rw [List.getElem?_map, List.getElem?_map, List.getElem?_eq_getElem (by omega), List.getElem?_eq_getElem hj] at h1
  simp only [Option.map_some, Option.some.injEq] at h1
  rw [e2] at h1
  simp only [DataW.lit.injEq, Lit.int.injEq, true_and] at h1
  have h2 : cs[j]? = (List.take 1 (cs.drop j))[0]? := by
    rw [List.getElem?_take, if_pos (by decide), List.getElem?_drop, Nat.add_zero]
  rw [h2, e1, List.getElem?_map, List.getElem?_eq_getElem hj, h1]
  rfl
end
theorem of_laid {W : World} (h : laidMetH Tryd.prog laidL W) : Ce.LaidF W := by
  rw [MakeChecks.laidMetH_plain _ _ _ (by kernel_rfl)] at h
  obtain ⟨ps, ⟨g0, t0, cs0, f0, p0, q0, hg0, ht0, hv0, hd0, ⟨g1, t1, cs1, f1, p1, q1, hg1, ht1, hv1, hd1, ⟨g2, t2, cs2, f2, p2, q2, hg2, ht2, hv2, hd2, _, _⟩, _⟩, _⟩, _, _⟩ := h
  obtain rfl := Option.some.inj (gKeys.symm.trans hg0)
  obtain rfl := Option.some.inj (gSorts.symm.trans hg1)
  obtain rfl := Option.some.inj (gValues.symm.trans hg2)
  obtain rfl := Option.some.inj (tKeys.symm.trans ht0)
  obtain rfl := Option.some.inj (tSorts.symm.trans ht1)
  obtain rfl := Option.some.inj (tValues.symm.trans ht2)
  have k0 := arr_str (l := Ce.keysL) Tryd.underlying113 Tryd.underlying9 (by kernel_rfl) hd0 rfl
  have k1 := arr_int (l := Ce.sortsL) Tryd.underlying121 Tryd.underlying3 (by kernel_rfl) hd1 rfl
  have k2 := arr_str (l := Ce.valuesL) Tryd.underlying122 Tryd.underlying9 (by kernel_rfl) hd2 rfl
  have l0 := fun j => World.var?_cell hg0 hv0 j
  have l1 := fun j => World.var?_cell hg1 hv1 j
  have l2 := fun j => World.var?_cell hg2 hv2 j
  refine ⟨⟨fun j hj => ?_, ?_⟩, fun j hj => ?_, fun j hj => ?_, ?_⟩
  · rw [l0 j, ← k0 j hj, Array.getElem?_toList]
  · have h9 := l0 0
    have h8 := k0 0 (by decide)
    rw [Array.getElem?_toList] at h8
    rw [h8] at h9
    rcases Nat.lt_or_ge 0 W.heap.size with h7 | h7
    · exact h7
    · simp [World.cell?, Array.getElem?_eq_none h7] at h9
      exact absurd h9 (by decide)
  · rw [l1 j, ← k1 j hj, Array.getElem?_toList]
  · rw [l2 j, ← k2 j hj, Array.getElem?_toList]
  · have h9 := l2 0
    have h8 := k2 0 (by decide)
    rw [Array.getElem?_toList] at h8
    rw [h8] at h9
    rcases Nat.lt_or_ge 2 W.heap.size with h7 | h7
    · exact h7
    · simp [World.cell?, Array.getElem?_eq_none h7] at h9
      exact absurd h9 (by decide)
end Go.Proofs.YtdnkedifjaccoaaDoor
