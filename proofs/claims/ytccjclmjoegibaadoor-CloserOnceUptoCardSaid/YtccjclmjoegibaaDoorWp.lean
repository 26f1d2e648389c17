/- One part being turned: its box, the uses that grow in it, the row of parts turned before it. -/
import Derived.Test.YtccjclmjoegibaaDoorOn
namespace Go.Proofs.YtccjclmjoegibaaDoor.Ce
open Go.RowKit Go.Maps Go.Proofs.YtccjclmjoegibaaDoor Go.Proofs.YtccjclmjoegibaaDoorW.PrintWords Go.Proofs.YtccjclmjoegibaaDoorW.PrintLast Go.Proofs.YtccjclmjoegibaaDoorW.PrintMore PCloserOrders Hp
set_option linter.unusedVariables false
def boxV (x : S33) (vu : Value) : Array Value := #[.int .i64 x.f0, .string x.f1, .bool x.f2, .int .i64 x.f3, vu, .int .i64 x.f5.f0, .string x.f5.f1]
structure TB (w3 w : World) (pb : Nat) (x : S33) (v14 : Value) (tl : List S33) (vu : Value) (us : List Int) : Prop where
  base : w3.heap.size ≤ pb
  blk : w.heap[pb]? = some (.cells (boxV x vu) 33 (0, 0))
  row : Kd.R (Kd.int .i64) 3 w w3.heap.size (fun k => pb < k) vu us
  tur : Kd.R k33 33 w w3.heap.size (fun k => k < pb) v14 tl
  bel : Below w3.heap.size w3 w
theorem TB.start {w3 w : World} {x : S33} {v14 : Value} {tl : List S33} (hb : Below w3.heap.size w3 w) (hr : Kd.R k33 33 w w3.heap.size (fun _ => True) v14 tl) : TB w3 (w.alloc (.cells (boxV x (.slice none 0 0)) 33)) w.heap.size x v14 tl (.slice none 0 0) [] :=
  ⟨hb.size, blk_new w _, Kd.R_nil _ _ _ _ _, Kd.R_alloc (Kd.R_mono (Kd.R_bound hr) (fun k hk => hk.2.2.1)) _, below_alloc hb _⟩
theorem TB.below {w3 w w' : World} {pb : Nat} {x : S33} {v14 vu : Value} {tl : List S33} {us : List Int} (h : TB w3 w pb x v14 tl vu us) (hb : Below w.heap.size w w') : TB w3 w' pb x v14 tl vu us :=
  ⟨h.base, blk_below h.blk hb, Kd.R_below h.row hb, Kd.R_below h.tur hb, below_step h.bel hb⟩
theorem TB.cells {w3 w : World} {pb : Nat} {x : S33} {v14 vu : Value} {tl : List S33} {us : List Int} (h : TB w3 w pb x v14 tl vu us) :
    w.cell? ⟨pb, 0, none⟩ = some (.int .i64 x.f0) ∧ w.cell? ⟨pb, 1, none⟩ = some (.string x.f1) ∧ w.cell? ⟨pb, 2, none⟩ = some (.bool x.f2) ∧ w.cell? ⟨pb, 3, none⟩ = some (.int .i64 x.f3) ∧ w.cell? ⟨pb, 4, none⟩ = some vu ∧ w.cell? ⟨pb, 5, none⟩ = some (.int .i64 x.f5.f0) ∧ w.cell? ⟨pb, 6, none⟩ = some (.string x.f5.f1) :=
  ⟨(blk_cell h.blk 0).trans rfl, (blk_cell h.blk 1).trans rfl, (blk_cell h.blk 2).trans rfl, (blk_cell h.blk 3).trans rfl, (blk_cell h.blk 4).trans rfl, (blk_cell h.blk 5).trans rfl, (blk_cell h.blk 6).trans rfl⟩
theorem TB.lt {w3 w : World} {pb : Nat} {x : S33} {v14 vu : Value} {tl : List S33} {us : List Int} (h : TB w3 w pb x v14 tl vu us) : pb < w.heap.size := blk_lt h.blk
theorem TB.pushed {w3 w w7 : World} {pb : Nat} {x : S33} {v14 vu v' : Value} {tl : List S33} {us us' : List Int} (h : TB w3 w pb x v14 tl vu us) (hr : Kd.R (Kd.int .i64) 3 w7 w3.heap.size (fun k => pb < k) v' us') (hb7 : Below w3.heap.size w3 w7) (hg : w.grownBy w7 vu.ownBlock) :
    TB w3 (w7.setCell ⟨pb, 4, none⟩ v') pb x v14 tl v' us' ∧ w7.cell? ⟨pb, 4, none⟩ = some vu ∧ w7.frozen? ⟨pb, 4, none⟩ = false := by
  have hne : some pb ≠ vu.ownBlock := fun e => by have := h.row.1 pb e.symm; omega
  have hblk : w7.heap[pb]? = some (.cells (boxV x vu) 33 (0, 0)) := (hg.block pb h.lt hne).trans h.blk
  have hc : Chg (· = pb) w7 (w7.setCell ⟨pb, 4, none⟩ v') := (Chg.refl (· = pb) w7).setCell (p := ⟨pb, 4, none⟩) rfl _
  refine ⟨⟨h.base, (blk_set hblk 4 v').trans rfl, Kd.R_far hr (p := ⟨pb, 4, none⟩) (fun k hk => by show k ≠ pb; omega) v', Kd.R_far (Kd.R_grown h.tur hg (fun k hk e => by have := h.row.1 k e.symm; omega)) (p := ⟨pb, 4, none⟩) (fun k hk => by show k ≠ pb; omega) v', Chg.below hb7 hc (fun k e => by have := h.base; omega) hb7.size⟩, (blk_cell hblk 4).trans rfl, blk_frozen hblk 4⟩
theorem TB.done {w3 w : World} {pb : Nat} {x : S33} {v14 vu : Value} {tl : List S33} {us : List Int} (h : TB w3 w pb x v14 tl vu us) : k33.M w w3.heap.size (fun k => pb < k) { x with f4 := us } [.int .i64 x.f0, .string x.f1, .bool x.f2, .int .i64 x.f3, vu, .int .i64 x.f5.f0, .string x.f5.f1] :=
  k33_mkM w w3.heap.size (fun k => pb < k) { x with f4 := us } h.row
theorem turn_take (l : List S33) (j : Nat) (hj : j < l.length) (X : Int) (hX : X = (l.length : Int) - 1 - j) : (turnL l).take (j + 1) = (turnL l).take j ++ [{ rd_T33 l X with f4 := (rd_T33 l X).f4.map fun u => (l.length : Int) - 1 - u }] := by
  have h1 := turn_rd l (j : Int) (by omega) (by omega)
  have hlt : j < (turnL l).length := by rw [turn_len]; exact hj
  rw [List.take_add_one, List.getElem?_eq_getElem hlt]
  have h2 : (turnL l)[j] = rd_T33 (turnL l) (j : Int) := by simp [rd_T33, hlt]
  rw [h2, h1, ← hX]
  rfl
theorem rd_mem33 (l : List S33) (X : Int) (h0 : 0 ≤ X) (h1 : X < l.length) : rd_T33 l X ∈ l := by
  have hlt : X.toNat < l.length := by omega
  have h2 : rd_T33 l X = l[X.toNat] := by simp [rd_T33, hlt]
  rw [h2]
  exact List.getElem_mem hlt
theorem uses_take (l : List Int) (n : Int) (k : Nat) (hk : k < l.length) : (l.take (k + 1)).map (fun u => n - 1 - u) = (l.take k).map (fun u => n - 1 - u) ++ [n - 1 - rd l (k : Int)] := by
  rw [List.take_add_one, List.getElem?_eq_getElem hk, rd_nat, Int.toNat_natCast, at_get l k hk, List.map_append]
  rfl
end Go.Proofs.YtccjclmjoegibaaDoor.Ce
