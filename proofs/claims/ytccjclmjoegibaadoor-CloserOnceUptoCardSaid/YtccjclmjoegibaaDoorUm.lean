/- What lies in memory while it is found whom each part uses. -/
import Derived.Test.YtccjclmjoegibaaDoorRu
import Derived.Test.YtccjclmjoegibaaDoorCk
namespace Go.Proofs.YtccjclmjoegibaaDoor.Ce
open Go.RowKit Go.Maps Go.Proofs.YtccjclmjoegibaaDoor Go.Proofs.YtccjclmjoegibaaDoorW.PrintWords Go.Proofs.YtccjclmjoegibaaDoorW.PrintLast Go.Proofs.YtccjclmjoegibaaDoorW.PrintMore PCloserOrders Hp
set_option linter.unusedVariables false
set_option linter.unusedSimpArgs false
structure UM (w wr : World) (gm : Nat) (l : List S33) (i : Nat) (M : List (List Bool)) : Prop where
  blk : ∃ cur, wr.heap[gm]? = some (.cells cur 34 (0, 0)) ∧ l.length ≤ cur.size ∧ ∀ (j : Nat) x, M[j]? = some x → ∃ v, cur[j]? = some v ∧ Kd.R Kd.bool 4 wr w.heap.size (fun _ => True) v x
  len : M.length = i
  gmb : w.heap.size ≤ gm
  bel : Below w.heap.size w wr
  rows : ∀ (j : Nat) x, M[j]? = some x → x.length = l.length ∧ ∀ k : Int, 0 ≤ k → k < l.length → (rdOf false x k = true ↔ Rch l j k)
structure UC (w wr : World) (gm B : Nat) (l : List S33) (i : Nat) (M : List (List Bool)) (gr capr : Nat) (row : List Bool) (vt : Value) (todo : List Int) : Prop where
  blk : ∃ cur, wr.heap[gm]? = some (.cells cur 34 (0, 0)) ∧ l.length ≤ cur.size ∧ cur[i]? = some (.slice (some ⟨gr, 0, none⟩) l.length capr) ∧ ∀ (j : Nat) x, M[j]? = some x → ∃ v, cur[j]? = some v ∧ Kd.R Kd.bool 4 wr w.heap.size (fun k => k < B) v x
  row : Kd.R Kd.bool 4 wr w.heap.size (fun k => B ≤ k) (.slice (some ⟨gr, 0, none⟩) l.length capr) row
  todo : Kd.R (Kd.int .i64) 3 wr w.heap.size (fun _ => True) vt todo
  gmb : w.heap.size ≤ gm
  bel : Below w.heap.size w wr
section
variable {w wr : World} {gm B : Nat} {l : List S33} {i : Nat} {M : List (List Bool)} {gr capr : Nat} {row : List Bool} {vt : Value} {todo : List Int}
theorem UM.cell {w5 : World} (H : UM w wr gm l i M) (hi : i < l.length) (hb : Below wr.heap.size wr w5) : (∃ u, w5.cell? ⟨gm, i, none⟩ = some u) ∧ w5.frozen? ⟨gm, i, none⟩ = false := by
  obtain ⟨cur, h1, h2, _⟩ := H.blk
  have h5 := blk_below h1 hb
  refine ⟨⟨cur[i], ?_⟩, blk_frozen h5 i⟩
  rw [blk_cell h5, Array.getElem?_eq_getElem (by omega)]
theorem UM.begin {w5 w7 : World} (H : UM w wr gm l i M) (hi : i < l.length) (hb : Below wr.heap.size wr w5) (hr : Kd.R Kd.bool 4 w5 wr.heap.size (fun _ => True) (.slice (some ⟨gr, 0, none⟩) l.length capr) row)
    (hb7 : Below w5.heap.size (w5.setCell ⟨gm, i, none⟩ (.slice (some ⟨gr, 0, none⟩) l.length capr)) w7) (ht : Kd.R (Kd.int .i64) 3 w7 w5.heap.size (fun _ => True) vt todo) : UC w w7 gm wr.heap.size l i M gr capr row vt todo := by
  obtain ⟨cur, h1, h2, h3⟩ := H.blk
  have h5 := blk_below h1 hb
  have h6 := blk_set h5 i (.slice (some ⟨gr, 0, none⟩) l.length capr)
  have hs6 : (w5.setCell ⟨gm, i, none⟩ (.slice (some ⟨gr, 0, none⟩) l.length capr)).heap.size = w5.heap.size := by simp [World.setCell]
  have hb7' : Below (w5.setCell ⟨gm, i, none⟩ (.slice (some ⟨gr, 0, none⟩) l.length capr)).heap.size (w5.setCell ⟨gm, i, none⟩ (.slice (some ⟨gr, 0, none⟩) l.length capr)) w7 := by rw [hs6]; exact hb7
  have h7 := blk_below h6 hb7'
  have hw5 := below_step H.bel hb
  have hw6 : Below w.heap.size w (w5.setCell ⟨gm, i, none⟩ (.slice (some ⟨gr, 0, none⟩) l.length capr)) := Chg.below hw5 ((Chg.refl (· = gm) w5).setCell (p := ⟨gm, i, none⟩) rfl _) (fun k e => by have := H.gmb; omega) hw5.size
  refine ⟨⟨_, h7, by simpa using h2, ?_, fun j x hj => ?_⟩, ?_, Kd.R_lower ht hw5.size, H.gmb, below_step hw6 hb7'⟩
  · rw [Array.getElem?_setIfInBounds_self_of_lt (by omega)]
  · obtain ⟨v, e1, e2⟩ := h3 j x hj
    have hjl : j < i := by
      have := H.len
      rcases Nat.lt_or_ge j M.length with q | q
      · omega
      · rw [List.getElem?_eq_none q] at hj; exact absurd hj (by simp)
    refine ⟨v, by rw [Array.getElem?_setIfInBounds_ne (by omega)]; exact e1, ?_⟩
    have r1 := Kd.R_mono (Kd.R_bound e2) (ok' := fun k => k < wr.heap.size) (fun k q => q.2.2.1)
    exact Kd.R_below (Kd.R_set (Kd.R_below r1 hb) h5 (by decide) i _) hb7'
  · have r1 := Kd.R_mono (Kd.R_bound hr) (ok' := fun k => wr.heap.size ≤ k) (fun k q => q.2.1)
    exact Kd.R_lower (Kd.R_below (Kd.R_set r1 h5 (by decide) i _) hb7') H.bel.size
theorem UC.below {w2 : World} (H : UC w wr gm B l i M gr capr row vt todo) (hb : Below wr.heap.size wr w2) : UC w w2 gm B l i M gr capr row vt todo := by
  obtain ⟨cur, h1, h2, h3, h4⟩ := H.blk
  exact ⟨⟨cur, blk_below h1 hb, h2, h3, fun j x hj => (h4 j x hj).elim fun v hv => ⟨v, hv.1, Kd.R_below hv.2 hb⟩⟩, Kd.R_below H.row hb, Kd.R_below H.todo hb, H.gmb, below_step H.bel hb⟩
theorem UC.mcell (H : UC w wr gm B l i M gr capr row vt todo) : wr.cell? ⟨gm, i, none⟩ = some (.slice (some ⟨gr, 0, none⟩) l.length capr) := by
  obtain ⟨cur, h1, h2, h3, h4⟩ := H.blk
  rw [blk_cell h1, h3]
theorem UC.rcell (H : UC w wr gm B l i M gr capr row vt todo) (b : Int) (h0 : 0 ≤ b) (h1 : b < l.length) : wr.cell? ⟨gr, b.toNat, none⟩ = some (.bool (rdOf false row b)) ∧ wr.frozen? ⟨gr, b.toNat, none⟩ = false :=
  Kd.R_celln false H.row b h0 h1
theorem UC.pop {B7 : Option Addr} {n d7 : Nat} (H : UC w wr gm B l i M gr capr row (.slice B7 n d7) todo) (m : Nat) (hm : m ≤ todo.length) : UC w wr gm B l i M gr capr row (.slice B7 m d7) (todo.take m) :=
  ⟨H.blk, H.row, Kd.R_take H.todo hm, H.gmb, H.bel⟩
theorem UC.mark (H : UC w wr gm B l i M gr capr row vt todo) (b : Int) : UC w (wr.setCell ⟨gr, b.toNat, none⟩ (.bool true)) gm B l i M gr capr (row.set b.toNat true) vt todo := by
  obtain ⟨cur, h1, h2, h3, h4⟩ := H.blk
  obtain ⟨cs, hcs⟩ := Kd.R_typed H.row gr rfl
  have hgB := H.row.1 gr rfl
  have hgb := Kd.R_base H.row gr rfl
  have hne : gm ≠ gr := fun e => by
    rw [← e, h1] at hcs
    injection hcs with hcs
    injection hcs with _ h2 _
    exact absurd h2 (by decide)
  have hc : Chg (· = gr) wr (wr.setCell ⟨gr, b.toNat, none⟩ (.bool true)) := (Chg.refl (· = gr) wr).setCell (p := ⟨gr, b.toNat, none⟩) rfl _
  refine ⟨⟨cur, blk_chg h1 hc hne, h2, h3, fun j x hj => ?_⟩, Kd.R_putn H.row b true, Kd.R_set H.todo hcs (by decide) b.toNat (.bool true), H.gmb, Chg.below H.bel hc (fun k e => by omega) H.bel.size⟩
  obtain ⟨v, e1, e2⟩ := h4 j x hj
  exact ⟨v, e1, Kd.R_far e2 (p := ⟨gr, b.toNat, none⟩) (fun k hk e => by have : k = gr := e; omega) _⟩
theorem UC.grown {w7 : World} {vt' : Value} {todo' : List Int} (H : UC w wr gm B l i M gr capr row vt todo) (hr : Kd.R (Kd.int .i64) 3 w7 w.heap.size (fun _ => True) vt' todo') (hb : Below w.heap.size w w7) (hg : wr.grownBy w7 vt.ownBlock) : UC w w7 gm B l i M gr capr row vt' todo' := by
  obtain ⟨cur, h1, h2, h3, h4⟩ := H.blk
  have hty := Kd.R_typed H.todo
  have hne : some gm ≠ vt.ownBlock := fun e => by
    obtain ⟨cs, hcs⟩ := hty gm e.symm
    rw [h1] at hcs
    injection hcs with hcs
    injection hcs with _ h2 _
    exact absurd h2 (by decide)
  exact ⟨⟨cur, (hg.block gm (blk_lt h1) hne).trans h1, h2, h3, fun j x hj => (h4 j x hj).elim fun v hv => ⟨v, hv.1, Kd.R_over' hv.2 hty (by decide) hg⟩⟩, Kd.R_over' H.row hty (by decide) hg, hr, H.gmb, hb⟩
theorem UC.finish (H : UC w wr gm B l i M gr capr row vt todo) (hM : M.length = i) (hrl : row.length = l.length) (hrr : ∀ k : Int, 0 ≤ k → k < l.length → (rdOf false row k = true ↔ Rch l (i : Int) k))
    (hrows : ∀ (j : Nat) x, M[j]? = some x → x.length = l.length ∧ ∀ k : Int, 0 ≤ k → k < l.length → (rdOf false x k = true ↔ Rch l j k)) : UM w wr gm l (i + 1) (M ++ [row]) := by
  obtain ⟨cur, h1, h2, h3, h4⟩ := H.blk
  have hsplit : ∀ (j : Nat) x, (M ++ [row])[j]? = some x → M[j]? = some x ∨ j = i ∧ x = row := fun j x hj => by
    rcases Nat.lt_or_ge j M.length with q | q
    · rw [List.getElem?_append_left q] at hj; exact .inl hj
    · rw [List.getElem?_append_right q] at hj
      have : j - M.length = 0 := by
        rcases Nat.eq_zero_or_pos (j - M.length) with z | z
        · exact z
        · rw [List.getElem?_eq_none (by simp; omega)] at hj; exact absurd hj (by simp)
      rw [this] at hj
      simp at hj
      exact .inr ⟨by omega, hj.symm⟩
  refine ⟨⟨cur, h1, h2, fun j x hj => ?_⟩, by simp [hM], H.gmb, H.bel, fun j x hj => ?_⟩
  · rcases hsplit j x hj with q | ⟨rfl, rfl⟩
    · obtain ⟨v, e1, e2⟩ := h4 j x q
      exact ⟨v, e1, Kd.R_mono e2 (fun _ _ => trivial)⟩
    · exact ⟨_, h3, Kd.R_mono H.row (fun _ _ => trivial)⟩
  · rcases hsplit j x hj with q | ⟨rfl, rfl⟩
    · exact hrows j x q
    · exact ⟨hrl, hrr⟩
theorem UM.reads (H : UM w wr gm l l.length M) (hm : l.length ≤ 1000000) : Kd.C (Kd.slice 4 Kd.bool) wr (some ⟨gm, 0, none⟩) M.length M := by
  obtain ⟨cur, h1, h2, h3⟩ := H.blk
  refine ⟨rfl, by rw [H.len]; (try unfold maxLen); omega, fun _ => ⟨⟨gm, 0, none⟩, rfl, fun j x hj => ?_⟩⟩
  obtain ⟨v, e1, e2⟩ := h3 j x hj
  obtain ⟨A0, c0, rfl, l0, g0⟩ := Kd.R_reads e2
  refine ⟨[.slice A0 x.length c0], rfl, ⟨A0, c0, rfl, l0, g0⟩, fun k u hu => ?_⟩
  cases k with
  | zero =>
    simp at hu
    subst hu
    have e : (⟨gm, 0, none⟩ : Addr).add (j * (Kd.slice 4 Kd.bool).sz + 0) = ⟨gm, j, none⟩ := by
      show (⟨gm, 0, none⟩ : Addr).add (j * 1 + 0) = ⟨gm, j, none⟩
      unfold Addr.add
      split
      · rename_i h2
        have : j = 0 := by omega
        subst this
        rfl
      · simp
    rw [e, blk_cell h1, e1]
  | succ k => simp at hu
end
end Go.Proofs.YtccjclmjoegibaaDoor.Ce
