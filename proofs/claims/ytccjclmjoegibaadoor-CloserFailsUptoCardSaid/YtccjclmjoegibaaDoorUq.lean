/- Whom each part uses, at once or by way of others, as the document finds it: a queue of those that are still to be looked at; in plain Lean, in memory, and the walk. -/
import Derived.Test.YtccjclmjoegibaaDoorCc
namespace Go.Proofs.YtccjclmjoegibaaDoor.Ce
open Go.RowKit Go.Maps Go.Proofs.YtccjclmjoegibaaDoor Go.Proofs.YtccjclmjoegibaaDoorW.PrintWords Go.Proofs.YtccjclmjoegibaaDoorW.PrintLast Go.Proofs.YtccjclmjoegibaaDoorW.PrintMore PCloserOrders Hp
attribute [local go_sem] max2_int min2_int max_two min_two max_three min_three max_four min_four
set_option linter.unusedVariables false
set_option linter.unusedSimpArgs false
def fal : List Bool → Nat
 | [] => 0
 | x :: r => (if x then 0 else 1) + fal r
theorem fal_rep (n : Nat) : fal (List.replicate n false) = n := by
 induction n with
 | zero => rfl
 | succ n ih => rw [List.replicate_succ, fal, ih]; simp; omega
theorem fal_set : ∀ (row : List Bool) (n : Nat), n < row.length → row.getD n false = false → fal (row.set n true) + 1 = fal row
 | [], n, h, _ => by simp at h
 | x :: r, 0, h, e => by simp at e; subst e; simp [fal]; omega
 | x :: r, n + 1, h, e => by
  have := fal_set r n (by simpa using h) (by simpa using e)
  rw [List.set_cons_succ, fal, fal]; omega
theorem fal_le : ∀ (row : List Bool), fal row ≤ row.length
 | [] => Nat.le_refl _
 | x :: r => by have := fal_le r; rw [fal, List.length_cons]; split <;> omega
structure DQ (l : List S33) (i : Int) (row : List Bool) (todo : List Int) : Prop where
 rl : row.length = l.length
 tr : ∀ x ∈ todo, x = i ∨ Rch l i x
 rr : ∀ k : Int, 0 ≤ k → k < l.length → rdOf false row k = true → Rch l i k
 c0 : i ∈ todo ∨ ∀ x ∈ usesOf l i, rdOf false row x = true
 c1 : ∀ k : Int, 0 ≤ k → k < l.length → rdOf false row k = true → k ∈ todo ∨ ∀ x ∈ usesOf l k, rdOf false row x = true
structure DK (l : List S33) (i a : Int) (j : Nat) (row : List Bool) (todo : List Int) : Prop where
 rl : row.length = l.length
 tr : ∀ x ∈ todo, x = i ∨ Rch l i x
 rr : ∀ k : Int, 0 ≤ k → k < l.length → rdOf false row k = true → Rch l i k
 ar : a = i ∨ Rch l i a
 dn : ∀ x ∈ (usesOf l a).take j, rdOf false row x = true
 c0 : i = a ∨ i ∈ todo ∨ ∀ x ∈ usesOf l i, rdOf false row x = true
 c1 : ∀ k : Int, 0 ≤ k → k < l.length → rdOf false row k = true → k = a ∨ k ∈ todo ∨ ∀ x ∈ usesOf l k, rdOf false row x = true
theorem DQ.start (l : List S33) (i : Int) : DQ l i (List.replicate l.length false) [i] := by
 have hf : ∀ k : Int, rdOf false (List.replicate l.length false) k = false := fun k => by
  unfold rdOf
  simp [List.getD, List.getElem?_replicate]
  split <;> rfl
 exact ⟨by simp, fun x hx => .inl (List.mem_singleton.1 hx), fun k _ _ h => by rw [hf] at h; exact absurd h (by decide), .inl (by simp), fun k _ _ h => by rw [hf] at h; exact absurd h (by decide)⟩
theorem DQ.pop {l : List S33} {i a : Int} {row : List Bool} {r : List Int} (D : DQ l i row (a :: r)) : DK l i a 0 row r :=
 ⟨D.rl, fun x hx => D.tr x (List.mem_cons_of_mem _ hx), D.rr, D.tr a List.mem_cons_self, fun x hx => absurd hx (by simp), D.c0.elim (fun q => (List.mem_cons.1 q).elim .inl (fun z => .inr (.inl z))) (fun q => .inr (.inr q)), fun k h0 h1 h2 => (D.c1 k h0 h1 h2).elim (fun q => (List.mem_cons.1 q).elim .inl (fun z => .inr (.inl z))) (fun q => .inr (.inr q))⟩
theorem DK.done {l : List S33} {i a : Int} {row : List Bool} {todo : List Int} {j : Nat} (D : DK l i a j row todo) (hj : (usesOf l a).length ≤ j) : DQ l i row todo := by
 have hd : ∀ x ∈ usesOf l a, rdOf false row x = true := fun x hx => D.dn x (by rw [List.take_of_length_le hj]; exact hx)
 exact ⟨D.rl, D.tr, D.rr, D.c0.elim (fun q => .inr (by rw [q]; exact hd)) id, fun k h0 h1 h2 => (D.c1 k h0 h1 h2).elim (fun q => .inr (by rw [q]; exact hd)) id⟩
theorem take_succ_at {xs : List Int} {j : Nat} (h : j < xs.length) {x : Int} (hx : x ∈ xs.take (j + 1)) : x ∈ xs.take j ∨ x = at_ xs j := by
 rw [List.take_add_one, List.getElem?_eq_getElem h] at hx
 rcases List.mem_append.1 hx with q | q
 ·exact .inl q
 ·rw [at_get xs j h]; exact .inr (by simpa using q)
theorem DK.skip {l : List S33} {i a : Int} {j : Nat} {row : List Bool} {todo : List Int} (D : DK l i a j row todo) (hj : j < (usesOf l a).length) (hs : rdOf false row (at_ (usesOf l a) j) = true) : DK l i a (j + 1) row todo :=
 ⟨D.rl, D.tr, D.rr, D.ar, fun x hx => (take_succ_at hj hx).elim (D.dn x) (fun q => by rw [q]; exact hs), D.c0, D.c1⟩
theorem DK.bRch {l : List S33} {i a : Int} {j : Nat} {row : List Bool} {todo : List Int} (D : DK l i a j row todo) (hj : j < (usesOf l a).length) : Rch l i (at_ (usesOf l a) j) := by
 have hm : at_ (usesOf l a) j ∈ usesOf l a := by rw [at_get _ j hj]; exact List.getElem_mem _
 rcases D.ar with q | q
 ·rw [← q]; exact .one hm
 ·exact .more q hm
theorem DK.mark {l : List S33} (V : Valid l) {i a : Int} (i0 : 0 ≤ i) (i1 : i < l.length) {j : Nat} {row : List Bool} {todo : List Int} (D : DK l i a j row todo) (hj : j < (usesOf l a).length) :
  DK l i a (j + 1) (row.set (at_ (usesOf l a) j).toNat true) (todo ++ [at_ (usesOf l a) j]) := by
 have hr := D.bRch hj
 obtain ⟨b0, b1⟩ := hr.rng V i0 i1
 obtain ⟨b, hbe⟩ : ∃ b, b = at_ (usesOf l a) j := ⟨_, rfl⟩
 rw [← hbe] at hr b0 b1 ⊢
 have hset := fun k (hk : 0 ≤ k) => rdOf_set row b true k (by have := D.rl; omega) b0 hk
 have up : ∀ x, 0 ≤ x → rdOf false row x = true → rdOf false (row.set b.toNat true) x = true := fun x h0 h => by rw [hset x h0]; split <;> first | rfl | exact h
 have hb : rdOf false (row.set b.toNat true) b = true := by rw [hset b b0, if_pos rfl]
 have a0 : 0 ≤ a ∧ a < l.length := D.ar.elim (fun q => by rw [q]; exact ⟨i0, i1⟩) (fun q => q.rng V i0 i1)
 have hin : ∀ x ∈ (usesOf l a).take j, 0 ≤ x := fun x hx => (V a a0.1 a0.2 x (List.mem_of_mem_take hx)).1
 refine ⟨by rw [List.length_set]; exact D.rl, fun x hx => ?_, fun k h0 h1 h2 => ?_, D.ar, fun x hx => ?_, ?_, fun k h0 h1 h2 => ?_⟩
 ·rcases List.mem_append.1 hx with q | q
  ·exact D.tr x q
  ·rw [List.mem_singleton.1 q]; exact .inr hr
 ·rw [hset k h0] at h2
  by_cases e : k = b
  ·rw [e]; exact hr
  ·rw [if_neg e] at h2; exact D.rr k h0 h1 h2
 ·rcases take_succ_at hj hx with q | q
  ·exact up x (hin x q) (D.dn x q)
  ·rw [q, ← hbe]; exact hb
 ·rcases D.c0 with q | q | q
  ·exact .inl q
  ·exact .inr (.inl (List.mem_append_left _ q))
  ·exact .inr (.inr (fun x hx => up x (V i i0 i1 x hx).1 (q x hx)))
 ·rw [hset k h0] at h2
  by_cases e : k = b
  ·rw [e]; exact .inr (.inl (by simp))
  ·rw [if_neg e] at h2
   rcases D.c1 k h0 h1 h2 with q | q | q
   ·exact .inl q
   ·exact .inr (.inl (List.mem_append_left _ q))
   ·exact .inr (.inr (fun x hx => up x (V k h0 h1 x hx).1 (q x hx)))
theorem DQ.done {l : List S33} (V : Valid l) {i : Int} (i0 : 0 ≤ i) (i1 : i < l.length) {row : List Bool} (D : DQ l i row []) : ∀ k : Int, 0 ≤ k → k < l.length → (rdOf false row k = true ↔ Rch l i k) := by
 have hall : ∀ k, Rch l i k → rdOf false row k = true := fun k h => by
  induction h with
  | one q =>
   rcases D.c0 with z | z
   ·exact absurd z (by simp)
   ·exact z _ q
  | more h q ih =>
   obtain ⟨a0, a1⟩ := h.rng V i0 i1
   rcases D.c1 _ a0 a1 ih with z | z
   ·exact absurd z (by simp)
   ·exact z _ q
 exact fun k h0 h1 => ⟨D.rr k h0 h1, hall k⟩
structure UQ (w wr : World) (gm B : Nat) (l : List S33) (i : Nat) (M : List (List Bool)) (gr capr : Nat) (row : List Bool) (vt : Value) (todo : List Int) : Prop where
 blk : ∃ cur, wr.heap[gm]? = some (.cells cur 34 (0, 0)) ∧ l.length ≤ cur.size ∧ cur[i]? = some (.slice (some ⟨gr, 0, none⟩) l.length capr) ∧ ∀ (j : Nat) x, M[j]? = some x → ∃ v, cur[j]? = some v ∧ Kd.R Kd.bool 4 wr w.heap.size (fun k => k < B) v x
 row : Kd.R Kd.bool 4 wr w.heap.size (fun k => B ≤ k) (.slice (some ⟨gr, 0, none⟩) l.length capr) row
 todo : Kd.Q (Kd.int .i64) 3 wr w.heap.size (fun _ => True) vt todo
 gmb : w.heap.size ≤ gm
 bel : Below w.heap.size w wr
theorem UC.q {w wr : World} {gm B : Nat} {l : List S33} {i : Nat} {M : List (List Bool)} {gr capr : Nat} {row : List Bool} {vt : Value} {todo : List Int} (H : UC w wr gm B l i M gr capr row vt todo) : UQ w wr gm B l i M gr capr row vt todo :=
 ⟨H.blk, H.row, Kd.Q_of_R H.todo, H.gmb, H.bel⟩
section
variable {w wr : World} {gm B : Nat} {l : List S33} {i : Nat} {M : List (List Bool)} {gr capr : Nat} {row : List Bool} {vt : Value} {todo : List Int}
theorem UQ.mcell (H : UQ w wr gm B l i M gr capr row vt todo) : wr.cell? ⟨gm, i, none⟩ = some (.slice (some ⟨gr, 0, none⟩) l.length capr) := by
 obtain ⟨cur, h1, h2, h3, h4⟩ := H.blk
 rw [blk_cell h1, h3]
theorem UQ.rcell (H : UQ w wr gm B l i M gr capr row vt todo) (b : Int) (h0 : 0 ≤ b) (h1 : b < l.length) : wr.cell? ⟨gr, b.toNat, none⟩ = some (.bool (rdOf false row b)) ∧ wr.frozen? ⟨gr, b.toNat, none⟩ = false :=
 Kd.R_celln false H.row b h0 h1
theorem UQ.mark (H : UQ w wr gm B l i M gr capr row vt todo) (b : Int) : UQ w (wr.setCell ⟨gr, b.toNat, none⟩ (.bool true)) gm B l i M gr capr (row.set b.toNat true) vt todo := by
 obtain ⟨cur, h1, h2, h3, h4⟩ := H.blk
 obtain ⟨cs, hcs⟩ := Kd.R_typed H.row gr rfl
 have hgB := H.row.1 gr rfl
 have hgb := Kd.R_base H.row gr rfl
 have hne : gm ≠ gr := fun e => by
  rw [← e, h1] at hcs
  injection hcs with hcs
  injection hcs with _ h2 _
  exact absurd h2 (by decide)
 have hc : Chg (· = gr) wr (wr.setCell ⟨gr, b.toNat, none⟩ (.bool true)) := (Chg.refl (· = gr) wr).setCell (p := ⟨gr, b.toNat, none⟩) rfl _
 refine ⟨⟨cur, blk_chg h1 hc hne, h2, h3, fun j x hj => ?_⟩, Kd.R_putn H.row b true, Kd.Q_set H.todo hcs (by decide) b.toNat (.bool true), H.gmb, Chg.below H.bel hc (fun k e => by omega) H.bel.size⟩
 obtain ⟨v, e1, e2⟩ := h4 j x hj
 exact ⟨v, e1, Kd.R_far e2 (p := ⟨gr, b.toNat, none⟩) (fun k hk e => by have : k = gr := e; omega) _⟩
theorem UQ.grown {w7 : World} {vt' : Value} {todo' : List Int} (H : UQ w wr gm B l i M gr capr row vt todo) (hr : Kd.Q (Kd.int .i64) 3 w7 w.heap.size (fun _ => True) vt' todo') (hb : Below w.heap.size w w7) (hg : wr.grownBy w7 vt.ownBlock) : UQ w w7 gm B l i M gr capr row vt' todo' := by
 obtain ⟨cur, h1, h2, h3, h4⟩ := H.blk
 have hty := Kd.Q_typed H.todo
 have hne : some gm ≠ vt.ownBlock := fun e => by
  obtain ⟨cs, hcs⟩ := hty gm e.symm
  rw [h1] at hcs
  injection hcs with hcs
  injection hcs with _ h2 _
  exact absurd h2 (by decide)
 exact ⟨⟨cur, (hg.block gm (blk_lt h1) hne).trans h1, h2, h3, fun j x hj => (h4 j x hj).elim fun v hv => ⟨v, hv.1, Kd.R_over' hv.2 hty (by decide) hg⟩⟩, Kd.R_over' H.row hty (by decide) hg, hr, H.gmb, hb⟩
theorem UQ.finish (H : UQ w wr gm B l i M gr capr row vt todo) (hM : M.length = i) (hrl : row.length = l.length) (hrr : ∀ k : Int, 0 ≤ k → k < l.length → (rdOf false row k = true ↔ Rch l (i : Int) k))
  (hrows : ∀ (j : Nat) x, M[j]? = some x → x.length = l.length ∧ ∀ k : Int, 0 ≤ k → k < l.length → (rdOf false x k = true ↔ Rch l j k)) : UM w wr gm l (i + 1) (M ++ [row]) :=
 (UC.mk H.blk H.row (Kd.R_nil _ _ _ _ _) H.gmb H.bel : UC w wr gm B l i M gr capr row (.slice none 0 0) []).finish hM hrl hrr hrows
end
set_option maxHeartbeats 8000000 in
set_option maxRecDepth 100000 in
theorem reach_is (w : World) (A : Option Addr) (c : Nat) (l : List S33) (hl : Kd.C k33 w A l.length l) (hlc : l.length ≤ c) (hn : l.length ≤ 256) (hv : Valid l) (ht : unS l [] l.length ≤ 1048576) :
  Calls Tryd.prog 35 #[.slice A l.length c] w fun e w' => ∃ U cu M, e = .returned (.slice U M.length cu) ∧ Kd.C (Kd.slice 4 Kd.bool) w' U M.length M ∧ Found l M ∧ Below w.heap.size w w' := by
 have HLP := Lib.hid hl
 have HN := Lib.hid hn
 have HV := Lib.hid hv
 have HT := Lib.hid ht
 clear hl hn hlc hv ht
 go_enter Tryd.func35, Tryd.ntmps35
 go_wp2_with (first | ((with_reducible refine gate_dst (N := 11) rfl ?_); refine Kd.R_make (Kd.slice 4 Kd.bool) _ 34 rfl (N := 11) rfl 28 _ _ rfl (l.length : Int) rfl rfl Tryd.underlying28 (.slice none 0 0) 24 info34 rfl (by decide) (by omega) [] (ok := fun _ => True) (okp := fun _ => True) ⟨_, rfl, Kd.R_nil _ _ _ _ _⟩ (fun _ hk => hk) trivial (by omega) (by have := HN.out; omega) (Below.refl _ _) (Nat.le_refl _) ?_; intro v9 w5 ho hb hg hnew; have HO := Lib.hid ho; have HB5 := Lib.hid hb; clear ho hb hg hnew) | fail)
 obtain ⟨B9, d9, rfl⟩ := Kd.R_slice HO.out
 rw [Int.toNat_natCast] at HO
 rw [Int.toNat_natCast, List.length_replicate]
 by_cases hz : l.length = 0
 ·have hz' : (l.length : Int) = 0 := by omega
  obtain rfl : l = [] := List.eq_nil_of_length_eq_zero hz
  clear hz hz'
  go_wp2_with fail
  go_loopg [4] 0 (fun gk v12 wr => v12 = .int .i64 0 ∧ Hid (Below w.heap.size w wr))
  case atStart => exact ⟨rfl, HB5⟩
  case round =>
   obtain ⟨rfl, HB⟩ := hrel
   go_wp2_with fail
   go_ret
   exact ⟨B9, d9, [], rfl, ⟨rfl, by simp, fun h => absurd h (by simp)⟩, ⟨rfl, fun i h0 h1 => by simp at h1; omega, fun i k h0 h1 => by simp at h1; omega⟩, HB.out⟩
 obtain ⟨gm, capm, em, hgm, hgl, ⟨cur, hcur⟩⟩ := Kd.R_form HO.out (by rw [List.length_replicate]; omega)
 rw [List.length_replicate] at em
 injection em with em _ ec
 subst em
 subst ec
 have hsz : l.length ≤ cur.size := by
  obtain ⟨inner, _, h | ⟨g, cap, cur2, e, hg, hb, hc, hm, hs, ht⟩⟩ := Kd.R_own HO.out
  ·exact absurd h.1 (by simp)
  ·injection e with e _ _
   injection e with e
   injection e with e _ _
   subst e
   rw [hcur] at hb
   injection hb with hb
   injection hb with hb _ _
   subst hb
   rw [List.length_replicate] at hc
   have : (Kd.slice 4 Kd.bool).sz = 1 := rfl
   rw [this] at hs
   omega
 have HU0 := Lib.hid (show UM w w5 gm l 0 [] from ⟨⟨cur, hcur, hsz, fun j x hj => absurd hj (by simp)⟩, rfl, hgm, HB5.out, fun j x hj => absurd hj (by simp)⟩)
 clear HO HB5 hgm hgl hcur hsz hz
 go_wp2_with fail
 go_loopg [4] l.length (fun gk v12 wr => ∃ (i : Nat) (M : List (List Bool)), v12 = .int .i64 i ∧ gk = l.length - i ∧ Hid (i ≤ l.length) ∧ Hid (UM w wr gm l i M))
 case atStart => exact ⟨0, [], rfl, by simp, Lib.hid (Nat.zero_le _), HU0⟩
 case round =>
  clear HU0
  obtain ⟨i, M, rfl, rfl, HI, HM⟩ := hrel
  by_cases hlt : i < l.length
  rotate_left
  ·have hlt' : ¬ (i : Int) < (l.length : Int) := by omega
   obtain rfl : i = l.length := by have := HI.out; omega
   have HFD := Lib.hid (And.intro (HM.out.reads (by have := HN.out; omega)) HM.out.found)
   have HML := Lib.hid HM.out.len
   go_wp2_with fail
   go_ret
   exact ⟨_, d9, M, by rw [HML.out]; rfl, HFD.out.1, HFD.out.2, HM.out.bel⟩
  have hlt' : (i : Int) < (l.length : Int) := by omega
  have hwi : wrap64 ((i : Int) + 1) = ((i + 1 : Nat) : Int) := by
   have := HN.out
   rw [← i64_w, IntWalk.i64_in _ (by omega)]; omega
  have HLT := Lib.hid hlt
  clear hlt
  go_upto_region 6 with (first | ((with_reducible refine gate_dst (N := 22) rfl ?_); refine Kd.R_make Kd.bool _ 4 rfl (N := 22) rfl 34 _ _ rfl (l.length : Int) rfl rfl Tryd.underlying34 (.bool false) 1 info4 rfl (by decide) (by omega) false (ok := fun _ => True) (okp := fun _ => True) rfl (fun _ hk => hk) trivial (by omega) (by have := HN.out; omega) (Below.refl _ _) (Nat.le_refl _) ?_; intro v19 w6 ho hb hg hnew; rw [Int.toNat_natCast] at ho; obtain ⟨gr, capr, eg, _⟩ := Kd.R_form ho (by rw [List.length_replicate]; have := HLT.out; omega); rw [List.length_replicate] at eg; subst eg; have HO := Lib.hid ho; have HB6 := Lib.hid hb; obtain ⟨⟨u0, y0⟩, y1⟩ := HM.out.cell HLT.out hb; clear ho hb hg hnew) | fail)
  obtain ⟨w7, e7⟩ : ∃ w7, w7 = w6.setCell ⟨gm, i, none⟩ (.slice (some ⟨gr, 0, none⟩) l.length capr) := ⟨_, rfl⟩
  rw [← e7]
  have hs7 : w7.heap.size = w6.heap.size := by rw [e7]; simp [World.setCell]
  have hb7 : Below w.heap.size w w7 := by
   rw [e7]
   have h6 := below_step HM.out.bel HB6.out
   exact Chg.below h6 ((Chg.refl (· = gm) w6).setCell (p := ⟨gm, i, none⟩) rfl _) (fun k e => by have := HM.out.gmb; omega) h6.size
  have HW7 := Lib.hid (And.intro e7 hs7)
  have HB7 := Lib.hid hb7
  clear e7 hs7 hb7 y0 y1
  obtain ⟨B, hB⟩ : ∃ B, B = wr.heap.size := ⟨_, rfl⟩
  have HBB := Lib.hid hB
  clear hB
  go_wp2_with (first | ((with_reducible refine gate_dst (N := 25) rfl ?_); refine Kd.R_lit (Kd.int .i64) _ 3 ?hg (N := 25) ?hd (xs := ([(i : Int)] : List Int)) (inner := [.int .i64 (i : Int)]) (ok := fun _ => True) (okp := fun _ => True) ?hr ?hp (fun _ hk => hk) trivial (Below.refl _ _) (Nat.le_refl _) (by simp) ?_; (case hd => rfl); (case hg => rfl); (case hr => first | (go_simp; done) | (go_simp; rfl)); (case hp => exact (Reps.one (show Kd.M (Kd.int .i64) _ _ _ (i : Int) [.int .i64 (i : Int)] from rfl) (Reps.none _ _))); intro vt w8 hrt hb8 hg_ hnew_; clear hg_ hnew_; have HRT := Lib.hid hrt; have HB8 := Lib.hid hb8; clear hrt hb8) | fail)
  have hrt := HRT.out
  have hb8 := HB8.out
  rw [HW7.out.2] at hrt hb8
  rw [HW7.out.1] at hb8
  have hUC := (HM.out.begin HLT.out HB6.out HO.out hb8 hrt).q
  rw [← HBB.out] at hUC
  have HU0 := Lib.hid hUC
  have HML := Lib.hid (And.intro HM.out.len HM.out.rows)
  clear hUC hrt hb8 HRT HB8 HW7 HB7 HO HB6 HM HBB
  go_loopg [5] (1 + l.length) (fun gk v5 wr2 => ∃ (row : List Bool) (todo : List Int), gk = todo.length + fal row ∧ Hid (gk ≤ 1 + l.length ∧ DQ l (i : Int) row todo) ∧ Hid (UQ w wr2 gm B l i M gr capr row v5 todo))
  case atStart => exact ⟨_, _, by rw [fal_rep]; rfl, Lib.hid ⟨Nat.le_refl _, DQ.start l (i : Int)⟩, HU0⟩
  case round =>
   clear HU0
   obtain ⟨row, todo, hgk, HD, HU⟩ := hrel
   have HG := Lib.hid hgk
   clear hgk
   obtain ⟨B5, d5, rfl, _⟩ := Kd.Q_slice HU.out.todo
   cases todo with
   | nil =>
    have HM2 := Lib.hid (HU.out.finish HML.out.1 HD.out.2.rl (HD.out.2.done HV.out (by omega) (by have := HLT.out; omega)) HML.out.2)
    go_wp2_with fail
    go_roundg (l.length - (i + 1))
    case measure => have := HLT.out; omega
    case rel => exact ⟨i + 1, _, by first | rfl | rw [hwi], rfl, Lib.hid HLT.out, HM2⟩
   | cons a todo =>
    have HAR := Lib.hid (HD.out.2.tr a List.mem_cons_self)
    have HA := Lib.hid (show 0 ≤ a ∧ a < l.length from HAR.out.elim (fun q => by have := HLT.out; omega) (fun q => q.rng HV.out (by omega) (by have := HLT.out; omega)))
    have HDK := Lib.hid HD.out.2.pop
    have HG1 := Lib.hid (show gk = (todo.length + 1) + fal row from HG.out)
    have HG2 := Lib.hid (show gk ≤ 1 + l.length from HD.out.1)
    have HUL := Lib.hid (show (usesOf l a).length ≤ 1048576 from Nat.le_trans (unS_one l a HA.out.1 l.length HA.out.2) HT.out)
    obtain ⟨q, hq⟩ : ∃ q, q = a :: todo := ⟨_, rfl⟩
    rw [← hq] at HU
    rw [← hq]
    have HQ := Lib.hid (show q.length = todo.length + 1 by rw [hq]; rfl)
    have HQ2 := Lib.hid (show q.drop 1 = todo by rw [hq]; rfl)
    have HQ3 := Lib.hid (show rd q 0 = a by rw [hq]; rfl)
    have hp0 : (0 : Int) < (q.length : Int) := by have := HQ.out; omega
    have hp1 : (q.length : Int) > 0 := hp0
    have hp2 : decide (0 < q.length) = true := decide_eq_true (by have := HQ.out; omega)
    obtain ⟨ad0, e0, qa⟩ := Kd.at_int (Kd.Q_reads' HU.out.todo).2.2 0 (Int.le_refl 0) hp0
    cases e0
    rw [show ((0 : Int)).toNat = 0 from rfl, Addr.add_zero', HQ3.out] at qa
    have q22 : (1 : Int) ≤ (q.length : Int) := hp0
    obtain ⟨i022, hi022, _, hsz22, _⟩ := info_parts info3
    have hcut := cut_from (P := Tryd.prog) 22 3 .i64 Tryd.underlying22 hi022 1 hsz22 (some ad0) q.length d5 1 (by omega) q22
    have hr := Kd.Q_drop (k := (1 : Int).toNat) HU.out.todo (by have := HQ.out; show 1 ≤ q.length; omega)
    obtain ⟨A22, hA22⟩ : ∃ A1, A1 = (if d5 = (1 : Int).toNat then (some ad0) else ((some ad0) : Option Addr).map (·.add ((1 : Int).toNat * 1))) := ⟨_, rfl⟩
    obtain ⟨c22, hc22⟩ : ∃ c1, c1 = d5 - (1 : Int).toNat := ⟨_, rfl⟩
    have hn22 : q.length - (1 : Int).toNat = todo.length := by show q.length - 1 = todo.length; have := HQ.out; omega
    rw [hn22, ← hA22, ← hc22] at hcut
    replace hr : Kd.Q (Kd.int .i64) 3 wr w.heap.size (fun _ => True) (.slice A22 todo.length c22) todo := by
     rw [hA22, hc22, ← hn22]
     have := HQ2.out
     rw [show (1 : Int).toNat = 1 from rfl] at hr ⊢
     rw [this] at hr
     exact hr
    have HU1 := Lib.hid (show UQ w wr gm B l i M gr capr row (.slice A22 todo.length c22) todo from ⟨HU.out.blk, HU.out.row, hr, HU.out.gmb, HU.out.bel⟩)
    obtain ⟨g0, hg0⟩ : ∃ x, x = gk := ⟨_, rfl⟩
    rw [← hg0] at HG1 HG2
    have HGG := Lib.hid hg0
    clear hi022 hsz22 hr hA22 hc22 hn22 HU HD HG hg0 hq
    go_wp2_with fail
    go_loopg [5, 7] (usesOf l a).length (fun gk v5 v7 wr2 => ∃ (j : Nat) (row : List Bool) (todo : List Int), v7 = .int .i64 j ∧ gk = (usesOf l a).length - j ∧ Hid (j ≤ (usesOf l a).length ∧ todo.length + fal row + 1 = g0 ∧ DK l (i : Int) a j row todo) ∧ Hid (UQ w wr2 gm B l i M gr capr row v5 todo))
    case atStart => exact ⟨0, row, todo, rfl, by simp, Lib.hid ⟨Nat.zero_le _, by have := HG1.out; omega, HDK.out⟩, HU1⟩
    case round =>
     clear HU1 HDK HG1
     obtain ⟨j, row, todo, rfl, rfl, HD, HU⟩ := hrel
     obtain ⟨ad, A4, c4, rfl, -, -, -, -, p4, -, -, p7, p8⟩ := at_T33 (Kd.C_below HLP.out HU.out.bel) a HA.out.1 HA.out.2
     have HP8 := Lib.hid p8
     by_cases hjl : j < (usesOf l a).length
     rotate_left
     ·have hj' : ¬ (j : Int) < ((usesOf l a).length : Int) := by omega
      have HD2 := Lib.hid (HD.out.2.2.done (by omega))
      have HG3 := Lib.hid HD.out.2.1
      clear hjl
      clear p7 p8
      go_wp2_with fail
      go_roundg (g0 - 1)
      case measure => have := HG3.out; have := HGG.out; omega
      case rel => exact ⟨row, todo, by have := HG3.out; omega, Lib.hid ⟨by have := HG2.out; omega, HD2.out⟩, HU⟩
     have hj' : (j : Int) < ((usesOf l a).length : Int) := by omega
     have hwj : wrap64 ((j : Int) + 1) = ((j + 1 : Nat) : Int) := by
      have := HUL.out
      rw [← i64_w, IntWalk.i64_in _ (by omega)]; omega
     have HJL := Lib.hid hjl
     obtain ⟨ad4, rfl, qb⟩ := Kd.at_int HP8.out (j : Int) (Int.natCast_nonneg j) hj'
     rw [Int.toNat_natCast] at qb
     have HBR := Lib.hid ((HD.out.2.2.bRch hjl).rng HV.out (by omega) (by have := HLT.out; omega))
     have HSK := Lib.hid (fun h => HD.out.2.2.skip hjl h)
     have HMK := Lib.hid (HD.out.2.2.mark HV.out (by omega) (by have := HLT.out; omega) hjl)
     have HTD := Lib.hid HD.out.2.1
     have HRL := Lib.hid HD.out.2.2.rl
     obtain ⟨b, hb⟩ : ∃ b, b = at_ (usesOf l a) j := ⟨_, rfl⟩
     have hbq : rd (usesOf l a) (j : Int) = b := by rw [hb, rd_nat, Int.toNat_natCast]
     rw [hbq] at qb
     rw [← hb] at HBR HSK HMK
     clear hb hbq hjl p7 p8
     have b0 : (0 : Int) ≤ b := HBR.out.1
     have b1 : b < (l.length : Int) := HBR.out.2
     have qm := HU.out.mcell
     obtain ⟨r0, r1⟩ := HU.out.rcell b b0 b1
     obtain ⟨B6, d6, rfl, _⟩ := Kd.Q_slice HU.out.todo
     cases hs : rdOf false row b with
     | true =>
      rw [hs] at r0
      have HD2 := Lib.hid (HSK.out hs)
      clear hs
      go_wp2_with fail
      go_roundg ((usesOf l a).length - (j + 1))
      case measure => exact Nat.sub_lt_sub_left HJL.out (Nat.lt_succ_self _)
      case rel => exact ⟨j + 1, row, todo, by first | rfl | rw [hwj], rfl, Lib.hid ⟨HJL.out, HTD.out, HD2.out⟩, HU⟩
     | false =>
      rw [hs] at r0
      have HFS := Lib.hid (show fal (row.set b.toNat true) + 1 = fal row from fal_set row b.toNat (by have := HRL.out; omega) hs)
      have HTL := Lib.hid (show todo.length ≤ 257 by have := HTD.out; have := HG2.out; have := HN.out; omega)
      clear hs
      go_upto_region 16 with fail
      obtain ⟨w9, e9⟩ : ∃ w9, w9 = wr.setCell ⟨gr, b.toNat, none⟩ (.bool true) := ⟨_, rfl⟩
      have hU9 := HU.out.mark b
      rw [← e9] at hU9
      have HU9 := Lib.hid hU9
      rw [← e9]
      clear e9 hU9 r0 r1 qm qb HU
      go_wp2_with (first | ((with_reducible refine gate_builtin (b := .append) (xs := #[.tmp 66, .tmp 68]) rfl ?_); at_builtin; refine Kd.Q_append (Kd.int .i64) (w0 := w) w.heap.size rfl (.tmp 66) (.tmp 68) 22 3 (.int .i64 0) 8 rfl Tryd.underlying22 info3 rfl (by decide) (by omega) (.slice B6 todo.length d6) todo b [.int .i64 b] (fun _ => True) (fun _ => False) rfl rfl rfl (fun _ hk => hk.elim) (fun _ _ => trivial) HU9.out.todo HU9.out.bel HU9.out.bel.size (by have := HTL.out; omega) ?_; intro v61 w10 ho hb hg hat; have HU10 := Lib.hid (HU9.out.grown ho hb hg); clear ho hb hg hat) | fail)
      go_roundg ((usesOf l a).length - (j + 1))
      case measure => exact Nat.sub_lt_sub_left HJL.out (Nat.lt_succ_self _)
      case rel => exact ⟨j + 1, _, _, by first | rfl | rw [hwj], rfl, Lib.hid ⟨HJL.out, by rw [List.length_append]; have := HTD.out; have := HFS.out; simp; omega, HMK.out⟩, HU10⟩
end Go.Proofs.YtccjclmjoegibaaDoor.Ce
