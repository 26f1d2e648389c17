/- slices.DeleteFunc as Wake uses it: the library's contract, laid at this program. -/
import Derived.Test.YtohkobfamofkgaaEn
import Derived.Shelf.SlicesE.DeleteFunc
import Derived.Sort.OwnSortedInts
import Derived.KernelRfl
namespace Go.Proofs.Ytohkobfamofkgaa.Wb
open Go.RowKit Go.Maps Go.Shelf Go.Lib Go.Sort Go.Proofs Go.Proofs.Ytohkobfamofkgaa
def dfRen : Go.Shelf.Ren := ⟨fun | 10 => 32 | 6 => 44 | n => n, fun | 23 => 3 | 25 => 60 | n => n, fun n => n⟩
theorem df10 : SlLaysH.n10 Try.prog dfRen := {
  mixed := by kernel_rfl
  f6 := ⟨Try.f44.name, by decide, by kernel_rfl⟩
  f10 := ⟨Try.f32.name, by decide, by kernel_rfl⟩
  t0 := by kernel_rfl
  a0 := fun _ => by kernel_rfl
  z0 := fun _ => by kernel_rfl
  v0 := fun _ => by kernel_rfl
  t3 := by kernel_rfl
  a3 := fun _ => by kernel_rfl
  z3 := fun _ => by kernel_rfl
  v3 := fun _ => by kernel_rfl
  t4 := by kernel_rfl
  a4 := fun _ => by kernel_rfl
  z4 := fun _ => by kernel_rfl
  v4 := fun _ => by kernel_rfl
  t22 := by kernel_rfl
  a22 := fun _ => by kernel_rfl
  z22 := fun _ => by kernel_rfl
  v22 := fun _ => by kernel_rfl
  a23 := fun _ => by kernel_rfl
  z23 := fun _ => by kernel_rfl
  t25 := by kernel_rfl
  a25 := fun _ => by kernel_rfl
  z25 := fun _ => by kernel_rfl
  v25 := fun _ => by kernel_rfl }

/-- The closure of Wake: is it the task? -/
theorem is_task (a x : Int) (bx : Nat) (W : World) (hc : W.cell? ⟨bx, 0, none⟩ = some (.int .i64 a)) :
    FnGives Try.prog 33 #[.pointer (some ⟨bx, 0, none⟩)] #[.int .i64 x] (.bool (decide (x = a))) W := by
  show Calls Try.prog 33 #[.int .i64 x, .pointer (some ⟨bx, 0, none⟩)] W _
  have hb : (x == a) = decide (x = a) := by by_cases h : x = a <;> simp [h]
  go_enter Try.func33, Try.ntmps33
  go_wp2
  go_ret
  exact ⟨by simp [hb], 0, rfl⟩

theorem delete_row (B : Nat) (w : World) (v : Value) (l : List Int) (a : Int) (bx : Nat) (h : Row B w v l) (hl : l ≠ []) (hc : w.cell? ⟨bx, 0, none⟩ = some (.int .i64 a)) (hne : v.ownBlock ≠ some bx) :
    Calls Try.prog 32 #[v, .func (.func 33) #[] #[.pointer (some ⟨bx, 0, none⟩)]] w fun e w' => ∃ v', e = .returned v' ∧ Row B w' v' (l.filter (fun x => x ≠ a)) ∧ v'.ownBlock = v.ownBlock ∧ Chg (fun k => v.ownBlock = some k) w w' := by
  obtain ⟨h0, h1 | ⟨g, cap, cur, rfl, hB, hb, hcap, hm, hs, ht⟩⟩ := h
  · exact absurd (List.eq_nil_of_length_eq_zero h1.2) hl
  rw [Nat.mul_one] at ht hs
  have hg : g ≠ bx := fun e => hne (by rw [← e]; rfl)
  have hlt := blk_lt hb
  have hbx : bx < w.heap.size := by
    rcases Nat.lt_or_ge bx w.heap.size with k | k
    · exact k
    · simp [World.cell?, Array.getElem?_eq_none k] at hc
  have eg : ∀ args w, (callFunc 33 args).run Try.prog w = .ok (.enter 33 args) w := enters_of Try.func33 (by kernel_rfl) rfl
  have hH := holds_of_blockI hb ht
  have hcon := AnyE.slices_DeleteFunc df10 (Value.int .i64) (fun _ => rfl) (fun x => decide (x = a)) 33 #[.pointer (some ⟨bx, 0, none⟩)] eg 0 df10.v3 g 0 cap l.toArray w
    (fun W x hW => is_task a x bx W ((hW.cell (p := ⟨bx, 0, none⟩) hbx).trans hc))
    (fun n os dk x _ => is_task a x bx _ (by
      unfold sortWorld
      rw [cell?_grow _ _ _ (by show bx < (putRow _ _ _ _ _).heap.size; rw [size_putRow]; exact hbx), cell?_putRow_other _ _ g 0 _ _ (Or.inl (fun e => hg e.symm))]
      exact hc)) hH (by simp; unfold maxLen at hm; omega) (by simpa using hcap)
  have e1 : (l.toArray.toList.filter fun x => !decide (x = a)) = l.filter (fun x => x ≠ a) := by simp
  rw [e1] at hcon
  have hlen : l.toArray.size = l.length := by simp
  rw [hlen] at hcon
  refine Calls.mono (show Calls Try.prog 32 _ w _ from hcon) ?_
  rintro e w' ⟨rfl, q, rfl⟩
  have hF : (l.filter (fun x => x ≠ a)).length ≤ l.length := List.length_filter_le _ _
  generalize hFd : l.filter (fun x => x ≠ a) = F at hF ⊢
  have e2 : putRow (Value.int .i64) (Sort.ahead w q) g 0 (F ++ List.replicate (l.length - F.length) 0).toArray = grow (putRow (Value.int .i64) (Sort.ahead w q) g 0 (F ++ List.replicate (l.length - F.length) 0).toArray) #[] := (grow_empty _).symm
  have hts : (F ++ List.replicate (l.length - F.length) (0 : Int)).length = l.length := by simp; omega
  rw [e2]
  refine ⟨_, rfl, ?_, rfl, ?_⟩
  · refine ⟨by simp, Or.inr ⟨g, cap, _, rfl, hB, heap_sortedI _ hb, by omega, hm, by rw [Nat.mul_one]; simp [putCells]; exact hs, ?_⟩⟩
    have k := take_putCellsI cur (F ++ List.replicate (l.length - F.length) 0) (by rw [hts, hs]; exact hcap)
    have k2 := congrArg (List.take F.length) k
    rw [List.take_take, hts, Nat.min_eq_left hF] at k2
    rw [Nat.mul_one, k2]
    simp
  · have k := grownBy_sortedI (w := w) (g := g) (n := q) (os := #[]) (F ++ List.replicate (l.length - F.length) 0).toArray
    exact ⟨k.os, k.tape, k.output, k.size, fun i hi hn => k.block i hi (fun e => hn e.symm)⟩
end Go.Proofs.Ytohkobfamofkgaa.Wb
