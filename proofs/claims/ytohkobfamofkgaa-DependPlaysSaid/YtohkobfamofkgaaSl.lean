/- What slices.Clone, slices.Index, slices.IndexFunc and slices.DeleteFunc do with a row of whole numbers of one's own: for every list. -/
import Derived.Test.YtohkobfamofkgaaWb
import Derived.Maps.AppendAt
import Derived.WalkSpells
namespace Go.Proofs.Ytohkobfamofkgaa.Wb
open Go.RowKit Go.Maps Go.Proofs.Ytohkobfamofkgaa Go.Proofs.YtohkobfamofkgaaW.PrintWords Go.Proofs.YtohkobfamofkgaaW.PrintLast Go.Proofs.YtohkobfamofkgaaW.PrintMore

theorem info3 : (Try.prog.info? 3).map (fun i => (i.zero, i.size, i.bytes)) = some (some (.int .i64 0), 1, 8) := by kernel_rfl

theorem Row.cases {B : Nat} {w : World} {v : Value} {l : List Int} (h : Row B w v l) : (v = .slice none 0 0 ∧ l = []) ∨ ∃ g cap cur, v = .slice (some ⟨g, 0, none⟩) l.length cap ∧ B ≤ g ∧ w.heap[g]? = some (.cells cur 3 (0, 0)) ∧ l.length ≤ cap ∧ cap ≤ maxLen ∧ cur.size = cap ∧ cur.toList.take l.length = l.map (Value.int .i64) := by
  obtain ⟨_, h | ⟨g, cap, cur, e, hg, hb, hc, hm, hs, ht⟩⟩ := h
  · exact Or.inl ⟨h.1, List.eq_nil_of_length_eq_zero h.2⟩
  · exact Or.inr ⟨g, cap, cur, e, hg, hb, hc, hm, by omega, by rw [Nat.mul_one] at ht; exact ht⟩

theorem row_cells {w : World} {g n : Nat} {cur : Array Value} {l : List Int} {f : Nat × Nat} (hb : w.heap[g]? = some (.cells cur 3 f)) (ht : cur.toList.take n = l.map (Value.int .i64)) (j : Nat) (x : Int) (hj : l[j]? = some x) : w.cell? ⟨g, j, none⟩ = some (.int .i64 x) := by
  rw [blk_cell hb]
  have h1 : (cur.toList.take n)[j]? = some (Value.int .i64 x) := by rw [ht, List.getElem?_map, hj]; rfl
  rw [List.getElem?_take] at h1
  split at h1
  · simpa using h1
  · exact absurd h1 (by simp)

theorem Row.len {B : Nat} {w : World} {v : Value} {l : List Int} (h : Row B w v l) : l.length ≤ maxLen := by
  rcases h.cases with ⟨_, rfl⟩ | ⟨g, cap, cur, _, _, _, h1, h2, _⟩
  · simp
  · omega

theorem add_off (g j : Nat) : (⟨g, 0, none⟩ : Addr).add j = ⟨g, j, none⟩ := by
  unfold Addr.add
  split
  · rename_i h; subst h; rfl
  · simp

/-- Numbers that lie at the begin of a block, as append asks for them. -/
theorem news {w : World} {g n : Nat} {cur : Array Value} {l : List Int} {f : Nat × Nat} (hb : w.heap[g]? = some (.cells cur 3 f)) (ht : cur.toList.take n = l.map (Value.int .i64)) :
    (l.map (Value.int .i64)).length = l.length * 1 ∧ (∀ j u, (l.map (Value.int .i64))[j]? = some u → w.cell? ((⟨g, 0, none⟩ : Addr).add j) = some u) ∧ ∀ u ∈ l.map (Value.int .i64), u.oneCell' = true := by
  refine ⟨by simp, fun j u hu => ?_, fun u hu => ?_⟩
  · rw [add_off]
    rw [List.getElem?_map] at hu
    cases hj : l[j]? with
    | none => rw [hj] at hu; exact absurd hu (by simp)
    | some x => rw [hj] at hu; simp at hu; subst hu; exact row_cells hb ht j x hj
  · obtain ⟨x, _, rfl⟩ := List.mem_map.1 hu; rfl

theorem clone_any (B : Nat) (w : World) (v : Value) (l : List Int) (h : Row B w v l) (hl : l.length ≤ 1000000) :
    Calls Try.prog 30 #[v] w fun e w' => ∃ v', e = .returned v' ∧ Row w.heap.size w' v' l ∧ Below w.heap.size w w' := by
  rcases h.cases with ⟨rfl, rfl⟩ | ⟨g, cap, cur, rfl, hg, hb, hc, hm, hs, ht⟩
  · have hn := fun w => Lib.run_eql_slice_nil (P := Try.prog) (w := w)
    go_enter Try.func30, Try.ntmps30
    go_wp2
    go_ret
    exact ⟨_, rfl, ⟨rfl, Or.inl ⟨rfl, rfl⟩⟩, Below.refl _ _⟩
  · have hn := fun w => Lib.run_eql_slice_nil (P := Try.prog) (w := w)
    obtain ⟨i0, hi, hz0, hz1, hz2⟩ := info_parts info3
    have HC := Lib.hid (news (blk_alloc hb (.cells #[] 3)) ht)
    have HN := Lib.hid (show 0 + l.length ≤ maxLen ∧ (0 + l.length) * 8 ≤ 140737488355328 ∧ w.heap.size ≤ (w.alloc (.cells #[] 3)).heap.size from ⟨by unfold maxLen; omega, by omega, by rw [World.size_alloc]; exact Nat.le_succ _⟩)
    have HO := Lib.hid (show (w.alloc (.cells #[] 3)).ownsRow w.heap.size 3 1 (.slice (some ⟨w.heap.size, 0, none⟩) 0 0) 0 [] from ⟨rfl, Or.inr ⟨w.heap.size, 0, #[], rfl, Nat.le_refl _, blk_new w _, Nat.le_refl _, Nat.zero_le _, rfl, rfl⟩⟩)
    have HM := Lib.hid hm
    have HI := Lib.hid (And.intro hi (And.intro hz0 (And.intro hz1 hz2)))
    clear h hb hc hm hs ht hi hz0 hz1 hz2
    go_enter Try.func30, Try.ntmps30
    go_wp2_with (at_builtin; refine wpList_append_own_at _ rfl _ _ 22 rfl w.heap.size 3 i0 (.int .i64 0) 1 8 Try.underlying22 HI.out.1 HI.out.2.1 HI.out.2.2.1 HI.out.2.2.2 rfl (by decide) _ _ _ rfl HO.out ⟨g, 0, none⟩ l.length cap (l.map (Value.int .i64)) rfl HC.out.1 HC.out.2.1 HC.out.2.2 HN.out.1 HN.out.2.1 HN.out.2.2 ?_; intro v' w' hown hgrow hnil hloc; have HR := Lib.hid hown; have HG := Lib.hid hgrow; clear hown hgrow hnil hloc)
    go_ret
    refine ⟨_, rfl, ?_, ?_⟩
    · have e := HR.out
      rw [Nat.zero_add, List.nil_append] at e
      exact e
    · exact ((Below.refl w.heap.size w).alloc (Nat.le_refl _) _).grown HG.out (by rw [World.size_alloc]; exact Nat.le_succ _) (fun k hk => Nat.le_of_eq (Option.some.inj hk))
end Go.Proofs.Ytohkobfamofkgaa.Wb
