/- Clone: the block that it builds. -/
import Derived.Test.YtohkobfamofkgaaWa
import Derived.Deep.MidRow
import Derived.Laws.Tables
namespace Go.Proofs.Ytohkobfamofkgaa.Wb
open Go.RowKit Go.Maps Go.Proofs.Ytohkobfamofkgaa Go.Proofs.YtohkobfamofkgaaW.PrintWords Go.Proofs.YtohkobfamofkgaaW.PrintLast Go.Proofs.YtohkobfamofkgaaW.PrintMore

theorem fold_size (off : Nat) : ∀ (vs : List Value) (k : Nat) (cells : Array Value), ((vs.zipIdx k).foldl (fun cs (p : Value × Nat) => cs.setIfInBounds (off + p.2) p.1) cells).size = cells.size
  | [], _, _ => rfl
  | v :: vs, k, cells => by
    rw [List.zipIdx_cons, List.foldl_cons, fold_size off vs (k + 1)]
    simp
theorem fold_at (off : Nat) : ∀ (vs : List Value) (k : Nat) (cells : Array Value), off + k + vs.length ≤ cells.size → ∀ i,
    ((vs.zipIdx k).foldl (fun cs (p : Value × Nat) => cs.setIfInBounds (off + p.2) p.1) cells)[i]? = if off + k ≤ i ∧ i < off + k + vs.length then vs[i - (off + k)]? else cells[i]?
  | [], k, cells, h, i => by
    rw [if_neg (by simp only [List.length_nil]; omega)]; rfl
  | v :: vs, k, cells, h, i => by
    rw [List.zipIdx_cons, List.foldl_cons, fold_at off vs (k + 1) _ (by simp at h ⊢; omega) i]
    simp only [List.length_cons] at h ⊢
    by_cases h1 : off + (k + 1) ≤ i ∧ i < off + (k + 1) + vs.length
    · rw [if_pos h1, if_pos (by omega), show i - (off + k) = (i - (off + (k + 1))) + 1 by omega, List.getElem?_cons_succ]
    · rw [if_neg h1, Array.getElem?_setIfInBounds]
      by_cases h2 : off + k = i
      · rw [if_pos h2, if_pos (by omega), if_pos (by omega), show i - (off + k) = 0 by omega]; rfl
      · rw [if_neg h2, if_neg (by omega)]

def runs (m : Web) : List Value := (List.range 256).map fun c => .int .i64 (m.run c)
def wais (m : Web) : List Value := (List.range 128).map fun c => .int .i64 (m.wai c)
def bare (m : Web) : Web := { m with ls := fun _ => [] }
theorem places67 : (match Try.prog.underlying 67 with | some (.struct fs) => fs.toList.mapM (fun f => (Try.prog.info? f.type).map fun i => (f.offset, i.size)) | _ => none) = some [(0, 128), (128, 256), (384, 128), (512, 256)] := by kernel_rfl
theorem built67 (m : Web) : Try.prog.built 67 [(1, .agg (runs m).toArray), (2, .agg (wais m).toArray)] = some (cells V0 (bare m)) := by
  obtain ⟨i0, hi, hz0, hz1, hz2⟩ := info_parts zero67
  have hp := places67
  unfold Program.built
  rw [hi]
  cases hu : Try.prog.underlying 67 with
  | none => rw [hu] at hp; exact absurd hp (by simp)
  | some d =>
    rw [hu] at hp
    obtain ⟨fs, rfl⟩ : ∃ fs, d = .struct fs := by
      cases d with
      | struct fs => exact ⟨fs, rfl⟩
      | _ => exact absurd hp (by simp)
    simp only at hp ⊢
    rw [hz0, hp]
    have hr : (runs m).length = 256 := by simp [runs]
    have hw : (wais m).length = 128 := by simp [wais]
    have hc : ∀ V m, (cells V m).size = 768 := fun V m => by simp [cells]
    have e1 : ∀ (vs : List Value) (c : Array Value) (off : Nat), (vs.toArray.zipIdx.foldl (fun cs (p : Value × Nat) => cs.setIfInBounds (off + p.2) p.1) c) = (vs.zipIdx.foldl (fun cs (p : Value × Nat) => cs.setIfInBounds (off + p.2) p.1) c) := fun vs c off => by
      rw [← Array.foldl_toList, Array.toList_zipIdx]
    show Instr.fill _ (Value.agg (cells V0 m0)).cells _ = _
    have s1 : (Instr.fill ([(0, 128), (128, 256), (384, 128), (512, 256)].toArray[·]?) (cells V0 m0) [(1, .agg (runs m).toArray), (2, .agg (wais m).toArray)]) =
        some ((wais m).zipIdx.foldl (fun cs (p : Value × Nat) => cs.setIfInBounds (384 + p.2) p.1) ((runs m).zipIdx.foldl (fun cs (p : Value × Nat) => cs.setIfInBounds (128 + p.2) p.1) (cells V0 m0))) := by
      rw [← e1, ← e1]
      have z1 := fold_size 128 (runs m) 0 (cells V0 m0)
      rw [← e1, hc] at z1
      simp only [Instr.fill, Value.cells, List.size_toArray, hr, hw, hc]
      simp [z1]
      have z2 := fold_size 128 (runs m) 0 (cells V0 m0)
      rw [hc] at z2
      omega
    refine s1.trans (congrArg some ?_)
    apply Array.ext_getElem?
    intro i
    have z1 := fold_size 128 (runs m) 0 (cells V0 m0)
    rw [fold_at 384 (wais m) 0 _ (by rw [z1, hc, hw]; decide) i, fold_at 128 (runs m) 0 _ (by rw [hc, hr]; decide) i, hr, hw]
    simp only [Nat.add_zero]
    by_cases hi : i < 768
    · rw [cells_at _ _ _ hi, cells_at _ _ _ hi]
      unfold cell
      by_cases h1 : i < 128
      · rw [if_neg (by omega), if_neg (by omega), if_pos h1, if_pos h1]
      · by_cases h2 : i < 384
        · rw [if_neg (by omega), if_pos (by omega), if_neg h1, if_pos h2]
          simp [runs, show i - 128 < 256 by omega]; rfl
        · by_cases h3 : i < 512
          · rw [if_pos (by omega), if_neg h1, if_neg h2, if_pos h3]
            simp [wais, show i - 384 < 128 by omega]; rfl
          · rw [if_neg (by omega), if_neg (by omega), if_neg h1, if_neg h2, if_neg h3, if_neg h1, if_neg h2, if_neg h3]
    · rw [if_neg (by omega), if_neg (by omega), Array.getElem?_eq_none (by rw [hc]; omega), Array.getElem?_eq_none (by rw [hc]; omega)]
end Go.Proofs.Ytohkobfamofkgaa.Wb
