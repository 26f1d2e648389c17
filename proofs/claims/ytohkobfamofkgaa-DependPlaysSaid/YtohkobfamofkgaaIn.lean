/- Slices of whole numbers that are read alone; ints of two that are the same; the copy of an input. -/
import Derived.Test.YtohkobfamofkgaaWk
import Derived.Test.YtohkobfamofkgaaO
namespace Go.Proofs.Ytohkobfamofkgaa
open Go.RowKit Go.Maps Go.Deep Go.WideShapes Go.ChangeShapes Go.Proofs.Ytohkobfamofkgaa Go.Proofs.Ytohkobfamofkgaa.Wb Go.Proofs.YtohkobfamofkgaaW.PrintWords Go.Proofs.YtohkobfamofkgaaW.PrintLast Go.Proofs.YtohkobfamofkgaaW.PrintMore

/-- A slice value that reads as a list of whole numbers. -/
def IntsAt (w : World) (v : Value) (l : List Int) : Prop := ∃ A c, v = .slice A l.length c ∧ l.length ≤ c ∧ Kd.C (Kd.int .i64) w A l.length l
theorem IntsAt.below {w w' : World} {v : Value} {l : List Int} (h : IntsAt w v l) (hb : Below w.heap.size w w') : IntsAt w' v l := by
  obtain ⟨A, c, e, hc, h⟩ := h
  exact ⟨A, c, e, hc, Kd.C_below h hb⟩
theorem IntsAt.of_R {w : World} {base : Nat} {ok : Nat → Prop} {v : Value} {l : List Int} (h : Kd.R (Kd.int .i64) 3 w base ok v l) : IntsAt w v l := by
  obtain ⟨A, c, e, hc, h⟩ := Kd.R_reads h
  exact ⟨A, c, e, hc, h⟩
theorem IntsAt.of_row {B : Nat} {w : World} {v : Value} {l : List Int} (h : Row B w v l) : IntsAt w v l := by
  by_cases hl : l = []
  · subst hl
    rcases h.cases with ⟨rfl, _⟩ | ⟨g, cap, cur, rfl, _, _, _, _, _, _⟩
    · exact ⟨none, 0, rfl, Nat.le_refl _, rfl, by simp, fun h => absurd h (by simp)⟩
    · exact ⟨_, cap, rfl, Nat.zero_le _, rfl, by simp, fun h => absurd h (by simp)⟩
  · obtain ⟨A, cap, e, hC, hc⟩ := h.C hl
    exact ⟨A, cap, e, hc, hC⟩

theorem rd_at (l : List Int) (j : Int) (h0 : 0 ≤ j) (h1 : j < l.length) : l[j.toNat]? = some (rd l j) := by
  unfold rd
  rw [List.getD_eq_getElem?_getD, List.getElem?_eq_getElem (by omega)]; rfl
theorem ints_from (l : List Int) (hl : l.length < 4611686018427387904) : ∀ d (j : Nat), j + d = l.length → ∃ k, PDependTells.onceweblaw14_ints.l0 k l l l.length (j : Int) = some true := by
  intro d
  induction d with
  | zero => intro j hj; exact ⟨1, by simp only [PDependTells.onceweblaw14_ints.l0]; rw [if_neg (by omega)]⟩
  | succ d ih =>
    intro j hj
    obtain ⟨k, hk⟩ := ih (j + 1) (by omega)
    refine ⟨k + 1, ?_⟩
    simp only [PDependTells.onceweblaw14_ints.l0]
    have hw : wrap64 ((j : Int) + 1) = ((j + 1 : Nat) : Int) := by unfold wrap64; omega
    rw [if_pos (by omega), if_pos (by omega), if_pos (by omega), if_pos (by omega), if_pos True.intro, hw]
    exact hk
theorem ints_same (l : List Int) (hl : l.length < 4611686018427387904) : ∃ k, PDependTells.onceweblaw14_ints.f k l l = some true := by
  obtain ⟨k, hk⟩ := ints_from l hl l.length 0 (by omega)
  exact ⟨k, by unfold PDependTells.onceweblaw14_ints.f; rw [if_pos rfl]; exact hk⟩
theorem ints_eq (w : World) (v u : Value) (l : List Int) (hv : IntsAt w v l) (hu : IntsAt w u l) (hl : l.length < 4611686018427387904) : Calls Try.prog 11 #[v, u] w fun e w' => e = .returned (.bool true) ∧ Below w.heap.size w w' := by
  obtain ⟨A, c, rfl, hc, h1⟩ := hv
  obtain ⟨A', c', rfl, hc', h2⟩ := hu
  obtain ⟨k, hk⟩ := ints_same l hl
  refine (PDependTells.onceweblaw14_ints.calls k A c l A' c' l true w h1 hc h2 hc' hk).mono ?_
  rintro _ w' ⟨rfl, m, rfl⟩
  exact ⟨rfl, below_drewN (Below.refl _ _) m⟩

/-- The news that an input brings to an append. -/
theorem news_in {w : World} {ad : Addr} {l : List Int} (h : Kd.C (Kd.int .i64) w (some ad) l.length l) :
    (l.map (Value.int .i64)).length = l.length * 1 ∧ (∀ j u, (l.map (Value.int .i64))[j]? = some u → w.cell? (ad.add j) = some u) ∧ ∀ u ∈ l.map (Value.int .i64), u.oneCell' = true := by
  refine ⟨by simp, fun j u hu => ?_, fun u hu => ?_⟩
  · rw [List.getElem?_map] at hu
    cases hj : l[j]? with
    | none => rw [hj] at hu; exact absurd hu (by simp)
    | some x =>
      rw [hj] at hu; simp at hu; subst hu
      have hlt : j < l.length := by
        rcases Nat.lt_or_ge j l.length with k | k
        · exact k
        · rw [List.getElem?_eq_none k] at hj; exact absurd hj (by simp)
      obtain ⟨ad', e, hx⟩ := Kd.at_int h (j : Int) (by omega) (by omega)
      cases e
      have e2 : rd l (j : Int) = x := by
        have := rd_at l (j : Int) (by omega) (by omega)
        rw [Int.toNat_natCast, hj] at this
        injection this with this; exact this.symm
      rw [Int.toNat_natCast] at hx
      rw [← e2]; exact hx
  · obtain ⟨x, _, rfl⟩ := List.mem_map.1 hu; rfl

section
variable {H : Type} {enc : TypeId × Value → H} {w : World} {base b0 : Nat} {spare : Nat → Bool} {held : Bool} {r : Reach} {v : Value} {d0 : DataW H} {p : List MemPlace}
theorem open_of (hv : Value.okWide Try.prog w r b0 22 v) (h : DataW.Trod enc Try.prog w base spare held 22 v d0 p) :
    ∃ (A : Option Addr) (l : List Int) (c : Nat), v = .slice A l.length c ∧ l.length ≤ c ∧ Kd.C (Kd.int .i64) w A l.length l := by
  obtain ⟨A, l, c, h1, h2, h3, _⟩ := open_row (Kd.int .i64) _ Try.underlying22 (by kernel_rfl) (dec_int Try.underlying3) hv h
  exact ⟨A, l, c, h1, h2, h3⟩
end
end Go.Proofs.Ytohkobfamofkgaa
