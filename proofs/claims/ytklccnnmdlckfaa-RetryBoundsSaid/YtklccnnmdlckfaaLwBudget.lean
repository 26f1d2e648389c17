/- What the law on budgets needs: what the document's budget answers, in the program's own words; how the two stand in memory: for all numbers. -/
import Derived.Test.YtklccnnmdlckfaaPRetryBudgetx2
import Derived.Test.YtklccnnmdlckfaaPRetryBudgetx3
import Derived.Test.YtklccnnmdlckfaaWk
import Derived.Test.YtklccnnmdlckfaaO
namespace Go.Proofs.Ytklccnnmdlckfaa.LwBudget
open Go.RowKit Go.Maps Go.Proofs.Ytklccnnmdlckfaa Go.Proofs.Ytklccnnmdlckfaa.Br Go.Proofs.Ytklccnnmdlckfaa.PRetryBudget Go.Proofs.YtklccnnmdlckfaaW.PrintWords Go.Proofs.YtklccnnmdlckfaaW.PrintLast Go.Proofs.YtklccnnmdlckfaaW.PrintMore
open Go.ChangeShapes Go.WideShapes

theorem drawn {w w' : World} (h : Drawn0 w w') : ∃ n, w' = w.drewN n := h.out

theorem needs : Needs where
  wait w := (retry_Wait.calls 10 5 10 3 50 2 30 0 w (by decide +kernel)).mono fun _ _ h => h
  times w := (retry_Times.calls 20 5 10 3 50 0 [0, 10, 40, 90, 140] 0 w (by decide +kernel)).mono fun _ _ ⟨v, h1, h2, h3⟩ => ⟨v, h1, IntsAt.of_R h2, h3⟩
  ints w v u hv hu := by
    obtain ⟨A, c, rfl, hc, h1⟩ := hv
    obtain ⟨A', c', rfl, hc', h2⟩ := hu
    exact (onceweblaw12_ints.calls 20 A c _ A' c' _ true w h1 hc h2 hc' (by decide +kernel)).mono fun _ _ ⟨h, h'⟩ => ⟨h, drawn h'⟩

theorem open_fine {H : Type} {enc : TypeId × Value → H} {w : World} {base b0 : Nat} {spare : Nat → Bool} {held : Bool} {r : Reach} {v : Value} {d0 : DataW H} {p : List MemPlace}
    (hv : Value.okWide Try.prog w r b0 37 v) (h : DataW.Trod enc Try.prog w base spare held 37 v d0 p) : ∃ (A : Option Addr) (l : List Bool) (c : Nat), v = .slice A l.length c ∧ l.length ≤ c ∧ Kd.bool.C w A l.length l := by
  obtain ⟨A, l, c, h1, h2, h3, _⟩ := open_row Kd.bool (fun _ => True) Try.underlying37 (by kernel_rfl) (dec_bool Try.underlying4) hv h
  exact ⟨A, l, c, h1, h2, h3⟩

theorem million_iff {a : Int} : million a = true ↔ 0 ≤ a ∧ a ≤ 1000000 := by unfold million; simp

theorem rnew_good (w : World) (p q r : Int) (h1 : million p = true) (h2 : million q = true) (h3 : million r = true) :
    Calls Try.prog 17 #[.int .i64 p, .int .i64 q, .int .i64 r] w fun e w' => e = .returned (.tuple #[.agg #[.int .i64 p, .int .i64 q, .int .i64 r, .int .i64 p], .int .i64 0]) ∧ Below w.heap.size w w' := by
  rw [million_iff] at h1 h2 h3
  refine oncewebref12_NewBudget.calls p q r p q r p 0 w ?_
  unfold oncewebref12_NewBudget.f
  rw [if_neg (by omega), if_neg (by omega), if_neg (by omega), if_neg (by omega), if_neg (by omega), if_neg (by omega)]

theorem rnew_bad (w : World) (p q r : Int) (h : (million p && million q && million r) = false) :
    Calls Try.prog 17 #[.int .i64 p, .int .i64 q, .int .i64 r] w fun e w' => e = .returned (.tuple #[.agg #[.int .i64 0, .int .i64 0, .int .i64 0, .int .i64 0], .int .i64 1]) ∧ Below w.heap.size w w' := by
  refine oncewebref12_NewBudget.calls p q r 0 0 0 0 1 w ?_
  unfold oncewebref12_NewBudget.f
  have h' : ¬ ((0 ≤ p ∧ p ≤ 1000000) ∧ (0 ≤ q ∧ q ≤ 1000000) ∧ (0 ≤ r ∧ r ≤ 1000000)) := by
    rintro ⟨a, b, c⟩
    rw [million_iff.2 a, million_iff.2 b, million_iff.2 c] at h
    exact absurd h (by simp)
  (repeat' split) <;> first | rfl | (exfalso; omega)

theorem rask (w : World) (p q r s : Int) (hs : million s = true) :
    Calls Try.prog 19 #[.agg #[.int .i64 p, .int .i64 q, .int .i64 r, .int .i64 s]] w fun e w' => e = .returned (.bool (decide (p < 2 * s))) ∧ Below w.heap.size w w' := by
  rw [million_iff] at hs
  refine oncewebref12_Budget_Ask.calls p q r s _ w ?_
  unfold oncewebref12_Budget_Ask.f
  rw [show wrap64 (2 * s) = 2 * s by unfold wrap64; omega]

theorem budtold_million {p q r s : Int} (hp : million p = true) (hq : million q = true) (hr : million r = true) (hs : million s = true) (f : Bool) : million (budtold p q r s f) = true := by
  rw [million_iff] at *
  unfold budtold
  cases f <;> simp <;> split <;> omega

theorem rtell (w : World) (p q r s : Int) (f : Bool) (hp : million p = true) (hq : million q = true) (hr : million r = true) (hs : million s = true) :
    Calls Try.prog 22 #[.agg #[.int .i64 p, .int .i64 q, .int .i64 r, .int .i64 s], .bool f] w fun e w' => e = .returned (.agg #[.int .i64 p, .int .i64 q, .int .i64 r, .int .i64 (budtold p q r s f)]) ∧ Below w.heap.size w w' := by
  rw [million_iff] at *
  refine oncewebref12_Budget_Tell.calls p q r s f _ _ _ _ w ?_
  unfold oncewebref12_Budget_Tell.f budtold
  cases f
  · rw [if_neg (by simp), if_neg (by simp), show wrap64 (s - q) = s - q by unfold wrap64; omega]
    unfold mx
    (repeat' split) <;> first | rfl | (exfalso; omega) | (simp; omega)
  · rw [if_pos rfl, if_pos rfl, show wrap64 (s + r) = s + r by unfold wrap64; omega]
    unfold mn
    (repeat' split) <;> first | rfl | (exfalso; omega) | (simp; omega)

/-- The program's budget in block b, the document's in block g: the same numbers; all else as in w. -/
structure Two (w wr : World) (b g : Nat) (p q r s : Int) : Prop where
  bud : Bud wr b p q r s
  ref : wr.heap[g]? = some (.cells #[.int .i64 p, .int .i64 q, .int .i64 r, .int .i64 s] 42 (0, 0))
  below : Below w.heap.size w wr
  hb : w.heap.size ≤ b
  hg : w.heap.size ≤ g
  ms : million s = true

theorem Two.step {w wr w' : World} {b g : Nat} {p q r s : Int} (h : Two w wr b g p q r s) (k : Below wr.heap.size wr w') : Two w w' b g p q r s :=
  ⟨h.bud.chg (S := fun _ => False) (Chg.of_below k) (fun h => h), blk_below h.ref k, h.below.trans (k.mono h.below.size), h.hb, h.hg, h.ms⟩
theorem Two.ne {w wr : World} {b g : Nat} {p q r s : Int} (h : Two w wr b g p q r s) : g ≠ b := by
  rintro rfl
  have h1 := h.bud
  unfold Bud at h1
  rw [h.ref] at h1
  injection h1 with h1
  injection h1 with _ h2
  exact absurd h2 (by decide)
theorem Two.cells {w wr : World} {b g : Nat} {p q r s : Int} (h : Two w wr b g p q r s) :
    wr.cell? ⟨g, 0, none⟩ = some (.int .i64 p) ∧ wr.cell? ⟨g, 1, none⟩ = some (.int .i64 q) ∧ wr.cell? ⟨g, 2, none⟩ = some (.int .i64 r) ∧ wr.cell? ⟨g, 3, none⟩ = some (.int .i64 s) ∧ ∀ k, wr.frozen? ⟨g, k, none⟩ = false :=
  ⟨(blk_cell h.ref 0).trans rfl, (blk_cell h.ref 1).trans rfl, (blk_cell h.ref 2).trans rfl, (blk_cell h.ref 3).trans rfl, fun k => blk_frozen h.ref k⟩
end Go.Proofs.Ytklccnnmdlckfaa.LwBudget
