/- How scopes and parts that came in are opened: rows in rows, with what they hold under the second form's bound. -/
import Derived.Test.YtccjclmjoegibaaDoorO
import Derived.Test.YtccjclmjoegibaaDoorRows
import Derived.Test.YtccjclmjoegibaaDoorOb
import Derived.Deep.Strs
import Derived.Lib.SmallJoins
namespace Go.Proofs.YtccjclmjoegibaaDoor
open Go.RowKit Go.Deep Go.ChangeShapes Go.WideShapes Go.Joins Go.Proofs.YtccjclmjoegibaaDoorW.PrintWords PCloserOrders
set_option linter.unusedVariables false
set_option linter.unusedSimpArgs false
section
variable {H : Type} {enc : TypeId × Value → H} {P : Program} {w : World} {base : Nat} {spare : Nat → Bool} {held : Bool}
theorem bulk_one (d : DataW H) : 1 ≤ Rows.uptoBulk d := by
  cases d with
  | lit l => cases l <;> simp [Rows.uptoBulk]
  | nil => simp [Rows.uptoBulk]
  | ptr d => simp [Rows.uptoBulk]
  | slice elems spare => simp [Rows.uptoBulk]
  | agg parts => simp [Rows.uptoBulk]
  | iface t d => simp [Rows.uptoBulk]
  | map entries => simp [Rows.uptoBulk]
  | held h => simp [Rows.uptoBulk]
theorem bulk_app (l r : List (DataW H)) : Rows.uptoBulkAll (l ++ r) = Rows.uptoBulkAll l + Rows.uptoBulkAll r := by
  induction l with
  | nil => simp [Rows.uptoBulkAll]
  | cons x l ih => simp only [List.cons_append, Rows.uptoBulkAll, ih]; omega
theorem bulk_part {d : DataW H} {l : List (DataW H)} (h : d ∈ l) : Rows.uptoBulk d ≤ Rows.uptoBulkAll l := by
  induction l with
  | nil => cases h
  | cons x r ih =>
    simp only [Rows.uptoBulkAll]
    cases List.mem_cons.1 h with
    | inl e => subst e; omega
    | inr e => have := ih e; omega
/-- A row of which each element's cost is within its bulk. -/
theorem open_bulk {α : Type} (d : Kd α) (cost : α → Nat) {t e : TypeId} {fuel : Nat} {cs : List Value} {y : DataW H × List MemPlace} (ht : P.underlying t = some (.slice e)) (hc : P.cellsOf e = d.sz)
    (hdec : ∀ n cs y, DataW.trod enc P w base spare held n e cs = some y → cs.length = d.sz → ∃ x, d.K w x cs ∧ cost x ≤ Rows.uptoBulk y.1)
    (hf : DataW.trod enc P w base spare held fuel t cs = some y) :
    ∃ (A : Option Addr) (l : List α) (c : Nat), cs = [.slice A l.length c] ∧ l.length ≤ c ∧ d.C w A l.length l ∧ (l.map cost).sum + 1 ≤ Rows.uptoBulk y.1 := by
  rcases open_slice ht hf with ⟨hcs, _⟩ | ⟨ad, len, cap, m, n, D, Pl, hcs, _, hl, hm, hmm, hy, hx⟩
  · exact ⟨none, [], 0, hcs, Nat.le_refl _, ⟨rfl, by simp, fun h => absurd h (by simp)⟩, by have := bulk_one y.1; simpa using this⟩
  · have hlm : len ≤ m := by rw [hmm]; split <;> omega
    have hall : ∀ i, i < len → ∃ x, (∃ cs, w.cells? base (ad.add (i * P.cellsOf e)) (P.cellsOf e) = some cs ∧ cs.length = d.sz ∧ d.K w x cs) ∧ cost x ≤ Rows.uptoBulk (D i) := by
      intro i hi
      obtain ⟨cs, h1, h2⟩ := hx i (by omega)
      have hlen := (cells_at h1).1
      obtain ⟨x, hk, hq⟩ := hdec n cs _ h2 (hlen.trans hc)
      exact ⟨x, ⟨cs, h1, hlen.trans hc, hk⟩, hq⟩
    have hlist : ∀ k, k ≤ len → ∃ l : List α, l.length = k ∧ (l.map cost).sum ≤ Rows.uptoBulkAll ((List.range k).map D) ∧ ∀ i x, l[i]? = some x → (∃ cs, w.cells? base (ad.add (i * P.cellsOf e)) (P.cellsOf e) = some cs ∧ cs.length = d.sz ∧ d.K w x cs) := by
      intro k
      induction k with
      | zero => intro _; exact ⟨[], rfl, by simp, by simp⟩
      | succ k ih =>
        intro hk
        obtain ⟨l, hl1, hl3, hl2⟩ := ih (by omega)
        obtain ⟨x, hx, hcx⟩ := hall k (by omega)
        refine ⟨l ++ [x], by simp [hl1], ?_, fun i y hy => ?_⟩
        · rw [List.range_succ, List.map_append, List.map_append, bulk_app, List.sum_append]
          simp only [List.map_cons, List.map_nil, Rows.uptoBulkAll, List.sum_cons, List.sum_nil]
          omega
        · by_cases hi : i < l.length
          · rw [List.getElem?_append_left hi] at hy
            exact hl2 i y hy
          · rw [List.getElem?_append_right (by omega)] at hy
            have h0 : i - l.length = 0 := by
              cases hz : i - l.length with
              | zero => rfl
              | succ q => rw [hz] at hy; simp at hy
            rw [h0] at hy
            simp at hy
            subst hy
            have : i = k := by omega
            subst this
            exact hx
    obtain ⟨l, hl1, hl3, hl2⟩ := hlist len (Nat.le_refl _)
    subst hl1
    refine ⟨some ad, l, cap, hcs, hl, ⟨rfl, by unfold maxLen at hm; omega, fun _ => ⟨ad, rfl, fun j x hj => ?_⟩⟩, ?_⟩
    · obtain ⟨cs, h1, h2, h3⟩ := hl2 j x hj
      refine ⟨cs, h2, h3, fun i u hu => ?_⟩
      have := (cells_at h1).2 i u hu
      rw [Go.Deep.add_add, hc] at this
      exact this
    · rw [hy]
      simp only [Rows.uptoBulk]
      omega
theorem trod_struct6 {t : TypeId} {f0 f1 f2 f3 f4 f5 : Field} {fuel : Nat} {cs : List Value} {x : DataW H × List MemPlace} (ht : P.underlying t = some (.struct #[f0, f1, f2, f3, f4, f5])) (h : DataW.trod enc P w base spare held fuel t cs = some x) :
    ∃ y0 y1 y2 y3 y4 y5 n, x.1 = .agg [y0.1, y1.1, y2.1, y3.1, y4.1, y5.1] ∧ cs.length = P.cellsOf t ∧ DataW.trod enc P w base spare held n f0.type ((cs.drop f0.offset).take (P.cellsOf f0.type)) = some y0 ∧
      DataW.trod enc P w base spare held n f1.type ((cs.drop f1.offset).take (P.cellsOf f1.type)) = some y1 ∧ DataW.trod enc P w base spare held n f2.type ((cs.drop f2.offset).take (P.cellsOf f2.type)) = some y2 ∧
      DataW.trod enc P w base spare held n f3.type ((cs.drop f3.offset).take (P.cellsOf f3.type)) = some y3 ∧ DataW.trod enc P w base spare held n f4.type ((cs.drop f4.offset).take (P.cellsOf f4.type)) = some y4 ∧ DataW.trod enc P w base spare held n f5.type ((cs.drop f5.offset).take (P.cellsOf f5.type)) = some y5 := by
  obtain ⟨xs, n, _, rfl, hl, hlen, hf⟩ := DataW.trod_struct ht h
  match xs, hlen with
  | [y0, y1, y2, y3, y4, y5], _ => exact ⟨y0, y1, y2, y3, y4, y5, n, by simp, hl, by simpa using hf 0 f0 rfl, by simpa using hf 1 f1 rfl, by simpa using hf 2 f2 rfl, by simpa using hf 3 f3 rfl, by simpa using hf 4 f4 rfl, by simpa using hf 5 f5 rfl⟩
end
namespace Ce
section
variable {H : Type} {enc : TypeId × Value → H} {w : World} {base b0 : Nat} {spare : Nat → Bool} {held : Bool} {r : Reach} {v : Value} {d0 : DataW H} {p : List MemPlace}
theorem c3 : Tryd.prog.cellsOf 3 = 1 := by kernel_rfl
theorem c4 : Tryd.prog.cellsOf 4 = 1 := by kernel_rfl
theorem c9 : Tryd.prog.cellsOf 9 = 1 := by kernel_rfl
theorem c22 : Tryd.prog.cellsOf 22 = 1 := by kernel_rfl
theorem c31 : Tryd.prog.cellsOf 31 = 2 := by kernel_rfl
theorem dec_i : ∀ n cs y, DataW.trod enc Tryd.prog w base spare held n 3 cs = some y → cs.length = (Kd.int .i64).sz → ∃ x, (Kd.int .i64).K w x cs ∧ 1 ≤ Rows.uptoBulk y.1 := by
  intro n cs y h _
  obtain ⟨x, h1, _⟩ := DataW.trod_int Tryd.underlying3 h
  exact ⟨x, h1, bulk_one y.1⟩
theorem sum_one {α : Type} (l : List α) : (l.map fun _ => 1).sum = l.length := by
  induction l with
  | nil => rfl
  | cons a l ih => simp [ih]; omega
def partCost (x : S33) : Nat := x.f4.length + 1
set_option maxRecDepth 100000 in
theorem dec_part : ∀ n cs y, DataW.trod enc Tryd.prog w base spare held n 33 cs = some y → cs.length = k33.sz → ∃ x, k33.K w x cs ∧ partCost x ≤ Rows.uptoBulk y.1 := by
  intro n cs y h hl
  obtain ⟨y0, y1, y2, y3, y4, y5, n', hy, _, h0, h1, h2, h3, h4, h5⟩ := trod_struct6 Tryd.underlying33 h
  match cs, hl with
  | [a, b, c, d, e, f, g], _ =>
    simp only [c3, c4, c9, c22, c31] at h0 h1 h2 h3 h4 h5
    obtain ⟨x0, e0, _⟩ := DataW.trod_int Tryd.underlying3 h0
    obtain ⟨x1, e1, _⟩ := DataW.trod_string Tryd.underlying9 h1
    obtain ⟨x2, e2, _⟩ := DataW.trod_bool Tryd.underlying4 h2
    obtain ⟨x3, e3, _⟩ := DataW.trod_int Tryd.underlying3 h3
    obtain ⟨A, l, c', e4, hc, hr, hb⟩ := open_bulk (Kd.int .i64) (fun _ => 1) Tryd.underlying22 c3 dec_i h4
    obtain ⟨z0, z1, n2, hz, _, g0, g1⟩ := trod_struct2 Tryd.underlying31 h5
    simp only [c3, c9] at g0 g1
    obtain ⟨x5, e5, _⟩ := DataW.trod_int Tryd.underlying3 g0
    obtain ⟨x6, e6, _⟩ := DataW.trod_string Tryd.underlying9 g1
    simp at e0 e1 e2 e3 e4 e5 e6
    subst e0; subst e1; subst e2; subst e3; subst e4; subst e5; subst e6
    refine ⟨⟨x0, x1, x2, x3, l, ⟨x5, x6⟩⟩, k33_mk w ⟨x0, x1, x2, x3, l, ⟨x5, x6⟩⟩ hc hr, ?_⟩
    rw [sum_one] at hb
    rw [hy]
    simp only [Rows.uptoBulk, Rows.uptoBulkAll]
    show l.length + 1 ≤ _
    omega
theorem sum_unS (l : List S33) : ∀ n, n ≤ l.length → unS l [] n = ((l.take n).map fun x => x.f4.length).sum
  | 0, _ => by simp [unS]
  | n + 1, h => by
    have ih := sum_unS l n (by omega)
    have h2 : rdOf false ([] : List Bool) (n : Int) = false := by simp [rdOf]
    rw [unS, h2, if_neg (show ¬ false = true by decide), ih, List.take_add_one, List.map_append, List.sum_append, List.getElem?_eq_getElem (by omega)]
    have : usesOf l (n : Int) = (l[n]'(by omega)).f4 := by
      unfold usesOf rd_T33
      rw [Int.toNat_natCast, List.getD_eq_getElem?_getD, List.getElem?_eq_getElem (by omega)]
      rfl
    rw [this]
    simp
theorem cost_le (l : List S33) : ((l.map fun x => x.f4.length).sum) ≤ (l.map partCost).sum := by
  induction l with
  | nil => simp
  | cons a l ih => simp only [List.map_cons, List.sum_cons, partCost] at ih ⊢; omega
theorem cost_mem {l : List S33} {x : S33} (h : x ∈ l) : x.f4.length ≤ (l.map partCost).sum := by
  induction l with
  | nil => simp at h
  | cons a l ih =>
    simp only [List.map_cons, List.sum_cons, partCost] at ih ⊢
    rcases List.mem_cons.1 h with rfl | h
    · omega
    · have := ih h; omega
/-- The parts, opened under the bound. -/
theorem open_parts (hv : Value.okWide Tryd.prog w r b0 23 v) (h : DataW.Trod enc Tryd.prog w base spare held 23 v d0 p) (hb : Rows.uptoBulk d0 ≤ 1048576) :
    ∃ (A : Option Addr) (l : List S33) (c : Nat), v = .slice A l.length c ∧ l.length ≤ c ∧ Kd.C k33 w A l.length l ∧ (∀ x ∈ l, x.f4.length ≤ 1048576) ∧ unS l [] l.length ≤ 1048576 := by
  obtain ⟨a, len, cap, rfl⟩ := okWide_slice Tryd.underlying23 hv
  obtain ⟨fuel, hf⟩ := h
  obtain ⟨A, l, c, hcs, hc, hr, hs⟩ := open_bulk k33 partCost Tryd.underlying23 (by kernel_rfl) dec_part hf
  simp [Value.cells] at hcs
  obtain ⟨rfl, rfl, rfl⟩ := hcs
  have hs' : (l.map partCost).sum + 1 ≤ 1048576 := Nat.le_trans hs hb
  refine ⟨_, l, _, rfl, hc, hr, fun x hx => ?_, ?_⟩
  · have := cost_mem hx; omega
  · rw [sum_unS l l.length (Nat.le_refl _), List.take_length]
    have := cost_le l
    omega
theorem open_ups (hv : Value.okWide Tryd.prog w r b0 22 v) (h : DataW.Trod enc Tryd.prog w base spare held 22 v d0 p) (hb : Rows.uptoBulk d0 ≤ 1048576) :
    ∃ (A : Option Addr) (l : List Int) (c : Nat), v = .slice A l.length c ∧ l.length ≤ c ∧ Kd.C (Kd.int .i64) w A l.length l ∧ l.length ≤ 1048576 := by
  obtain ⟨a, len, cap, rfl⟩ := okWide_slice Tryd.underlying22 hv
  obtain ⟨fuel, hf⟩ := h
  obtain ⟨A, l, c, hcs, hc, hr, hs⟩ := open_bulk (Kd.int .i64) (fun _ => 1) Tryd.underlying22 c3 dec_i hf
  simp [Value.cells] at hcs
  obtain ⟨rfl, rfl, rfl⟩ := hcs
  rw [sum_one] at hs
  have hs' : l.length + 1 ≤ Rows.uptoBulk d0 := hs
  exact ⟨_, l, _, rfl, hc, hr, by omega⟩
end
end Ce
end Go.Proofs.YtccjclmjoegibaaDoor
