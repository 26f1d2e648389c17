/- How calls that came in are opened: rows in rows, with what they weigh. -/
import Derived.Test.YtdnkedifjaccoaaDoorO
import Derived.Test.YtdnkedifjaccoaaDoorPh
import Derived.Deep.Strs
import Derived.Lib.SmallJoins
namespace Go.Proofs.YtdnkedifjaccoaaDoor
open Go.RowKit Go.Deep Go.ChangeShapes Go.WideShapes Go.Joins Go.Proofs.YtdnkedifjaccoaaDoorW.PrintWords PToken
/-- What a datum weighs is within the reach. -/
def Fits {H : Type} (P : Program) (t : TypeId) (d : DataW H) : Prop := ∀ n ∈ d.weights P t, n ≤ reachBytes
section
variable {H : Type} {enc : TypeId × Value → H} {P : Program} {w : World} {base : Nat} {spare : Nat → Bool} {held : Bool}
theorem mem_weightsAll {e : TypeId} {d : DataW H} : ∀ {ds : List (DataW H)}, d ∈ ds → ∀ n ∈ d.weights P e, n ∈ DataW.weightsAll P e ds
  | [], h, _, _ => by simp at h
  | x :: ds, h, n, hn => by
    unfold DataW.weightsAll
    rcases List.mem_cons.1 h with rfl | h
    · exact List.mem_append_left _ hn
    · exact List.mem_append_right _ (mem_weightsAll h n hn)
theorem mem_weightsEach : ∀ {ts : List TypeId} {ds : List (DataW H)} {j : Nat} {t : TypeId} {d : DataW H}, ts[j]? = some t → ds[j]? = some d → ∀ n ∈ d.weights P t, n ∈ DataW.weightsEach P ts ds
  | [], _, _, _, _, h, _, _, _ => by simp at h
  | _ :: _, [], _, _, _, _, h, _, _ => by simp at h
  | t0 :: ts, d0 :: ds, 0, t, d, h, h', n, hn => by
    simp at h h'
    subst h; subst h'
    unfold DataW.weightsEach
    exact List.mem_append_left _ hn
  | t0 :: ts, d0 :: ds, j + 1, t, d, h, h', n, hn => by
    unfold DataW.weightsEach
    exact List.mem_append_right _ (mem_weightsEach (by simpa using h) (by simpa using h') n hn)
theorem open_cs {α : Type} (d : Kd α) (Q : α → Prop) {t e : TypeId} {B fuel : Nat} {cs : List Value} {y : DataW H × List MemPlace} (ht : P.underlying t = some (.slice e)) (hc : P.cellsOf e = d.sz) (hB : P.bytesOf e = B)
    (hdec : ∀ n cs y, DataW.trod enc P w base spare held n e cs = some y → cs.length = d.sz → Fits P e y.1 → ∃ x, d.K w x cs ∧ Q x)
    (hf : DataW.trod enc P w base spare held fuel t cs = some y) (hw : Fits P t y.1) :
    ∃ (A : Option Addr) (l : List α) (c : Nat), cs = [.slice A l.length c] ∧ l.length ≤ c ∧ d.C w A l.length l ∧ (∀ x ∈ l, Q x) ∧ l.length * B ≤ 140737488351232 := by
  rcases open_slice ht hf with ⟨hcs, _⟩ | ⟨ad, len, cap, m, n, D, Pl, hcs, _, hl, hm, hmm, hy, hx⟩
  · exact ⟨none, [], 0, hcs, Nat.le_refl _, ⟨rfl, by simp, fun h => absurd h (by simp)⟩, by simp, by simp⟩
  · have hlm : len ≤ m := by rw [hmm]; split <;> omega
    have hW : ∀ n ∈ (len + (m - len)) * P.bytesOf e :: (DataW.weightsAll P e ((List.range len).map D) ++ DataW.weightsAll P e ((List.range (m - len)).map fun j => D (len + j))), n ≤ reachBytes := by
      intro k hk
      refine hw k ?_
      rw [hy]
      unfold DataW.weights
      rw [ht]
      simpa using hk
    have hall : ∀ i, i < len → ∃ x, (∃ cs, w.cells? base (ad.add (i * P.cellsOf e)) (P.cellsOf e) = some cs ∧ cs.length = d.sz ∧ d.K w x cs) ∧ Q x := by
      intro i hi
      obtain ⟨cs, h1, h2⟩ := hx i (by omega)
      have hlen := (cells_at h1).1
      have hfit : Fits P e (D i) := fun k hk => hW k (List.mem_cons_of_mem _ (List.mem_append_left _ (mem_weightsAll (List.mem_map.2 ⟨i, List.mem_range.2 hi, rfl⟩) k hk)))
      obtain ⟨x, hk, hq⟩ := hdec n cs _ h2 (hlen.trans hc) hfit
      exact ⟨x, ⟨cs, h1, hlen.trans hc, hk⟩, hq⟩
    have hlist : ∀ k, k ≤ len → ∃ l : List α, l.length = k ∧ ∀ i x, l[i]? = some x → (∃ cs, w.cells? base (ad.add (i * P.cellsOf e)) (P.cellsOf e) = some cs ∧ cs.length = d.sz ∧ d.K w x cs) ∧ Q x := by
      intro k
      induction k with
      | zero => intro _; exact ⟨[], rfl, by simp⟩
      | succ k ih =>
        intro hk
        obtain ⟨l, hl1, hl2⟩ := ih (by omega)
        obtain ⟨x, hx⟩ := hall k (by omega)
        refine ⟨l ++ [x], by simp [hl1], fun i y hy => ?_⟩
        by_cases hi : i < l.length
        · rw [List.getElem?_append_left hi] at hy
          exact hl2 i y hy
        · rw [List.getElem?_append_right (by omega)] at hy
          have h0 : i - l.length = 0 := by
            cases hz : i - l.length with
            | zero => rfl
            | succ q => rw [hz] at hy; simp at hy
          rw [h0] at hy
          simp at hy
          subst hy
          have : i = k := by omega
          subst this
          exact hx
    obtain ⟨l, hl1, hl2⟩ := hlist len (Nat.le_refl _)
    subst hl1
    refine ⟨some ad, l, cap, hcs, hl, ⟨rfl, by unfold maxLen at hm; omega, fun _ => ⟨ad, rfl, fun j x hj => ?_⟩⟩, fun x hx => ?_, ?_⟩
    · obtain ⟨⟨cs, h1, h2, h3⟩, _⟩ := hl2 j x hj
      refine ⟨cs, h2, h3, fun i u hu => ?_⟩
      have := (cells_at h1).2 i u hu
      rw [Go.Deep.add_add, hc] at this
      exact this
    · obtain ⟨j, hj, he⟩ := List.mem_iff_getElem.1 hx
      exact (hl2 j x (by rw [List.getElem?_eq_getElem hj, he])).2
    · have z := hW _ (List.mem_cons_self)
      rw [hB] at z
      have z2 : l.length * B ≤ (l.length + (m - l.length)) * B := Nat.mul_le_mul_right _ (by omega)
      exact Nat.le_trans (Nat.le_trans z2 z) (by decide)
theorem trod_struct5 {t : TypeId} {f0 f1 f2 f3 f4 : Field} {fuel : Nat} {cs : List Value} {x : DataW H × List MemPlace} (ht : P.underlying t = some (.struct #[f0, f1, f2, f3, f4])) (h : DataW.trod enc P w base spare held fuel t cs = some x) :
    ∃ y0 y1 y2 y3 y4 n, x.1 = .agg [y0.1, y1.1, y2.1, y3.1, y4.1] ∧ cs.length = P.cellsOf t ∧ DataW.trod enc P w base spare held n f0.type ((cs.drop f0.offset).take (P.cellsOf f0.type)) = some y0 ∧
      DataW.trod enc P w base spare held n f1.type ((cs.drop f1.offset).take (P.cellsOf f1.type)) = some y1 ∧ DataW.trod enc P w base spare held n f2.type ((cs.drop f2.offset).take (P.cellsOf f2.type)) = some y2 ∧
      DataW.trod enc P w base spare held n f3.type ((cs.drop f3.offset).take (P.cellsOf f3.type)) = some y3 ∧ DataW.trod enc P w base spare held n f4.type ((cs.drop f4.offset).take (P.cellsOf f4.type)) = some y4 := by
  obtain ⟨xs, n, _, rfl, hl, hlen, hf⟩ := DataW.trod_struct ht h
  match xs, hlen with
  | [y0, y1, y2, y3, y4], _ => exact ⟨y0, y1, y2, y3, y4, n, by simp, hl, by simpa using hf 0 f0 rfl, by simpa using hf 1 f1 rfl, by simpa using hf 2 f2 rfl, by simpa using hf 3 f3 rfl, by simpa using hf 4 f4 rfl⟩
end
namespace Ce
section
variable {H : Type} {enc : TypeId × Value → H} {w : World} {base b0 : Nat} {spare : Nat → Bool} {held : Bool} {r : Reach} {v : Value} {d0 : DataW H} {p : List MemPlace}
theorem c3 : Tryd.prog.cellsOf 3 = 1 := by kernel_rfl
theorem c9 : Tryd.prog.cellsOf 9 = 1 := by kernel_rfl
theorem c28 : Tryd.prog.cellsOf 28 = 1 := by kernel_rfl
theorem c38 : Tryd.prog.cellsOf 38 = 1 := by kernel_rfl
theorem dec_9 : ∀ n cs y, DataW.trod enc Tryd.prog w base spare held n 9 cs = some y → cs.length = Kd.string.sz → Fits Tryd.prog 9 y.1 → ∃ x, Kd.string.K w x cs ∧ x.size ≤ maxLen := by
  intro n cs y h _ _
  obtain ⟨x, h1, _, h3⟩ := DataW.trod_string Tryd.underlying9 h
  exact ⟨x, h1, h3⟩
set_option maxRecDepth 100000 in
theorem dec_56 : ∀ n cs y, DataW.trod enc Tryd.prog w base spare held n 56 cs = some y → cs.length = k56.sz → Fits Tryd.prog 56 y.1 → ∃ x, k56.K w x cs ∧ True := by
  intro n cs y h hl _
  obtain ⟨y0, y1, y2, n', _, _, h0, h1, h2⟩ := trod_struct3 Tryd.underlying56 h
  match cs, hl with
  | [a, b, c], _ =>
    simp only [c3, c9] at h0 h1 h2
    obtain ⟨x0, e0, _⟩ := DataW.trod_int Tryd.underlying3 h0
    obtain ⟨x1, e1, _⟩ := DataW.trod_int Tryd.underlying3 h1
    obtain ⟨x2, e2, _⟩ := DataW.trod_string Tryd.underlying9 h2
    simp at e0 e1 e2
    subst e0; subst e1; subst e2
    exact ⟨⟨x0, x1, x2⟩, k56_mk w ⟨x0, x1, x2⟩, trivial⟩
theorem kC_mk {x : CallV} {A B : Option Addr} {c d : Nat} (h1 : x.names.length ≤ c ∧ Kd.string.C w A x.names.length x.names) (h2 : x.cause.length ≤ d ∧ k56.C w B x.cause.length x.cause) : kC.K w x [.int .i64 x.kind, .int .i64 x.n, .string x.name, .slice A x.names.length c, .slice B x.cause.length d] :=
  ⟨_, _, rfl, rfl, _, _, rfl, rfl, _, _, rfl, rfl, _, _, rfl, ⟨A, c, rfl, h1⟩, ⟨B, d, rfl, h2⟩⟩
set_option maxRecDepth 100000 in
theorem dec_call : ∀ n cs y, DataW.trod enc Tryd.prog w base spare held n 42 cs = some y → cs.length = kC.sz → Fits Tryd.prog 42 y.1 → ∃ x, kC.K w x cs ∧ CallOk x := by
  intro n cs y h hl hfit
  obtain ⟨y0, y1, y2, y3, y4, n', hy, _, h0, h1, h2, h3, h4⟩ := trod_struct5 Tryd.underlying42 h
  have hf3 : Fits Tryd.prog 28 y3.1 := fun k hk => hfit k (by
    rw [hy]
    unfold DataW.weights
    rw [Tryd.underlying42]
    exact mem_weightsEach (j := 3) rfl rfl k hk)
  have hf4 : Fits Tryd.prog 38 y4.1 := fun k hk => hfit k (by
    rw [hy]
    unfold DataW.weights
    rw [Tryd.underlying42]
    exact mem_weightsEach (j := 4) rfl rfl k hk)
  match cs, hl with
  | [a, b, c, d, e], _ =>
    simp only [c3, c9, c28, c38] at h0 h1 h2 h3 h4
    obtain ⟨x0, e0, _⟩ := DataW.trod_int Tryd.underlying3 h0
    obtain ⟨x1, e1, _⟩ := DataW.trod_int Tryd.underlying3 h1
    obtain ⟨x2, e2, _, z2⟩ := DataW.trod_string Tryd.underlying9 h2
    obtain ⟨A, vl, cv, ev, hv1, hv2, hv3, hv4⟩ := open_cs Kd.string (fun x => x.size ≤ maxLen) (B := 16) Tryd.underlying28 (by kernel_rfl) (by kernel_rfl) dec_9 h3 hf3
    obtain ⟨B, fl, cf, ef, hw1, hw2, _, hw4⟩ := open_cs k56 (fun _ => True) (B := 32) Tryd.underlying38 (by kernel_rfl) (by kernel_rfl) dec_56 h4 hf4
    simp at e0 e1 e2 ev ef
    subst e0; subst e1; subst e2; subst ev; subst ef
    exact ⟨⟨x0, x1, x2, vl, fl⟩, kC_mk (x := ⟨x0, x1, x2, vl, fl⟩) ⟨hv1, hv2⟩ ⟨hw1, hw2⟩, z2, hv3, (by show vl.length ≤ _; omega), (by show fl.length ≤ _; omega)⟩
set_option maxRecDepth 100000 in
theorem open_calls (hv : Value.okWide Tryd.prog w r b0 22 v) (h : DataW.Trod enc Tryd.prog w base spare held 22 v d0 p) (hf : Fits Tryd.prog 22 d0) :
    ∃ (A : Option Addr) (l : List CallV) (c : Nat), v = .slice A l.length c ∧ l.length ≤ c ∧ Kd.C kC w A l.length l ∧ l.length ≤ 2000000000000 ∧ ∀ x ∈ l, CallOk x := by
  obtain ⟨a, len, cap, rfl⟩ := okWide_slice Tryd.underlying22 hv
  obtain ⟨fuel, hf'⟩ := h
  obtain ⟨A, l, c, e, h1, h2, h3, h4⟩ := open_cs kC CallOk (B := 80) Tryd.underlying22 (by kernel_rfl) (by kernel_rfl) dec_call hf' hf
  simp [Value.cells] at e
  obtain ⟨rfl, rfl, rfl⟩ := e
  exact ⟨_, l, _, rfl, h1, h2, by omega, h3⟩
end
end Ce
end Go.Proofs.YtdnkedifjaccoaaDoor
