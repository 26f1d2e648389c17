/- How acts that came in are opened: rows in rows, with what they weigh; what a cell is made of. -/
import Derived.Test.YtchbammjcnhkiaaDoorO
import Derived.Test.YtchbammjcnhkiaaDoorQ0
import Derived.Deep.Strs
import Derived.Lib.SmallJoins
namespace Go.Proofs.YtchbammjcnhkiaaDoor
open Go.RowKit Go.Deep Go.ChangeShapes Go.WideShapes Go.Joins Go.Proofs.YtchbammjcnhkiaaDoorW.PrintWords PCellPlays
/-- What a datum weighs is within the reach. -/
def Fits {H : Type} (P : Program) (t : TypeId) (d : DataW H) : Prop := ∀ n ∈ d.weights P t, n ≤ reachBytes
section
variable {H : Type} {enc : TypeId × Value → H} {P : Program} {w : World} {base : Nat} {spare : Nat → Bool} {held : Bool}
theorem mem_weightsAll {e : TypeId} {d : DataW H} : ∀ {ds : List (DataW H)}, d ∈ ds → ∀ n ∈ d.weights P e, n ∈ DataW.weightsAll P e ds
  | [], h, _, _ => by simp at h
  | x :: ds, h, n, hn => by
    unfold DataW.weightsAll
    rcases List.mem_cons.1 h with rfl | h
    · exact List.mem_append_left _ hn
    · exact List.mem_append_right _ (mem_weightsAll h n hn)
theorem mem_weightsEach : ∀ {ts : List TypeId} {ds : List (DataW H)} {j : Nat} {t : TypeId} {d : DataW H}, ts[j]? = some t → ds[j]? = some d → ∀ n ∈ d.weights P t, n ∈ DataW.weightsEach P ts ds
  | [], _, _, _, _, h, _, _, _ => by simp at h
  | _ :: _, [], _, _, _, _, h, _, _ => by simp at h
  | t0 :: ts, d0 :: ds, 0, t, d, h, h', n, hn => by
    simp at h h'
    subst h; subst h'
    unfold DataW.weightsEach
    exact List.mem_append_left _ hn
  | t0 :: ts, d0 :: ds, j + 1, t, d, h, h', n, hn => by
    unfold DataW.weightsEach
    exact List.mem_append_right _ (mem_weightsEach (by simpa using h) (by simpa using h') n hn)
theorem open_cs {α : Type} (d : Kd α) (Q : α → Prop) {t e : TypeId} {B fuel : Nat} {cs : List Value} {y : DataW H × List MemPlace} (ht : P.underlying t = some (.slice e)) (hc : P.cellsOf e = d.sz) (hB : P.bytesOf e = B)
    (hdec : ∀ n cs y, DataW.trod enc P w base spare held n e cs = some y → cs.length = d.sz → Fits P e y.1 → ∃ x, d.K w x cs ∧ Q x)
    (hf : DataW.trod enc P w base spare held fuel t cs = some y) (hw : Fits P t y.1) :
    ∃ (A : Option Addr) (l : List α) (c : Nat), cs = [.slice A l.length c] ∧ l.length ≤ c ∧ d.C w A l.length l ∧ (∀ x ∈ l, Q x) ∧ l.length * B ≤ 140737488351232 := by
  rcases open_slice ht hf with ⟨hcs, _⟩ | ⟨ad, len, cap, m, n, D, Pl, hcs, _, hl, hm, hmm, hy, hx⟩
  · exact ⟨none, [], 0, hcs, Nat.le_refl _, ⟨rfl, by simp, fun h => absurd h (by simp)⟩, by simp, by simp⟩
  · have hlm : len ≤ m := by rw [hmm]; split <;> omega
    have hW : ∀ n ∈ (len + (m - len)) * P.bytesOf e :: (DataW.weightsAll P e ((List.range len).map D) ++ DataW.weightsAll P e ((List.range (m - len)).map fun j => D (len + j))), n ≤ reachBytes := by
      intro k hk
      refine hw k ?_
      rw [hy]
      unfold DataW.weights
      rw [ht]
      simpa using hk
    have hall : ∀ i, i < len → ∃ x, (∃ cs, w.cells? base (ad.add (i * P.cellsOf e)) (P.cellsOf e) = some cs ∧ cs.length = d.sz ∧ d.K w x cs) ∧ Q x := by
      intro i hi
      obtain ⟨cs, h1, h2⟩ := hx i (by omega)
      have hlen := (cells_at h1).1
      have hfit : Fits P e (D i) := fun k hk => hW k (List.mem_cons_of_mem _ (List.mem_append_left _ (mem_weightsAll (List.mem_map.2 ⟨i, List.mem_range.2 hi, rfl⟩) k hk)))
      obtain ⟨x, hk, hq⟩ := hdec n cs _ h2 (hlen.trans hc) hfit
      exact ⟨x, ⟨cs, h1, hlen.trans hc, hk⟩, hq⟩
    have hlist : ∀ k, k ≤ len → ∃ l : List α, l.length = k ∧ ∀ i x, l[i]? = some x → (∃ cs, w.cells? base (ad.add (i * P.cellsOf e)) (P.cellsOf e) = some cs ∧ cs.length = d.sz ∧ d.K w x cs) ∧ Q x := by
      intro k
      induction k with
      | zero => intro _; exact ⟨[], rfl, by simp⟩
      | succ k ih =>
        intro hk
        obtain ⟨l, hl1, hl2⟩ := ih (by omega)
        obtain ⟨x, hx⟩ := hall k (by omega)
        refine ⟨l ++ [x], by simp [hl1], fun i y hy => ?_⟩
        by_cases hi : i < l.length
        · rw [List.getElem?_append_left hi] at hy
          exact hl2 i y hy
        · rw [List.getElem?_append_right (by omega)] at hy
          have h0 : i - l.length = 0 := by
            cases hz : i - l.length with
            | zero => rfl
            | succ q => rw [hz] at hy; simp at hy
          rw [h0] at hy
          simp at hy
          subst hy
          have : i = k := by omega
          subst this
          exact hx
    obtain ⟨l, hl1, hl2⟩ := hlist len (Nat.le_refl _)
    subst hl1
    refine ⟨some ad, l, cap, hcs, hl, ⟨rfl, by unfold maxLen at hm; omega, fun _ => ⟨ad, rfl, fun j x hj => ?_⟩⟩, fun x hx => ?_, ?_⟩
    · obtain ⟨⟨cs, h1, h2, h3⟩, _⟩ := hl2 j x hj
      refine ⟨cs, h2, h3, fun i u hu => ?_⟩
      have := (cells_at h1).2 i u hu
      rw [Go.Deep.add_add, hc] at this
      exact this
    · obtain ⟨j, hj, he⟩ := List.mem_iff_getElem.1 hx
      exact (hl2 j x (by rw [List.getElem?_eq_getElem hj, he])).2
    · have z := hW _ (List.mem_cons_self)
      rw [hB] at z
      have z2 : l.length * B ≤ (l.length + (m - l.length)) * B := Nat.mul_le_mul_right _ (by omega)
      exact Nat.le_trans (Nat.le_trans z2 z) (by decide)
end
namespace Ce
section
variable {H : Type} {enc : TypeId × Value → H} {w : World} {base b0 : Nat} {spare : Nat → Bool} {held : Bool} {r : Reach} {v : Value} {d0 : DataW H} {p : List MemPlace}
theorem c3 : Tryd.prog.cellsOf 3 = 1 := by kernel_rfl
theorem c4 : Tryd.prog.cellsOf 4 = 1 := by kernel_rfl
theorem c9 : Tryd.prog.cellsOf 9 = 1 := by kernel_rfl
theorem c33 : Tryd.prog.cellsOf 33 = 1 := by kernel_rfl
theorem c35 : Tryd.prog.cellsOf 35 = 1 := by kernel_rfl
theorem c37 : Tryd.prog.cellsOf 37 = 3 := by kernel_rfl
theorem c23 : Tryd.prog.cellsOf 23 = 4 := by kernel_rfl
set_option maxRecDepth 100000 in
theorem dec_80 : ∀ n cs y, DataW.trod enc Tryd.prog w base spare held n 80 cs = some y → cs.length = k80.sz → Fits Tryd.prog 80 y.1 → ∃ x, k80.K w x cs ∧ True := by
  intro n cs y h hl _
  obtain ⟨y0, y1, y2, y3, n', _, _, h0, h1, h2, h3⟩ := trod_struct4 Tryd.underlying80 h
  match cs, hl with
  | [a, b, c, d], _ =>
    simp only [c3, c9] at h0 h1 h2 h3
    obtain ⟨x0, e0, _⟩ := DataW.trod_int Tryd.underlying3 h0
    obtain ⟨x1, e1, _⟩ := DataW.trod_int Tryd.underlying3 h1
    obtain ⟨x2, e2, _⟩ := DataW.trod_int Tryd.underlying3 h2
    obtain ⟨x3, e3, _⟩ := DataW.trod_string Tryd.underlying9 h3
    simp at e0 e1 e2 e3
    subst e0; subst e1; subst e2; subst e3
    exact ⟨⟨x0, x1, x2, x3⟩, k80_mk w ⟨x0, x1, x2, x3⟩, trivial⟩
set_option maxRecDepth 100000 in
theorem dec_64 : ∀ n cs y, DataW.trod enc Tryd.prog w base spare held n 64 cs = some y → cs.length = k64.sz → Fits Tryd.prog 64 y.1 → ∃ x, k64.K w x cs ∧ True := by
  intro n cs y h hl _
  obtain ⟨y0, y1, y2, n', _, _, h0, h1, h2⟩ := trod_struct3 Tryd.underlying64 h
  match cs, hl with
  | [a, b, c], _ =>
    simp only [c3, c9] at h0 h1 h2
    obtain ⟨x0, e0, _⟩ := DataW.trod_int Tryd.underlying3 h0
    obtain ⟨x1, e1, _⟩ := DataW.trod_int Tryd.underlying3 h1
    obtain ⟨x2, e2, _⟩ := DataW.trod_string Tryd.underlying9 h2
    simp at e0 e1 e2
    subst e0; subst e1; subst e2
    exact ⟨⟨x0, x1, x2⟩, k64_mk w ⟨x0, x1, x2⟩, trivial⟩
/-- An act. -/
structure ActV where
  kind : Int
  task : Int
  time : Int
  ok : Int
  vl : List S80
  fl : List S64
def kact : Kd ActV := Kd.iso (Kd.pair (Kd.int .i64) (Kd.pair (Kd.int .i64) (Kd.pair (Kd.int .i64) (Kd.pair (Kd.int .i64) (Kd.pair (Kd.slice 80 k80) (Kd.slice 64 k64)))))) fun a => (a.kind, a.task, a.time, a.ok, a.vl, a.fl)
def actOk (a : ActV) : Prop := a.vl.length * 40 ≤ 140737488351232 ∧ a.fl.length * 32 ≤ 140737488351232
set_option maxRecDepth 100000 in
theorem kact_open {x : ActV} {cs : List Value} (h : kact.K w x cs) : ∃ A c B d, cs = [.int .i64 x.kind, .int .i64 x.task, .int .i64 x.time, .int .i64 x.ok, .slice A x.vl.length c, .slice B x.fl.length d] ∧ (x.vl.length ≤ c ∧ Kd.C k80 w A x.vl.length x.vl) ∧ (x.fl.length ≤ d ∧ Kd.C k64 w B x.fl.length x.fl) := by
  obtain ⟨_, _, rfl, rfl, _, _, rfl, rfl, _, _, rfl, rfl, _, _, rfl, rfl, _, _, rfl, ⟨A, c, rfl, h1⟩, ⟨B, d, rfl, h2⟩⟩ := h
  exact ⟨A, c, B, d, rfl, h1, h2⟩
theorem kact_mk {x : ActV} {A B : Option Addr} {c d : Nat} (h1 : x.vl.length ≤ c ∧ Kd.C k80 w A x.vl.length x.vl) (h2 : x.fl.length ≤ d ∧ Kd.C k64 w B x.fl.length x.fl) : kact.K w x [.int .i64 x.kind, .int .i64 x.task, .int .i64 x.time, .int .i64 x.ok, .slice A x.vl.length c, .slice B x.fl.length d] :=
  ⟨_, _, rfl, rfl, _, _, rfl, rfl, _, _, rfl, rfl, _, _, rfl, rfl, _, _, rfl, ⟨A, c, rfl, h1⟩, ⟨B, d, rfl, h2⟩⟩
set_option maxRecDepth 100000 in
theorem dec_act : ∀ n cs y, DataW.trod enc Tryd.prog w base spare held n 39 cs = some y → cs.length = kact.sz → Fits Tryd.prog 39 y.1 → ∃ x, kact.K w x cs ∧ actOk x := by
  intro n cs y h hl hfit
  obtain ⟨y0, y1, y2, y3, n', hy, _, h0, h1, h2, h3⟩ := trod_struct4 Tryd.underlying39 h
  have hf3 : Fits Tryd.prog 37 y3.1 := fun k hk => hfit k (by
    rw [hy]
    unfold DataW.weights
    rw [Tryd.underlying39]
    exact mem_weightsEach (j := 3) rfl rfl k hk)
  match cs, hl with
  | [a, b, c, d, e, f], _ =>
    simp only [c3, c37] at h0 h1 h2 h3
    obtain ⟨x0, e0, _⟩ := DataW.trod_int Tryd.underlying3 h0
    obtain ⟨x1, e1, _⟩ := DataW.trod_int Tryd.underlying3 h1
    obtain ⟨x2, e2, _⟩ := DataW.trod_int Tryd.underlying3 h2
    simp at e0 e1 e2
    subst e0; subst e1; subst e2
    obtain ⟨z0, z1, z2, n2, hz, _, g0, g1, g2⟩ := trod_struct3 Tryd.underlying37 h3
    simp only [c3, c33, c35] at g0 g1 g2
    have hf1 : Fits Tryd.prog 33 z1.1 := fun k hk => hf3 k (by
      rw [hz]
      unfold DataW.weights
      rw [Tryd.underlying37]
      exact mem_weightsEach (j := 1) rfl rfl k hk)
    have hf2 : Fits Tryd.prog 35 z2.1 := fun k hk => hf3 k (by
      rw [hz]
      unfold DataW.weights
      rw [Tryd.underlying37]
      exact mem_weightsEach (j := 2) rfl rfl k hk)
    obtain ⟨x3, e3, _⟩ := DataW.trod_int Tryd.underlying3 g0
    obtain ⟨A, vl, cv, ev, hv1, hv2, _, hv4⟩ := open_cs k80 (fun _ => True) (B := 40) Tryd.underlying33 (by kernel_rfl) (by kernel_rfl) dec_80 g1 hf1
    obtain ⟨B, fl, cf, ef, hw1, hw2, _, hw4⟩ := open_cs k64 (fun _ => True) (B := 32) Tryd.underlying35 (by kernel_rfl) (by kernel_rfl) dec_64 g2 hf2
    simp at e3 ev ef
    subst e3; subst ev; subst ef
    exact ⟨⟨x0, x1, x2, x3, vl, fl⟩, kact_mk (x := ⟨x0, x1, x2, x3, vl, fl⟩) ⟨hv1, hv2⟩ ⟨hw1, hw2⟩, hv4, hw4⟩
set_option maxRecDepth 100000 in
theorem open_acts (hv : Value.okWide Tryd.prog w r b0 26 v) (h : DataW.Trod enc Tryd.prog w base spare held 26 v d0 p) (hf : Fits Tryd.prog 26 d0) :
    ∃ (A : Option Addr) (l : List ActV) (c : Nat), v = .slice A l.length c ∧ l.length ≤ c ∧ Kd.C kact w A l.length l ∧ ∀ x ∈ l, actOk x := by
  obtain ⟨a, len, cap, rfl⟩ := okWide_slice Tryd.underlying26 hv
  obtain ⟨fuel, hf'⟩ := h
  obtain ⟨A, l, c, e, h1, h2, h3, _⟩ := open_cs kact actOk (B := 72 + 8) Tryd.underlying26 (by kernel_rfl) (by kernel_rfl) dec_act hf' hf
  simp [Value.cells] at e
  obtain ⟨rfl, rfl, rfl⟩ := e
  exact ⟨_, l, _, rfl, h1, h2, h3⟩
set_option maxRecDepth 100000 in
theorem open_new (hv : Value.okWide Tryd.prog w r b0 25 v) (h : DataW.Trod enc Tryd.prog w base spare held 25 v d0 p) :
    ∃ (a : Bool) (tr ba fa ca : Int), v = .agg #[.bool a, .int .i64 tr, .int .i64 ba, .int .i64 fa, .int .i64 ca] := by
  obtain ⟨cs, rfl, hsz⟩ := okWide_struct Tryd.underlying25 hv
  obtain ⟨fuel, hf⟩ := h
  have hs : cs.size = 5 := hsz.trans (by kernel_rfl)
  obtain ⟨l⟩ := cs
  match l, hs with
  | [c0, c1, c2, c3', c4'], _ =>
    obtain ⟨y0, y1, n', hy, _, h0, h1⟩ := trod_struct2 Tryd.underlying25 hf
    obtain ⟨z0, z1, z2, z3, n2, hz, _, g0, g1, g2, g3⟩ := trod_struct4 Tryd.underlying23 h1
    simp only [Value.cells, c3, c4, c23] at h0 g0 g1 g2 g3
    obtain ⟨x0, e0, _⟩ := DataW.trod_bool Tryd.underlying4 h0
    obtain ⟨x1, e1, _⟩ := DataW.trod_int Tryd.underlying3 g0
    obtain ⟨x2, e2, _⟩ := DataW.trod_int Tryd.underlying3 g1
    obtain ⟨x3, e3, _⟩ := DataW.trod_int Tryd.underlying3 g2
    obtain ⟨x4, e4, _⟩ := DataW.trod_int Tryd.underlying3 g3
    simp at e0 e1 e2 e3 e4
    subst e0; subst e1; subst e2; subst e3; subst e4
    exact ⟨x0, x1, x2, x3, x4, rfl⟩
end
set_option maxRecDepth 100000 in
theorem act_at {w : World} {A : Option Addr} {l : List ActV} (h : Kd.C kact w A l.length l) (hl : ∀ x ∈ l, actOk x) (j : Nat) (hj : j < l.length) : ∃ ad B c C d, A = some ad ∧ w.cell? (ad.add (j * 6)) = some (.int .i64 l[j].kind) ∧ w.cell? ⟨(ad.add (j * 6)).block, (ad.add (j * 6)).off + 1, none⟩ = some (.int .i64 l[j].task) ∧ w.cell? ⟨(ad.add (j * 6)).block, (ad.add (j * 6)).off + 2, none⟩ = some (.int .i64 l[j].time) ∧ w.cell? ⟨(ad.add (j * 6)).block, (ad.add (j * 6)).off + 3, none⟩ = some (.int .i64 l[j].ok) ∧ w.cell? ⟨(ad.add (j * 6)).block, (ad.add (j * 6)).off + 4, none⟩ = some (.slice B l[j].vl.length c) ∧ w.cell? ⟨(ad.add (j * 6)).block, (ad.add (j * 6)).off + 5, none⟩ = some (.slice C l[j].fl.length d) ∧
    (l[j].vl.length ≤ c ∧ Kd.C k80 w B l[j].vl.length l[j].vl) ∧ (l[j].fl.length ≤ d ∧ Kd.C k64 w C l[j].fl.length l[j].fl) ∧ actOk l[j] := by
  obtain ⟨ad, e, hx⟩ := h.2.2 (by omega)
  obtain ⟨cs, _, hk, hc⟩ := hx j l[j] (List.getElem?_eq_getElem hj)
  obtain ⟨B, c, C, d, rfl, h1, h2⟩ := kact_open hk
  have g1 := hc 1 _ rfl
  have g2 := hc 2 _ rfl
  have g3 := hc 3 _ rfl
  have g4 := hc 4 _ rfl
  have g5 := hc 5 _ rfl
  rw [add_field _ _ _ (by omega)] at g1 g2 g3 g4 g5
  exact ⟨ad, B, c, C, d, e, hc 0 _ rfl, g1, g2, g3, g4, g5, h1, h2, hl _ (List.getElem_mem _)⟩
end Ce
end Go.Proofs.YtchbammjcnhkiaaDoor
