/- A web in memory: one block of 768 cells, a row of its own for each slice. -/
import Derived.Test.YtohkobfamofkgaaProg
import Derived.Test.YtohkobfamofkgaaWMore
import Derived.Test.YtohkobfamofkgaaK
import Derived.Deep.QuietTactic
import Derived.BigQuiet
namespace Go.Proofs.Ytohkobfamofkgaa.Wb
open Go.RowKit Go.Maps Go.Proofs.Ytohkobfamofkgaa Go.Proofs.YtohkobfamofkgaaW.PrintWords Go.Proofs.YtohkobfamofkgaaW.PrintLast Go.Proofs.YtohkobfamofkgaaW.PrintMore

/-- What a web holds: the lists (0 to 127: the stacks; 128 to 383: the queues), who runs a cell, what a task waits for. -/
structure Web where
  ls : Nat → List Int
  run : Nat → Int
  wai : Nat → Int

def upd {α : Type} (f : Nat → α) (k : Nat) (x : α) : Nat → α := fun i => if i = k then x else f i

def cell (V : Nat → Value) (m : Web) (o : Nat) : Value :=
  if o < 128 then V o else if o < 384 then .int .i64 (m.run (o - 128)) else if o < 512 then .int .i64 (m.wai (o - 384)) else V (o - 384)
def cells (V : Nat → Value) (m : Web) : Array Value := ((List.range 768).map (cell V m)).toArray

theorem cells_at (V : Nat → Value) (m : Web) (o : Nat) (h : o < 768) : (cells V m)[o]? = some (cell V m o) := by
  unfold cells
  rw [List.getElem?_toArray, List.getElem?_map, List.getElem?_range h]
  rfl

theorem cells_set {V V' : Nat → Value} {m m' : Web} {o : Nat} {x : Value} (ho : o < 768) (hx : cell V' m' o = x) (h : ∀ i, i < 768 → i ≠ o → cell V' m' i = cell V m i) : (cells V m).setIfInBounds o x = cells V' m' := by
  apply Array.ext_getElem?
  intro i
  by_cases hi : i < 768
  · rw [cells_at _ _ _ hi, Array.getElem?_setIfInBounds]
    by_cases he : o = i
    · subst he; rw [if_pos rfl, if_pos (by unfold cells; rw [List.size_toArray, List.length_map, List.length_range]; exact ho), hx]
    · rw [if_neg he, cells_at _ _ _ hi, h i hi (fun e => he e.symm)]
  · rw [Array.getElem?_eq_none (by simp [cells]; omega), Array.getElem?_eq_none (by simp [cells]; omega)]

theorem upd_same {α : Type} (f : Nat → α) (k : Nat) (x : α) : upd f k x k = x := by unfold upd; rw [if_pos rfl]
theorem upd_other {α : Type} (f : Nat → α) {k i : Nat} (x : α) (h : i ≠ k) : upd f k x i = f i := by unfold upd; rw [if_neg h]
section
variable (V : Nat → Value) (m : Web)
theorem cell_stack {t : Nat} (ht : t < 128) : cell V m t = V t := by unfold cell; rw [if_pos ht]
theorem cell_runner {c : Nat} (hc : c < 256) : cell V m (128 + c) = .int .i64 (m.run c) := by
  have e : 128 + c - 128 = c := by omega
  unfold cell; rw [if_neg (by omega), if_pos (by omega), e]
theorem cell_waits {t : Nat} (ht : t < 128) : cell V m (384 + t) = .int .i64 (m.wai t) := by
  have e : 384 + t - 384 = t := by omega
  unfold cell; rw [if_neg (by omega), if_neg (by omega), if_pos (by omega), e]
theorem cell_queue {c : Nat} (hc : c < 256) : cell V m (512 + c) = V (128 + c) := by
  have e : 512 + c - 384 = 128 + c := by omega
  unfold cell; rw [if_neg (by omega), if_neg (by omega), if_neg (by omega), e]
theorem cell_run (c : Nat) (x : Int) (i : Nat) (_ : i < 768) (hne : i ≠ 128 + c) : cell V { m with run := upd m.run c x } i = cell V m i := by
  unfold cell
  by_cases h1 : i < 128
  · rw [if_pos h1, if_pos h1]
  · by_cases h2 : i < 384
    · have e : upd m.run c x (i - 128) = m.run (i - 128) := upd_other _ _ (by omega)
      rw [if_neg h1, if_neg h1, if_pos h2, if_pos h2]
      dsimp only; rw [e]
    · rw [if_neg h1, if_neg h1, if_neg h2, if_neg h2]
theorem cell_wai (t : Nat) (x : Int) (i : Nat) (_ : i < 768) (hne : i ≠ 384 + t) : cell V { m with wai := upd m.wai t x } i = cell V m i := by
  unfold cell
  by_cases h1 : i < 128
  · rw [if_pos h1, if_pos h1]
  · by_cases h2 : i < 384
    · rw [if_neg h1, if_neg h1, if_pos h2, if_pos h2]
    · by_cases h3 : i < 512
      · have e : upd m.wai t x (i - 384) = m.wai (i - 384) := upd_other _ _ (by omega)
        rw [if_neg h1, if_neg h1, if_neg h2, if_neg h2, if_pos h3, if_pos h3]
        dsimp only; rw [e]
      · rw [if_neg h1, if_neg h1, if_neg h2, if_neg h2, if_neg h3, if_neg h3]
theorem cell_stk (t : Nat) (v : Value) (l : List Int) (ht : t < 128) (i : Nat) (_ : i < 768) (hne : i ≠ t) : cell (upd V t v) { m with ls := upd m.ls t l } i = cell V m i := by
  unfold cell
  by_cases h1 : i < 128
  · rw [if_pos h1, if_pos h1, upd_other _ _ hne]
  · by_cases h2 : i < 384
    · rw [if_neg h1, if_neg h1, if_pos h2, if_pos h2]
    · by_cases h3 : i < 512
      · rw [if_neg h1, if_neg h1, if_neg h2, if_neg h2, if_pos h3, if_pos h3]
      · rw [if_neg h1, if_neg h1, if_neg h2, if_neg h2, if_neg h3, if_neg h3, upd_other _ _ (by omega)]
theorem cell_que (c : Nat) (v : Value) (l : List Int) (hc : c < 256) (i : Nat) (hi : i < 768) (hne : i ≠ 512 + c) : cell (upd V (128 + c) v) { m with ls := upd m.ls (128 + c) l } i = cell V m i := by
  unfold cell
  by_cases h1 : i < 128
  · rw [if_pos h1, if_pos h1, upd_other _ _ (by omega)]
  · by_cases h2 : i < 384
    · rw [if_neg h1, if_neg h1, if_pos h2, if_pos h2]
    · by_cases h3 : i < 512
      · rw [if_neg h1, if_neg h1, if_neg h2, if_neg h2, if_pos h3, if_pos h3]
      · rw [if_neg h1, if_neg h1, if_neg h2, if_neg h2, if_neg h3, if_neg h3, upd_other _ _ (by omega)]
end

/-- The block of a web. -/
def Blk (w : World) (b : Nat) (V : Nat → Value) (m : Web) : Prop := w.heap[b]? = some (.cells (cells V m) 67 (0, 0))

section
variable {w : World} {b : Nat} {V : Nat → Value} {m : Web} (h : Blk w b V m)
include h
theorem Blk.stack {t : Nat} (ht : t < 128) : w.cell? ⟨b, t, none⟩ = some (V t) := (blk_cell h t).trans ((cells_at V m t (by omega)).trans (congrArg some (cell_stack V m ht)))
theorem Blk.runner {c : Nat} (hc : c < 256) : w.cell? ⟨b, 128 + c, none⟩ = some (.int .i64 (m.run c)) := (blk_cell h _).trans ((cells_at V m _ (by omega)).trans (congrArg some (cell_runner V m hc)))
theorem Blk.waits {t : Nat} (ht : t < 128) : w.cell? ⟨b, 384 + t, none⟩ = some (.int .i64 (m.wai t)) := (blk_cell h _).trans ((cells_at V m _ (by omega)).trans (congrArg some (cell_waits V m ht)))
theorem Blk.queue {c : Nat} (hc : c < 256) : w.cell? ⟨b, 512 + c, none⟩ = some (V (128 + c)) := (blk_cell h _).trans ((cells_at V m _ (by omega)).trans (congrArg some (cell_queue V m hc)))
theorem Blk.free (k : Nat) : w.frozen? ⟨b, k, none⟩ = false := blk_frozen h k
theorem Blk.chg {S : Nat → Prop} {w' : World} (k : Chg S w w') (hs : ¬ S b) : Blk w' b V m := blk_chg h k hs
theorem Blk.setRunner {c : Nat} (hc : c < 256) (x : Int) : Blk (w.setCell ⟨b, 128 + c, none⟩ (.int .i64 x)) b V { m with run := upd m.run c x } :=
  (blk_set h _ _).trans (by rw [cells_set (V' := V) (m' := { m with run := upd m.run c x }) (by omega) ((cell_runner V _ hc).trans (by show Value.int .i64 (upd m.run c x c) = _; rw [upd_same])) (cell_run V m c x)])
theorem Blk.setWaits {t : Nat} (ht : t < 128) (x : Int) : Blk (w.setCell ⟨b, 384 + t, none⟩ (.int .i64 x)) b V { m with wai := upd m.wai t x } :=
  (blk_set h _ _).trans (by rw [cells_set (V' := V) (m' := { m with wai := upd m.wai t x }) (by omega) ((cell_waits V _ ht).trans (by show Value.int .i64 (upd m.wai t x t) = _; rw [upd_same])) (cell_wai V m t x)])
theorem Blk.setStack {t : Nat} (ht : t < 128) (v : Value) (l : List Int) : Blk (w.setCell ⟨b, t, none⟩ v) b (upd V t v) { m with ls := upd m.ls t l } :=
  (blk_set h _ _).trans (by rw [cells_set (V' := upd V t v) (m' := { m with ls := upd m.ls t l }) (by omega) ((cell_stack _ _ ht).trans (upd_same _ _ _)) (cell_stk V m t v l ht)])
theorem Blk.setQueue {c : Nat} (hc : c < 256) (v : Value) (l : List Int) : Blk (w.setCell ⟨b, 512 + c, none⟩ v) b (upd V (128 + c) v) { m with ls := upd m.ls (128 + c) l } :=
  (blk_set h _ _).trans (by rw [cells_set (V' := upd V (128 + c) v) (m' := { m with ls := upd m.ls (128 + c) l }) (by omega) ((cell_queue _ _ hc).trans (upd_same _ _ _)) (cell_que V m c v l hc)])
end

/-- A slice value that owns a row of whole numbers from block B on. -/
def Row (B : Nat) (w : World) (v : Value) (l : List Int) : Prop := w.ownsRow B 3 1 v l.length (l.map (Value.int .i64))

/-- A web in memory. -/
structure At (B : Nat) (w : World) (b : Nat) (V : Nat → Value) (m : Web) : Prop where
  blk : Blk w b V m
  hb : B ≤ b
  row : ∀ i, i < 384 → Row B w (V i) (m.ls i)
  apart : ∀ i j, i < 384 → j < 384 → i ≠ j → ∀ k, (V i).ownBlock = some k → (V j).ownBlock ≠ some k

theorem task_in (w : World) (t : Int) (h0 : 0 ≤ t) (h1 : t < 128) : Calls Try.prog 29 #[.int .i64 t] w fun e w' => e = .returned (.bool true) ∧ w = w' := by
  go_enter Try.func29, Try.ntmps29
  go_wp2
  go_ret
  exact ⟨rfl, rfl⟩
theorem task_out (w : World) (t : Int) (h : ¬ (0 ≤ t ∧ t < 128)) : Calls Try.prog 29 #[.int .i64 t] w fun e w' => e = .returned (.bool false) ∧ w = w' := by
  by_cases h0 : 0 ≤ t
  · have h1 : ¬ t < 128 := by omega
    clear h
    go_enter Try.func29, Try.ntmps29
    go_wp2
    go_ret
    exact ⟨rfl, rfl⟩
  · clear h
    go_enter Try.func29, Try.ntmps29
    go_wp2
    go_ret
    exact ⟨rfl, rfl⟩
theorem cell_in (w : World) (t : Int) (h0 : 0 ≤ t) (h1 : t < 256) : Calls Try.prog 31 #[.int .i64 t] w fun e w' => e = .returned (.bool true) ∧ w = w' := by
  go_enter Try.func31, Try.ntmps31
  go_wp2
  go_ret
  exact ⟨rfl, rfl⟩
theorem cell_out (w : World) (t : Int) (h : ¬ (0 ≤ t ∧ t < 256)) : Calls Try.prog 31 #[.int .i64 t] w fun e w' => e = .returned (.bool false) ∧ w = w' := by
  by_cases h0 : 0 ≤ t
  · have h1 : ¬ t < 256 := by omega
    clear h
    go_enter Try.func31, Try.ntmps31
    go_wp2
    go_ret
    exact ⟨rfl, rfl⟩
  · clear h
    go_enter Try.func31, Try.ntmps31
    go_wp2
    go_ret
    exact ⟨rfl, rfl⟩

/-- Waiting. -/
theorem waiting_in (w : World) (b : Nat) (V : Nat → Value) (m : Web) (t : Nat) (ht : t < 128) (h : Blk w b V m) (h0 : 0 ≤ m.wai t) (h1 : m.wai t ≤ 256) :
    Calls Try.prog 25 #[.pointer (some ⟨b, 0, none⟩), .int .i64 t] w fun e w' => e = .returned (.tuple #[.int .i64 (if m.wai t = 0 then 0 else m.wai t - 1), .bool (m.wai t != 0), .int .i64 0]) ∧ w = w' := by
  have c0 := h.waits ht
  clear h
  generalize m.wai t = x at *
  by_cases hx : x = 0
  · subst hx
    go_enter Try.func25, Try.ntmps25
    go_wp2_with (go_at_call 29; refine (task_in _ _ (by omega) (by omega)).mono ?_; rintro _ _ ⟨rfl, rfl⟩)
    go_ret3
    exact ⟨rfl, rfl⟩
  · have hO := Lib.hid (show Ending.returned (.tuple #[.int .i64 (x - 1), .bool true, .int .i64 0]) = .returned (.tuple #[.int .i64 (if x = 0 then 0 else x - 1), .bool (x != 0), .int .i64 0]) by rw [if_neg hx, show (x != 0) = true by simpa using hx])
    have hb : (x == 0) = false := by simpa using hx
    refine Calls.mono (R := fun e w' => e = .returned (.tuple #[.int .i64 (x - 1), .bool true, .int .i64 0]) ∧ w = w') ?_ (fun _ _ ⟨e, k⟩ => ⟨e.trans hO.out, k⟩)
    clear hO hx
    go_enter Try.func25, Try.ntmps25
    go_wp2_with (go_at_call 29; refine (task_in _ _ (by omega) (by omega)).mono ?_; rintro _ _ ⟨rfl, rfl⟩)
    go_ret3
    exact ⟨rfl, rfl⟩
theorem waiting_out (w : World) (b : Nat) (t : Int) (h : ¬ (0 ≤ t ∧ t < 128)) :
    Calls Try.prog 25 #[.pointer (some ⟨b, 0, none⟩), .int .i64 t] w fun e w' => e = .returned (.tuple #[.int .i64 0, .bool false, .int .i64 1]) ∧ w = w' := by
  have H := Lib.hid h
  clear h
  go_enter Try.func25, Try.ntmps25
  go_wp2_with (go_at_call 29; refine (task_out _ _ H.out).mono ?_; rintro _ _ ⟨rfl, rfl⟩)
  go_ret3
  exact ⟨rfl, rfl⟩

/-- Runner. -/
theorem runner_in (w : World) (b : Nat) (V : Nat → Value) (m : Web) (t : Nat) (ht : t < 256) (h : Blk w b V m) (h0 : 0 ≤ m.run t) (h1 : m.run t ≤ 128) :
    Calls Try.prog 19 #[.pointer (some ⟨b, 0, none⟩), .int .i64 t] w fun e w' => e = .returned (.tuple #[.int .i64 (if m.run t = 0 then 0 else m.run t - 1), .bool (m.run t != 0), .int .i64 0]) ∧ w = w' := by
  have c0 := h.runner ht
  clear h
  generalize m.run t = x at *
  by_cases hx : x = 0
  · subst hx
    go_enter Try.func19, Try.ntmps19
    go_wp2_with (go_at_call 31; refine (cell_in _ _ (by omega) (by omega)).mono ?_; rintro _ _ ⟨rfl, rfl⟩)
    go_ret3
    exact ⟨rfl, rfl⟩
  · have hO := Lib.hid (show Ending.returned (.tuple #[.int .i64 (x - 1), .bool true, .int .i64 0]) = .returned (.tuple #[.int .i64 (if x = 0 then 0 else x - 1), .bool (x != 0), .int .i64 0]) by rw [if_neg hx, show (x != 0) = true by simpa using hx])
    have hb : (x == 0) = false := by simpa using hx
    refine Calls.mono (R := fun e w' => e = .returned (.tuple #[.int .i64 (x - 1), .bool true, .int .i64 0]) ∧ w = w') ?_ (fun _ _ ⟨e, k⟩ => ⟨e.trans hO.out, k⟩)
    clear hO hx
    go_enter Try.func19, Try.ntmps19
    go_wp2_with (go_at_call 31; refine (cell_in _ _ (by omega) (by omega)).mono ?_; rintro _ _ ⟨rfl, rfl⟩)
    go_ret3
    exact ⟨rfl, rfl⟩
theorem runner_out (w : World) (b : Nat) (t : Int) (h : ¬ (0 ≤ t ∧ t < 256)) :
    Calls Try.prog 19 #[.pointer (some ⟨b, 0, none⟩), .int .i64 t] w fun e w' => e = .returned (.tuple #[.int .i64 0, .bool false, .int .i64 1]) ∧ w = w' := by
  have H := Lib.hid h
  clear h
  go_enter Try.func19, Try.ntmps19
  go_wp2_with (go_at_call 31; refine (cell_out _ _ H.out).mono ?_; rintro _ _ ⟨rfl, rfl⟩)
  go_ret3
  exact ⟨rfl, rfl⟩
end Go.Proofs.Ytohkobfamofkgaa.Wb
