/- tells, step, and the walk of DependPlays. -/
import Derived.Test.YtohkobfamofkgaaPl
import Derived.Test.YtohkobfamofkgaaIn
import Derived.Deep.Strs
import Derived.Test.YtohkobfamofkgaaMb
namespace Go.Proofs.Ytohkobfamofkgaa
open Go.RowKit Go.Maps Go.Deep Go.WideShapes Go.ChangeShapes Go.Proofs.Ytohkobfamofkgaa Go.Proofs.Ytohkobfamofkgaa.Wb Go.Proofs.YtohkobfamofkgaaW.PrintWords Go.Proofs.YtohkobfamofkgaaW.PrintLast Go.Proofs.YtohkobfamofkgaaW.PrintMore

/-- A call: kind, task, cell. -/
def kcall : Kd (Int × Int × Int) := Kd.pair (Kd.int .i64) (Kd.pair (Kd.int .i64) (Kd.int .i64))
theorem kcall_open {w : World} {x : Int × Int × Int} {cs : List Value} (h : kcall.K w x cs) : cs = [.int .i64 x.1, .int .i64 x.2.1, .int .i64 x.2.2] := by
  obtain ⟨_, _, rfl, rfl, _, _, rfl, rfl, rfl⟩ := h
  exact rfl
theorem kcall_mk (w : World) (a b c : Int) : kcall.K w (a, b, c) [.int .i64 a, .int .i64 b, .int .i64 c] := ⟨_, _, rfl, rfl, _, _, rfl, rfl, rfl⟩
section
variable {H : Type} {enc : TypeId × Value → H} {w : World} {base b0 : Nat} {spare : Nat → Bool} {held : Bool} {r : Reach} {v : Value} {d0 : DataW H} {p : List MemPlace}
theorem cells3 : Try.prog.cellsOf 3 = 1 := by kernel_rfl
theorem dec_call : ∀ n cs y, DataW.trod enc Try.prog w base spare held n 50 cs = some y → cs.length = kcall.sz → ∃ x, kcall.K w x cs ∧ True := by
  intro n cs y h hl
  obtain ⟨y0, y1, y2, n', _, _, h0, h1, h2⟩ := trod_struct3 Try.underlying50 h
  match cs, hl with
  | [a, b, c], _ =>
    simp only [cells3] at h0 h1 h2
    obtain ⟨x0, e0, _⟩ := DataW.trod_int Try.underlying3 h0
    obtain ⟨x1, e1, _⟩ := DataW.trod_int Try.underlying3 h1
    obtain ⟨x2, e2, _⟩ := DataW.trod_int Try.underlying3 h2
    simp at e0 e1 e2
    subst e0; subst e1; subst e2
    exact ⟨(x0, x1, x2), kcall_mk w x0 x1 x2, trivial⟩
theorem open_calls (hv : Value.okWide Try.prog w r b0 31 v) (h : DataW.Trod enc Try.prog w base spare held 31 v d0 p) :
    ∃ (A : Option Addr) (l : List (Int × Int × Int)) (c : Nat), v = .slice A l.length c ∧ l.length ≤ c ∧ Kd.C kcall w A l.length l := by
  obtain ⟨A, l, c, h1, h2, h3, _⟩ := open_row kcall (fun _ => True) Try.underlying31 (by kernel_rfl) dec_call hv h
  exact ⟨A, l, c, h1, h2, h3⟩
end
theorem call_at {w : World} {A : Option Addr} {l : List (Int × Int × Int)} (h : Kd.C kcall w A l.length l) (j : Nat) (hj : j < l.length) : ∃ ad, A = some ad ∧ w.cell? (ad.add (j * 3)) = some (.int .i64 l[j].1) ∧ w.cell? ⟨(ad.add (j * 3)).block, (ad.add (j * 3)).off + 1, none⟩ = some (.int .i64 l[j].2.1) ∧ w.cell? ⟨(ad.add (j * 3)).block, (ad.add (j * 3)).off + 2, none⟩ = some (.int .i64 l[j].2.2) := by
  obtain ⟨ad, e, hx⟩ := h.2.2 (by omega)
  obtain ⟨cs, _, hk, hc⟩ := hx j l[j] (List.getElem?_eq_getElem hj)
  have e3 := kcall_open hk
  subst e3
  have h1 := hc 1 _ rfl
  have h2 := hc 2 _ rfl
  rw [add_field _ _ _ (by omega)] at h1 h2
  exact ⟨ad, e, hc 0 _ rfl, h1, h2⟩
end Go.Proofs.Ytohkobfamofkgaa
namespace Go.Proofs.Ytohkobfamofkgaa
open Go.RowKit Go.Maps Go.Proofs.Ytohkobfamofkgaa Go.Proofs.Ytohkobfamofkgaa.Wb Go.Proofs.Ytohkobfamofkgaa.PDependPlays Go.Proofs.YtohkobfamofkgaaW.PrintWords Go.Proofs.YtohkobfamofkgaaW.PrintLast Go.Proofs.YtohkobfamofkgaaW.PrintMore

/-- A slice that may be written. -/
def Wr (B : Nat) (w : World) (s : Value) (n : Nat) : Prop := n = 0 ∨ ∃ g cap cur, s = .slice (some ⟨g, 0, none⟩) n cap ∧ B ≤ g ∧ w.heap[g]? = some (.cells cur 3 (0, 0)) ∧ n ≤ cur.size
theorem Wr.of_row {B : Nat} {w : World} {s : Value} {l : List Int} (h : Row B w s l) : Wr B w s l.length := by
  rcases h.cases with ⟨rfl, rfl⟩ | ⟨g, cap, cur, rfl, h1, h2, h3, h4, h5, h6⟩
  · exact Or.inl rfl
  · exact Or.inr ⟨g, cap, cur, rfl, h1, h2, by omega⟩
theorem Wr.lower {B B' : Nat} {w : World} {s : Value} {n : Nat} (h : Wr B w s n) (hb : B' ≤ B) : Wr B' w s n := by
  rcases h with h | ⟨g, cap, cur, e, h1, h2, h3⟩
  · exact Or.inl h
  · exact Or.inr ⟨g, cap, cur, e, Nat.le_trans hb h1, h2, h3⟩
theorem Wr.below {B : Nat} {w w' : World} {s : Value} {n : Nat} (h : Wr B w s n) (k : Below w.heap.size w w') : Wr B w' s n := by
  rcases h with h | ⟨g, cap, cur, e, h1, h2, h3⟩
  · exact Or.inl h
  · exact Or.inr ⟨g, cap, cur, e, h1, blk_below h2 k, h3⟩
theorem Wr.set {B : Nat} {w : World} {s : Value} {n : Nat} (h : Wr B w s n) (g j : Nat) (v : Value) : Wr B (w.setCell ⟨g, j, none⟩ v) s n := by
  rcases h with h | ⟨g', cap, cur, e, h1, h2, h3⟩
  · exact Or.inl h
  · by_cases hg : g' = g
    · subst hg
      exact Or.inr ⟨g', cap, _, e, h1, blk_set h2 j v, by rw [Array.size_setIfInBounds]; exact h3⟩
    · exact Or.inr ⟨g', cap, cur, e, h1, (Below.heap_setCell _ _ _ _ hg).trans h2, h3⟩
theorem Wr.at_ {B : Nat} {w : World} {A : Option Addr} {n cap : Nat} (h : Wr B w (.slice A n cap) n) {j : Nat} (hj : j < n) : ∃ g u, A = some ⟨g, 0, none⟩ ∧ B ≤ g ∧ w.cell? ⟨g, j, none⟩ = some u ∧ w.frozen? ⟨g, j, none⟩ = false := by
  rcases h with h | ⟨g, cap', cur, e, h1, h2, h3⟩
  · omega
  · injection e with e1 e2 e3
    exact ⟨g, cur[j]'(by omega), e1, h1, (blk_cell h2 j).trans (Array.getElem?_eq_getElem (by omega)), blk_frozen h2 j⟩

/-- What stands while tells asks. -/
structure Tl (w0 w wr : World) (b : Nat) (m : Web) (v0 v1 : Value) (R : List S55) (Ws : List S57) (g0 : Nat) (vs : List (Value × List Int)) : Prop where
  bo : Bo w0 wr b m v0 v1 R Ws (fun k => k = g0)
  bel : Below w.heap.size w wr
  bx : Bx wr g0 v0 v1
  vs : ∀ x ∈ vs, Row w.heap.size wr x.1 x.2
section
variable {w0 w wr w' : World} {b g0 : Nat} {m : Web} {v0 v1 : Value} {R : List S55} {Ws : List S57} {vs : List (Value × List Int)}
theorem Tl.to (h : Tl w0 w wr b m v0 v1 R Ws g0 vs) (k : Below wr.heap.size wr w') : Tl w0 w w' b m v0 v1 R Ws g0 vs := by
  obtain ⟨j1, j2⟩ := h.bo.to k
  exact ⟨j1, h.bel.trans ⟨k.os, k.tape, k.output, k.size, fun i hi => k.block i (Nat.lt_of_lt_of_le hi h.bel.size)⟩, h.bx.same j2 rfl, fun x hx => (h.vs x hx).below k⟩
theorem Tl.add {v : Value} {l : List Int} (h : Tl w0 w wr b m v0 v1 R Ws g0 vs) (hr : Row wr.heap.size w' v l) (k : Below wr.heap.size wr w') : Tl w0 w w' b m v0 v1 R Ws g0 ((v, l) :: vs) := by
  have h' := h.to k
  refine ⟨h'.bo, h'.bel, h'.bx, fun x hx => ?_⟩
  rcases List.mem_cons.1 hx with rfl | hx
  · exact hr.lower h.bel.size
  · exact h'.vs x hx
theorem Tl.ints {v : Value} {l : List Int} (h : Tl w0 w wr b m v0 v1 R Ws g0 vs) (hx : (v, l) ∈ vs) : IntsAt wr v l := IntsAt.of_row (h.vs _ hx)
theorem stack_t (t : Int) (l : List Int) (x : Int) (hl : (if okT t then PDependPlays.look t R else []) = l) (hx : (if okT t then (0 : Int) else 1) = x) (hr : Hid (Rel m R Ws)) (hi : Hid (Iw m)) (h : Hid (Tl w0 w wr b m v0 v1 R Ws g0 vs)) :
    Calls Try.prog 15 #[.pointer (some ⟨b, 0, none⟩), .int .i64 t] wr fun e w' => ∃ A cap, e = .returned (.tuple #[.slice A l.length cap, .int .i64 x]) ∧ Hid (Tl w0 w w' b m v0 v1 R Ws g0 ((.slice A l.length cap, l) :: vs)) := by
  subst hl; subst hx
  obtain ⟨V, h1, _⟩ := h.out.bo.web
  by_cases hx : okT t
  · obtain ⟨tn, ht, rfl, e1⟩ := nat_of hx
    rw [if_pos hx, if_pos hx, hr.out.look ht]
    refine (stack_ok _ wr b V m tn ht h1 (by have := hi.out.wf.len tn ht; omega)).mono ?_
    rintro _ w' ⟨v, rfl, hrw, hb⟩
    obtain ⟨A, cap, rfl⟩ := hrw.shape
    exact ⟨A, cap, rfl, Lib.hid (h.out.add hrw hb)⟩
  · rw [if_neg hx, if_neg hx]
    refine (stack_range wr b t hx).mono ?_
    rintro _ w' ⟨rfl, rfl⟩
    exact ⟨none, 0, rfl, Lib.hid (h.out.add ⟨rfl, Or.inl ⟨rfl, rfl⟩⟩ (Below.refl _ _))⟩
theorem waiters_t (t : Int) (l : List Int) (x : Int) (hl : (if okC t then qlook t Ws else []) = l) (hx : (if okC t then (0 : Int) else 1) = x) (hr : Hid (Rel m R Ws)) (hi : Hid (Iw m)) (h : Hid (Tl w0 w wr b m v0 v1 R Ws g0 vs)) :
    Calls Try.prog 16 #[.pointer (some ⟨b, 0, none⟩), .int .i64 t] wr fun e w' => ∃ A cap, e = .returned (.tuple #[.slice A l.length cap, .int .i64 x]) ∧ Hid (Tl w0 w w' b m v0 v1 R Ws g0 ((.slice A l.length cap, l) :: vs)) := by
  subst hl; subst hx
  obtain ⟨V, h1, _⟩ := h.out.bo.web
  by_cases hx : okC t
  · obtain ⟨tn, ht, rfl, e1⟩ := cell_of hx
    rw [if_pos hx, if_pos hx, ← hr.out.wq tn ht]
    refine (waiters_ok _ wr b V m tn ht h1 (by have := hi.out.few tn ht; omega)).mono ?_
    rintro _ w' ⟨v, rfl, hrw, hb⟩
    obtain ⟨A, cap, rfl⟩ := hrw.shape
    exact ⟨A, cap, rfl, Lib.hid (h.out.add hrw hb)⟩
  · rw [if_neg hx, if_neg hx]
    refine (waiters_range wr b t hx).mono ?_
    rintro _ w' ⟨rfl, rfl⟩
    exact ⟨none, 0, rfl, Lib.hid (h.out.add ⟨rfl, Or.inl ⟨rfl, rfl⟩⟩ (Below.refl _ _))⟩
theorem waiting_t (t : Int) (y1 : Int) (y2 : Bool) (x : Int) (h1 : (if okT t then (wlook t Ws).1 else 0) = y1) (h2 : (if okT t then (wlook t Ws).2 else false) = y2) (hx : (if okT t then (0 : Int) else 1) = x) (hr : Hid (Rel m R Ws)) (hi : Hid (Iw m)) (h : Hid (Tl w0 w wr b m v0 v1 R Ws g0 vs)) :
    Calls Try.prog 25 #[.pointer (some ⟨b, 0, none⟩), .int .i64 t] wr fun e w' => e = .returned (.tuple #[.int .i64 y1, .bool y2, .int .i64 x]) ∧ wr = w' := by
  subst h1; subst h2; subst hx
  obtain ⟨V, h1, _⟩ := h.out.bo.web
  by_cases hx : okT t
  · obtain ⟨tn, ht, rfl, e1⟩ := nat_of hx
    rw [if_pos hx, if_pos hx, if_pos hx]
    rcases hi.out.wf.wai tn ht with hw | ⟨d, hd, hw⟩
    · refine (waiting_in wr b V m tn ht h1.blk (by omega) (by omega)).mono ?_
      rintro _ w' ⟨rfl, rfl⟩
      rw [hr.out.wlook0 hw, hw]
      exact ⟨rfl, rfl⟩
    · refine (waiting_in wr b V m tn ht h1.blk (by omega) (by omega)).mono ?_
      rintro _ w' ⟨rfl, rfl⟩
      rw [hr.out.wlook1 ht hw, hw, if_neg (by omega), show (d : Int) + 1 - 1 = d by omega, show ((d : Int) + 1 != 0) = true by simpa using (by omega : ¬ (d : Int) + 1 = 0)]
      exact ⟨rfl, rfl⟩
  · rw [if_neg hx, if_neg hx, if_neg hx]
    refine (waiting_out wr b t hx).mono ?_
    rintro _ w' ⟨rfl, rfl⟩
    exact ⟨rfl, rfl⟩
theorem runner_t (c : Int) (y1 : Int) (y2 : Bool) (x : Int) (h1 : (if okC c then (rlook c R).1 else 0) = y1) (h2 : (if okC c then (rlook c R).2 else false) = y2) (hx : (if okC c then (0 : Int) else 1) = x) (hr : Hid (Rel m R Ws)) (hi : Hid (Iw m)) (h : Hid (Tl w0 w wr b m v0 v1 R Ws g0 vs)) :
    Calls Try.prog 19 #[.pointer (some ⟨b, 0, none⟩), .int .i64 c] wr fun e w' => e = .returned (.tuple #[.int .i64 y1, .bool y2, .int .i64 x]) ∧ wr = w' := by
  subst h1; subst h2; subst hx
  obtain ⟨V, h1, _⟩ := h.out.bo.web
  by_cases hx : okC c
  · obtain ⟨tn, ht, rfl, e1⟩ := cell_of hx
    rw [if_pos hx, if_pos hx, if_pos hx]
    rcases hi.out.wf.run tn ht with hw | ⟨d, hd, hw, _⟩
    · refine (runner_in wr b V m tn ht h1.blk (by omega) (by omega)).mono ?_
      rintro _ w' ⟨rfl, rfl⟩
      rw [hr.out.rlook0 hi.out hw, hw]
      exact ⟨rfl, rfl⟩
    · refine (runner_in wr b V m tn ht h1.blk (by omega) (by omega)).mono ?_
      rintro _ w' ⟨rfl, rfl⟩
      rw [hr.out.rlook1 hi.out ht hw, hw, if_neg (by omega), show (d : Int) + 1 - 1 = d by omega, show ((d : Int) + 1 != 0) = true by simpa using (by omega : ¬ (d : Int) + 1 = 0)]
      exact ⟨rfl, rfl⟩
  · rw [if_neg hx, if_neg hx, if_neg hx]
    refine (runner_out wr b c hx).mono ?_
    rintro _ w' ⟨rfl, rfl⟩
    exact ⟨rfl, rfl⟩
end

theorem qfew {m : Web} {R : List S55} {Ws : List S57} (h : Rel m R Ws) {c : Int} : (qlook c Ws).length ≤ 128 := by
  have := h.few57
  unfold qlook
  rw [List.length_map]
  exact Nat.le_trans (List.length_filter_le _ _) this
set_option maxHeartbeats 4000000 in
set_option maxRecDepth 100000 in
theorem tells_pp {w0 w : World} {b : Nat} {m : Web} {v0 v1 : Value} {R : List S55} {Ws : List S57} (t c : Int) (hxt : okT t) (hxc : okC c) (hr : Hid (Rel m R Ws)) (hi : Hid (Iw m)) (h : Hid (Bo w0 w b m v0 v1 R Ws (fun _ => False))) :
    Calls Try.prog 24 #[.pointer (some ⟨b, 0, none⟩), .agg #[v0, v1], .int .i64 t, .int .i64 c] w fun e w' => e = .returned (.bool true) ∧ Below w.heap.size w w' := by
  obtain ⟨A0, c0, A1, c1, e0, e1, -, -, -, -⟩ := h.out.reads
  subst e0; subst e1
  have hb : Below w.heap.size w (w.alloc (.cells #[.slice A0 R.length c0, .slice A1 Ws.length c1] 48)) := (Below.refl _ _).alloc (Nat.le_refl _) _
  have H1 := Lib.hid (show Tl w0 w (w.alloc (.cells #[.slice A0 R.length c0, .slice A1 Ws.length c1] 48)) b m (.slice A0 R.length c0) (.slice A1 Ws.length c1) R Ws w.heap.size [] from
    ⟨(h.out.box (Y := fun k => k = w.heap.size) hb (fun k hk => by simp only [World.size_alloc]; omega)).1.less (fun k hk => Or.inr hk), hb, blk_new w _, fun x hx => absurd hx (by simp)⟩)
  have HT := Lib.hid (show okT t from hxt)
  have HC := Lib.hid (show okC c from hxc)
  clear hb h hxt hxc
  go_enter Try.func24, Try.ntmps24
  go_wp2_with fail
  refine (stack_t t (PDependPlays.look t R) 0 (if_pos HT.out) (if_pos HT.out) hr hi H1).mono ?_
  clear H1
  rintro _ w1 ⟨A2, c2, rfl, H2⟩
  go_wp2_with fail
  refine (waiting_t t (wlook t Ws).1 (wlook t Ws).2 0 (if_pos HT.out) (if_pos HT.out) (if_pos HT.out) hr hi H2).mono ?_
  rintro _ w2 ⟨rfl, rfl⟩
  go_wp2_with fail
  refine (runner_t c (rlook c R).1 (rlook c R).2 0 (if_pos HC.out) (if_pos HC.out) (if_pos HC.out) hr hi H2).mono ?_
  rintro _ w2 ⟨rfl, rfl⟩
  go_wp2_with fail
  refine (waiters_t c (qlook c Ws) 0 (if_pos HC.out) (if_pos HC.out) hr hi H2).mono ?_
  clear H2
  rintro _ w2 ⟨A3, c3, rfl, H3⟩
  have ht1 : ¬ t < 0 := by have := HT.out; unfold okT at this; omega
  have ht2 : ¬ 128 ≤ t := by have := HT.out; unfold okT at this; omega
  have HLS := Lib.hid (show (PDependPlays.look t R).length < 1000000 from by
    obtain ⟨tn, h1, h2, h3⟩ := nat_of HT.out
    rw [h2, hr.out.look h1]; have := hi.out.wf.len tn h1; omega)
  obtain ⟨q0, q1, q2, q3⟩ := H3.out.bx.facts
  obtain ⟨tn, h1, h2, -⟩ := nat_of HT.out
  subst h2
  clear h1
  go_wp2_with fail
  refine (waiting_r tn hr hi (Lib.hid H3.out.bo)).mono ?_
  rintro _ w4 ⟨rfl, -, HD⟩
  have H4 := Lib.hid (H3.out.to HD.out)
  clear H3 HD q0 q1 q2 q3
  obtain ⟨q0, q1, q2, q3⟩ := H4.out.bx.facts
  generalize (wlook (tn : Int) Ws).1 = y1
  generalize (wlook (tn : Int) Ws).2 = y2
  go_wp2_with fail
  refine (stack_r (tn : Int) hr hi (Lib.hid H4.out.bo)).mono ?_
  rintro _ w5 ⟨v5, rfl, HI5, -, HD⟩
  have H5 := Lib.hid (H4.out.to HD.out)
  clear H4 HD q0 q1 q2 q3
  go_wp2_with fail
  refine (ints_eq w5 _ v5 (PDependPlays.look (tn : Int) R) (H5.out.ints (by simp)) HI5.out (by have := HLS.out; omega)).mono ?_
  rintro _ w6 ⟨rfl, hb6⟩
  have H6 := Lib.hid (H5.out.to hb6)
  clear H5 HI5 hb6
  generalize PDependPlays.look (tn : Int) R = LS at *
  have hc1 : ¬ c < 0 := by have := HC.out; unfold okC at this; omega
  have hc2 : ¬ 256 ≤ c := by have := HC.out; unfold okC at this; omega
  obtain ⟨q0, q1, q2, q3⟩ := H6.out.bx.facts
  go_wp2_with fail
  refine (runner_r c hr hi (Lib.hid H6.out.bo)).mono ?_
  rintro _ w10 ⟨rfl, -, HD⟩
  have H10 := Lib.hid (H6.out.to HD.out)
  clear H6 HD q0 q1 q2 q3
  obtain ⟨q0, q1, q2, q3⟩ := H10.out.bx.facts
  generalize (rlook c R).1 = z1
  generalize (rlook c R).2 = z2
  go_wp2_with fail
  refine (waiters_r c hr hi (Lib.hid H10.out.bo)).mono ?_
  rintro _ w11 ⟨v11, rfl, HI11, -, HD⟩
  have H11 := Lib.hid (H10.out.to HD.out)
  clear H10 HD q0 q1 q2 q3
  go_wp2_with fail
  refine (ints_eq w11 _ v11 (qlook c Ws) (H11.out.ints (by simp)) HI11.out (by have := qfew hr.out (c := c); omega)).mono ?_
  rintro _ w12 ⟨rfl, hb12⟩
  have H12 := Lib.hid (H11.out.to hb12)
  clear H11 HI11 hb12
  have HW := Lib.hid (show Below w.heap.size w w12 ∧ Wr w.heap.size w12 (.slice A2 LS.length c2) LS.length ∧ Wr w.heap.size w12 (.slice A3 (qlook c Ws).length c3) (qlook c Ws).length ∧ LS.length < 1000000 ∧ (qlook c Ws).length < 1000000 from ⟨H12.out.bel, Wr.of_row (H12.out.vs (.slice A2 LS.length c2, LS) (by simp)), Wr.of_row (H12.out.vs (.slice A3 (qlook c Ws).length c3, qlook c Ws) (by simp)), HLS.out, by have := qfew hr.out (c := c); omega⟩)
  clear H12
  generalize qlook c Ws = QS at *
  go_wp2_with fail
  go_loopg [162] LS.length (fun gk i wr => ∃ j : Nat, i = .int .i64 j ∧ j + gk = LS.length ∧ Hid (Below w.heap.size w wr ∧ Wr w.heap.size wr (.slice A2 LS.length c2) LS.length ∧ Wr w.heap.size wr (.slice A3 QS.length c3) QS.length ∧ LS.length < 1000000 ∧ QS.length < 1000000))
  case atStart => exact ⟨0, rfl, by omega, HW⟩
  case round =>
    obtain ⟨j, rfl, hj, HY⟩ := hrel
    clear HW
    by_cases hjl : j < LS.length
    · obtain ⟨g, u, rfl, hg, k1, k2⟩ := HY.out.2.1.at_ hjl
      have hj2 : (j : Int) < LS.length := by omega
      have hw : IntKind.i64.wrap ((j : Int) + 1) = (j : Int) + 1 := IntWalk.i64_in _ (by have := HY.out.2.2.2.1; omega)
      have HN := Lib.hid (show Below w.heap.size w (wr.setCell ⟨g, j, none⟩ (.int .i64 (-7))) ∧ Wr w.heap.size (wr.setCell ⟨g, j, none⟩ (.int .i64 (-7))) (.slice (some ⟨g, 0, none⟩) LS.length c2) LS.length ∧ Wr w.heap.size (wr.setCell ⟨g, j, none⟩ (.int .i64 (-7))) (.slice A3 QS.length c3) QS.length ∧ LS.length < 1000000 ∧ QS.length < 1000000 from ⟨HY.out.1.setCell (p := ⟨g, j, none⟩) hg _, HY.out.2.1.set g j _, HY.out.2.2.1.set g j _, HY.out.2.2.2⟩)
      have HJ := Lib.hid hj
      clear hj HY hg
      go_wp2_with fail
      go_roundg (gk - 1)
      case measure => have := HJ.out; omega
      case rel => exact ⟨j + 1, by simp, by have := HJ.out; omega, HN⟩
    · obtain rfl : j = LS.length := by omega
      clear hj hjl
      go_wp2_with fail
      go_loopg [171] QS.length (fun gk i wr => ∃ j : Nat, i = .int .i64 j ∧ j + gk = QS.length ∧ Hid (Below w.heap.size w wr ∧ Wr w.heap.size wr (.slice A3 QS.length c3) QS.length ∧ QS.length < 1000000))
      case atStart => exact ⟨0, rfl, by omega, Lib.hid ⟨HY.out.1, HY.out.2.2.1, HY.out.2.2.2.2⟩⟩
      case round =>
        clear HY
        obtain ⟨j, rfl, hj, HY⟩ := hrel
        by_cases hjl : j < QS.length
        · obtain ⟨g, u, rfl, hg, k1, k2⟩ := HY.out.2.1.at_ hjl
          have hj2 : (j : Int) < QS.length := by omega
          have hw : IntKind.i64.wrap ((j : Int) + 1) = (j : Int) + 1 := IntWalk.i64_in _ (by have := HY.out.2.2; omega)
          have HN := Lib.hid (show Below w.heap.size w (wr.setCell ⟨g, j, none⟩ (.int .i64 (-7))) ∧ Wr w.heap.size (wr.setCell ⟨g, j, none⟩ (.int .i64 (-7))) (.slice (some ⟨g, 0, none⟩) QS.length c3) QS.length ∧ QS.length < 1000000 from ⟨HY.out.1.setCell (p := ⟨g, j, none⟩) hg _, HY.out.2.1.set g j _, HY.out.2.2⟩)
          have HJ := Lib.hid hj
          clear hj HY hg
          go_wp2_with fail
          go_roundg (gk - 1)
          case measure => have := HJ.out; omega
          case rel => exact ⟨j + 1, by simp, by have := HJ.out; omega, HN⟩
        · obtain rfl : j = QS.length := by omega
          clear hj hjl
          go_wp2_with fail
          go_ret
          exact ⟨rfl, HY.out.1⟩
set_option maxHeartbeats 4000000 in
set_option maxRecDepth 100000 in
theorem tells_pn {w0 w : World} {b : Nat} {m : Web} {v0 v1 : Value} {R : List S55} {Ws : List S57} (t c : Int) (hxt : okT t) (hxc : ¬ okC c) (hr : Hid (Rel m R Ws)) (hi : Hid (Iw m)) (h : Hid (Bo w0 w b m v0 v1 R Ws (fun _ => False))) :
    Calls Try.prog 24 #[.pointer (some ⟨b, 0, none⟩), .agg #[v0, v1], .int .i64 t, .int .i64 c] w fun e w' => e = .returned (.bool true) ∧ Below w.heap.size w w' := by
  obtain ⟨A0, c0, A1, c1, e0, e1, -, -, -, -⟩ := h.out.reads
  subst e0; subst e1
  have hb : Below w.heap.size w (w.alloc (.cells #[.slice A0 R.length c0, .slice A1 Ws.length c1] 48)) := (Below.refl _ _).alloc (Nat.le_refl _) _
  have H1 := Lib.hid (show Tl w0 w (w.alloc (.cells #[.slice A0 R.length c0, .slice A1 Ws.length c1] 48)) b m (.slice A0 R.length c0) (.slice A1 Ws.length c1) R Ws w.heap.size [] from
    ⟨(h.out.box (Y := fun k => k = w.heap.size) hb (fun k hk => by simp only [World.size_alloc]; omega)).1.less (fun k hk => Or.inr hk), hb, blk_new w _, fun x hx => absurd hx (by simp)⟩)
  have HT := Lib.hid (show okT t from hxt)
  have HC := Lib.hid (show ¬ okC c from hxc)
  clear hb h hxt hxc
  go_enter Try.func24, Try.ntmps24
  go_wp2_with fail
  refine (stack_t t (PDependPlays.look t R) 0 (if_pos HT.out) (if_pos HT.out) hr hi H1).mono ?_
  clear H1
  rintro _ w1 ⟨A2, c2, rfl, H2⟩
  go_wp2_with fail
  refine (waiting_t t (wlook t Ws).1 (wlook t Ws).2 0 (if_pos HT.out) (if_pos HT.out) (if_pos HT.out) hr hi H2).mono ?_
  rintro _ w2 ⟨rfl, rfl⟩
  go_wp2_with fail
  refine (runner_t c 0 false 1 (if_neg HC.out) (if_neg HC.out) (if_neg HC.out) hr hi H2).mono ?_
  rintro _ w2 ⟨rfl, rfl⟩
  go_wp2_with fail
  refine (waiters_t c [] 1 (if_neg HC.out) (if_neg HC.out) hr hi H2).mono ?_
  clear H2
  rintro _ w2 ⟨A3, c3, rfl, H3⟩
  have ht1 : ¬ t < 0 := by have := HT.out; unfold okT at this; omega
  have ht2 : ¬ 128 ≤ t := by have := HT.out; unfold okT at this; omega
  have HLS := Lib.hid (show (PDependPlays.look t R).length < 1000000 from by
    obtain ⟨tn, h1, h2, h3⟩ := nat_of HT.out
    rw [h2, hr.out.look h1]; have := hi.out.wf.len tn h1; omega)
  obtain ⟨q0, q1, q2, q3⟩ := H3.out.bx.facts
  obtain ⟨tn, h1, h2, -⟩ := nat_of HT.out
  subst h2
  clear h1
  go_wp2_with fail
  refine (waiting_r tn hr hi (Lib.hid H3.out.bo)).mono ?_
  rintro _ w4 ⟨rfl, -, HD⟩
  have H4 := Lib.hid (H3.out.to HD.out)
  clear H3 HD q0 q1 q2 q3
  obtain ⟨q0, q1, q2, q3⟩ := H4.out.bx.facts
  generalize (wlook (tn : Int) Ws).1 = y1
  generalize (wlook (tn : Int) Ws).2 = y2
  go_wp2_with fail
  refine (stack_r (tn : Int) hr hi (Lib.hid H4.out.bo)).mono ?_
  rintro _ w5 ⟨v5, rfl, HI5, -, HD⟩
  have H5 := Lib.hid (H4.out.to HD.out)
  clear H4 HD q0 q1 q2 q3
  go_wp2_with fail
  refine (ints_eq w5 _ v5 (PDependPlays.look (tn : Int) R) (H5.out.ints (by simp)) HI5.out (by have := HLS.out; omega)).mono ?_
  rintro _ w6 ⟨rfl, hb6⟩
  have H6 := Lib.hid (H5.out.to hb6)
  clear H5 HI5 hb6
  generalize PDependPlays.look (tn : Int) R = LS at *
  have HB := Lib.hid H6.out.bel
  by_cases hc1 : c < 0
  · go_wp2_with fail
    go_ret
    exact ⟨rfl, HB.out⟩
  · have hc2 : 256 ≤ c := by have := HC.out; unfold okC at this; omega
    go_wp2_with fail
    go_ret
    exact ⟨rfl, HB.out⟩
set_option maxHeartbeats 4000000 in
set_option maxRecDepth 100000 in
theorem tells_np {w0 w : World} {b : Nat} {m : Web} {v0 v1 : Value} {R : List S55} {Ws : List S57} (t c : Int) (hxt : ¬ okT t) (hxc : okC c) (hr : Hid (Rel m R Ws)) (hi : Hid (Iw m)) (h : Hid (Bo w0 w b m v0 v1 R Ws (fun _ => False))) :
    Calls Try.prog 24 #[.pointer (some ⟨b, 0, none⟩), .agg #[v0, v1], .int .i64 t, .int .i64 c] w fun e w' => e = .returned (.bool true) ∧ Below w.heap.size w w' := by
  obtain ⟨A0, c0, A1, c1, e0, e1, -, -, -, -⟩ := h.out.reads
  subst e0; subst e1
  have hb : Below w.heap.size w (w.alloc (.cells #[.slice A0 R.length c0, .slice A1 Ws.length c1] 48)) := (Below.refl _ _).alloc (Nat.le_refl _) _
  have H1 := Lib.hid (show Tl w0 w (w.alloc (.cells #[.slice A0 R.length c0, .slice A1 Ws.length c1] 48)) b m (.slice A0 R.length c0) (.slice A1 Ws.length c1) R Ws w.heap.size [] from
    ⟨(h.out.box (Y := fun k => k = w.heap.size) hb (fun k hk => by simp only [World.size_alloc]; omega)).1.less (fun k hk => Or.inr hk), hb, blk_new w _, fun x hx => absurd hx (by simp)⟩)
  have HT := Lib.hid (show ¬ okT t from hxt)
  have HC := Lib.hid (show okC c from hxc)
  clear hb h hxt hxc
  go_enter Try.func24, Try.ntmps24
  go_wp2_with fail
  refine (stack_t t [] 1 (if_neg HT.out) (if_neg HT.out) hr hi H1).mono ?_
  clear H1
  rintro _ w1 ⟨A2, c2, rfl, H2⟩
  go_wp2_with fail
  refine (waiting_t t 0 false 1 (if_neg HT.out) (if_neg HT.out) (if_neg HT.out) hr hi H2).mono ?_
  rintro _ w2 ⟨rfl, rfl⟩
  go_wp2_with fail
  refine (runner_t c (rlook c R).1 (rlook c R).2 0 (if_pos HC.out) (if_pos HC.out) (if_pos HC.out) hr hi H2).mono ?_
  rintro _ w2 ⟨rfl, rfl⟩
  go_wp2_with fail
  refine (waiters_t c (qlook c Ws) 0 (if_pos HC.out) (if_pos HC.out) hr hi H2).mono ?_
  clear H2
  rintro _ w2 ⟨A3, c3, rfl, H3⟩
  have HLS := Lib.hid (show ([] : List Int).length < 1000000 from by simp)
  obtain ⟨LS, hls⟩ : ∃ LS : List Int, LS = [] := ⟨[], rfl⟩
  have HL := Lib.hid hls
  by_cases ht1 : t < 0
  · clear hls
    have hc1 : ¬ c < 0 := by have := HC.out; unfold okC at this; omega
    have hc2 : ¬ 256 ≤ c := by have := HC.out; unfold okC at this; omega
    obtain ⟨q0, q1, q2, q3⟩ := H3.out.bx.facts
    go_wp2_with fail
    refine (runner_r c hr hi (Lib.hid H3.out.bo)).mono ?_
    rintro _ w10 ⟨rfl, -, HD⟩
    have H10 := Lib.hid (H3.out.to HD.out)
    clear H3 HD q0 q1 q2 q3
    obtain ⟨q0, q1, q2, q3⟩ := H10.out.bx.facts
    generalize (rlook c R).1 = z1
    generalize (rlook c R).2 = z2
    go_wp2_with fail
    refine (waiters_r c hr hi (Lib.hid H10.out.bo)).mono ?_
    rintro _ w11 ⟨v11, rfl, HI11, -, HD⟩
    have H11 := Lib.hid (H10.out.to HD.out)
    clear H10 HD q0 q1 q2 q3
    go_wp2_with fail
    refine (ints_eq w11 _ v11 (qlook c Ws) (H11.out.ints (by simp)) HI11.out (by have := qfew hr.out (c := c); omega)).mono ?_
    rintro _ w12 ⟨rfl, hb12⟩
    have H12 := Lib.hid (H11.out.to hb12)
    clear H11 HI11 hb12
    have HW := Lib.hid (show Below w.heap.size w w12 ∧ Wr w.heap.size w12 (.slice A2 0 c2) 0 ∧ Wr w.heap.size w12 (.slice A3 (qlook c Ws).length c3) (qlook c Ws).length ∧ 0 < 1000000 ∧ (qlook c Ws).length < 1000000 from ⟨H12.out.bel, Wr.of_row (H12.out.vs (.slice A2 0 c2, ([] : List Int)) (by simp)), Wr.of_row (H12.out.vs (.slice A3 (qlook c Ws).length c3, qlook c Ws) (by simp)), by omega, by have := qfew hr.out (c := c); omega⟩)
    clear H12
    generalize qlook c Ws = QS at *
    go_wp2_with fail
    go_loopg [162] 0 (fun gk i wr => ∃ j : Nat, i = .int .i64 j ∧ j + gk = 0 ∧ Hid (Below w.heap.size w wr ∧ Wr w.heap.size wr (.slice A2 0 c2) 0 ∧ Wr w.heap.size wr (.slice A3 QS.length c3) QS.length ∧ 0 < 1000000 ∧ QS.length < 1000000))
    case atStart => exact ⟨0, rfl, by omega, HW⟩
    case round =>
      obtain ⟨j, rfl, hj, HY⟩ := hrel
      clear HW
      by_cases hjl : j < 0
      · omega
      · obtain rfl : j = 0 := by omega
        clear hj hjl
        go_wp2_with fail
        go_loopg [171] QS.length (fun gk i wr => ∃ j : Nat, i = .int .i64 j ∧ j + gk = QS.length ∧ Hid (Below w.heap.size w wr ∧ Wr w.heap.size wr (.slice A3 QS.length c3) QS.length ∧ QS.length < 1000000))
        case atStart => exact ⟨0, rfl, by omega, Lib.hid ⟨HY.out.1, HY.out.2.2.1, HY.out.2.2.2.2⟩⟩
        case round =>
          clear HY
          obtain ⟨j, rfl, hj, HY⟩ := hrel
          by_cases hjl : j < QS.length
          · obtain ⟨g, u, rfl, hg, k1, k2⟩ := HY.out.2.1.at_ hjl
            have hj2 : (j : Int) < QS.length := by omega
            have hw : IntKind.i64.wrap ((j : Int) + 1) = (j : Int) + 1 := IntWalk.i64_in _ (by have := HY.out.2.2; omega)
            have HN := Lib.hid (show Below w.heap.size w (wr.setCell ⟨g, j, none⟩ (.int .i64 (-7))) ∧ Wr w.heap.size (wr.setCell ⟨g, j, none⟩ (.int .i64 (-7))) (.slice (some ⟨g, 0, none⟩) QS.length c3) QS.length ∧ QS.length < 1000000 from ⟨HY.out.1.setCell (p := ⟨g, j, none⟩) hg _, HY.out.2.1.set g j _, HY.out.2.2⟩)
            have HJ := Lib.hid hj
            clear hj HY hg
            go_wp2_with fail
            go_roundg (gk - 1)
            case measure => have := HJ.out; omega
            case rel => exact ⟨j + 1, by simp, by have := HJ.out; omega, HN⟩
          · obtain rfl : j = QS.length := by omega
            clear hj hjl
            go_wp2_with fail
            go_ret
            exact ⟨rfl, HY.out.1⟩
  · have ht2 : 128 ≤ t := by have := HT.out; unfold okT at this; omega
    clear hls
    have hc1 : ¬ c < 0 := by have := HC.out; unfold okC at this; omega
    have hc2 : ¬ 256 ≤ c := by have := HC.out; unfold okC at this; omega
    obtain ⟨q0, q1, q2, q3⟩ := H3.out.bx.facts
    go_wp2_with fail
    refine (runner_r c hr hi (Lib.hid H3.out.bo)).mono ?_
    rintro _ w10 ⟨rfl, -, HD⟩
    have H10 := Lib.hid (H3.out.to HD.out)
    clear H3 HD q0 q1 q2 q3
    obtain ⟨q0, q1, q2, q3⟩ := H10.out.bx.facts
    generalize (rlook c R).1 = z1
    generalize (rlook c R).2 = z2
    go_wp2_with fail
    refine (waiters_r c hr hi (Lib.hid H10.out.bo)).mono ?_
    rintro _ w11 ⟨v11, rfl, HI11, -, HD⟩
    have H11 := Lib.hid (H10.out.to HD.out)
    clear H10 HD q0 q1 q2 q3
    go_wp2_with fail
    refine (ints_eq w11 _ v11 (qlook c Ws) (H11.out.ints (by simp)) HI11.out (by have := qfew hr.out (c := c); omega)).mono ?_
    rintro _ w12 ⟨rfl, hb12⟩
    have H12 := Lib.hid (H11.out.to hb12)
    clear H11 HI11 hb12
    have HW := Lib.hid (show Below w.heap.size w w12 ∧ Wr w.heap.size w12 (.slice A2 0 c2) 0 ∧ Wr w.heap.size w12 (.slice A3 (qlook c Ws).length c3) (qlook c Ws).length ∧ 0 < 1000000 ∧ (qlook c Ws).length < 1000000 from ⟨H12.out.bel, Wr.of_row (H12.out.vs (.slice A2 0 c2, ([] : List Int)) (by simp)), Wr.of_row (H12.out.vs (.slice A3 (qlook c Ws).length c3, qlook c Ws) (by simp)), by omega, by have := qfew hr.out (c := c); omega⟩)
    clear H12
    generalize qlook c Ws = QS at *
    go_wp2_with fail
    go_loopg [162] 0 (fun gk i wr => ∃ j : Nat, i = .int .i64 j ∧ j + gk = 0 ∧ Hid (Below w.heap.size w wr ∧ Wr w.heap.size wr (.slice A2 0 c2) 0 ∧ Wr w.heap.size wr (.slice A3 QS.length c3) QS.length ∧ 0 < 1000000 ∧ QS.length < 1000000))
    case atStart => exact ⟨0, rfl, by omega, HW⟩
    case round =>
      obtain ⟨j, rfl, hj, HY⟩ := hrel
      clear HW
      by_cases hjl : j < 0
      · omega
      · obtain rfl : j = 0 := by omega
        clear hj hjl
        go_wp2_with fail
        go_loopg [171] QS.length (fun gk i wr => ∃ j : Nat, i = .int .i64 j ∧ j + gk = QS.length ∧ Hid (Below w.heap.size w wr ∧ Wr w.heap.size wr (.slice A3 QS.length c3) QS.length ∧ QS.length < 1000000))
        case atStart => exact ⟨0, rfl, by omega, Lib.hid ⟨HY.out.1, HY.out.2.2.1, HY.out.2.2.2.2⟩⟩
        case round =>
          clear HY
          obtain ⟨j, rfl, hj, HY⟩ := hrel
          by_cases hjl : j < QS.length
          · obtain ⟨g, u, rfl, hg, k1, k2⟩ := HY.out.2.1.at_ hjl
            have hj2 : (j : Int) < QS.length := by omega
            have hw : IntKind.i64.wrap ((j : Int) + 1) = (j : Int) + 1 := IntWalk.i64_in _ (by have := HY.out.2.2; omega)
            have HN := Lib.hid (show Below w.heap.size w (wr.setCell ⟨g, j, none⟩ (.int .i64 (-7))) ∧ Wr w.heap.size (wr.setCell ⟨g, j, none⟩ (.int .i64 (-7))) (.slice (some ⟨g, 0, none⟩) QS.length c3) QS.length ∧ QS.length < 1000000 from ⟨HY.out.1.setCell (p := ⟨g, j, none⟩) hg _, HY.out.2.1.set g j _, HY.out.2.2⟩)
            have HJ := Lib.hid hj
            clear hj HY hg
            go_wp2_with fail
            go_roundg (gk - 1)
            case measure => have := HJ.out; omega
            case rel => exact ⟨j + 1, by simp, by have := HJ.out; omega, HN⟩
          · obtain rfl : j = QS.length := by omega
            clear hj hjl
            go_wp2_with fail
            go_ret
            exact ⟨rfl, HY.out.1⟩
set_option maxHeartbeats 4000000 in
set_option maxRecDepth 100000 in
theorem tells_nn {w0 w : World} {b : Nat} {m : Web} {v0 v1 : Value} {R : List S55} {Ws : List S57} (t c : Int) (hxt : ¬ okT t) (hxc : ¬ okC c) (hr : Hid (Rel m R Ws)) (hi : Hid (Iw m)) (h : Hid (Bo w0 w b m v0 v1 R Ws (fun _ => False))) :
    Calls Try.prog 24 #[.pointer (some ⟨b, 0, none⟩), .agg #[v0, v1], .int .i64 t, .int .i64 c] w fun e w' => e = .returned (.bool true) ∧ Below w.heap.size w w' := by
  obtain ⟨A0, c0, A1, c1, e0, e1, -, -, -, -⟩ := h.out.reads
  subst e0; subst e1
  have hb : Below w.heap.size w (w.alloc (.cells #[.slice A0 R.length c0, .slice A1 Ws.length c1] 48)) := (Below.refl _ _).alloc (Nat.le_refl _) _
  have H1 := Lib.hid (show Tl w0 w (w.alloc (.cells #[.slice A0 R.length c0, .slice A1 Ws.length c1] 48)) b m (.slice A0 R.length c0) (.slice A1 Ws.length c1) R Ws w.heap.size [] from
    ⟨(h.out.box (Y := fun k => k = w.heap.size) hb (fun k hk => by simp only [World.size_alloc]; omega)).1.less (fun k hk => Or.inr hk), hb, blk_new w _, fun x hx => absurd hx (by simp)⟩)
  have HT := Lib.hid (show ¬ okT t from hxt)
  have HC := Lib.hid (show ¬ okC c from hxc)
  clear hb h hxt hxc
  go_enter Try.func24, Try.ntmps24
  go_wp2_with fail
  refine (stack_t t [] 1 (if_neg HT.out) (if_neg HT.out) hr hi H1).mono ?_
  clear H1
  rintro _ w1 ⟨A2, c2, rfl, H2⟩
  go_wp2_with fail
  refine (waiting_t t 0 false 1 (if_neg HT.out) (if_neg HT.out) (if_neg HT.out) hr hi H2).mono ?_
  rintro _ w2 ⟨rfl, rfl⟩
  go_wp2_with fail
  refine (runner_t c 0 false 1 (if_neg HC.out) (if_neg HC.out) (if_neg HC.out) hr hi H2).mono ?_
  rintro _ w2 ⟨rfl, rfl⟩
  go_wp2_with fail
  refine (waiters_t c [] 1 (if_neg HC.out) (if_neg HC.out) hr hi H2).mono ?_
  clear H2
  rintro _ w2 ⟨A3, c3, rfl, H3⟩
  have HLS := Lib.hid (show ([] : List Int).length < 1000000 from by simp)
  obtain ⟨LS, hls⟩ : ∃ LS : List Int, LS = [] := ⟨[], rfl⟩
  have HL := Lib.hid hls
  by_cases ht1 : t < 0
  · clear hls
    have HB := Lib.hid H3.out.bel
    by_cases hc1 : c < 0
    · go_wp2_with fail
      go_ret
      exact ⟨rfl, HB.out⟩
    · have hc2 : 256 ≤ c := by have := HC.out; unfold okC at this; omega
      go_wp2_with fail
      go_ret
      exact ⟨rfl, HB.out⟩
  · have ht2 : 128 ≤ t := by have := HT.out; unfold okT at this; omega
    clear hls
    have HB := Lib.hid H3.out.bel
    by_cases hc1 : c < 0
    · go_wp2_with fail
      go_ret
      exact ⟨rfl, HB.out⟩
    · have hc2 : 256 ≤ c := by have := HC.out; unfold okC at this; omega
      go_wp2_with fail
      go_ret
      exact ⟨rfl, HB.out⟩
theorem tells_ok {w0 w : World} {b : Nat} {m : Web} {v0 v1 : Value} {R : List S55} {Ws : List S57} (t c : Int) (hr : Hid (Rel m R Ws)) (hi : Hid (Iw m)) (h : Hid (Bo w0 w b m v0 v1 R Ws (fun _ => False))) :
    Calls Try.prog 24 #[.pointer (some ⟨b, 0, none⟩), .agg #[v0, v1], .int .i64 t, .int .i64 c] w fun e w' => e = .returned (.bool true) ∧ Below w.heap.size w w' := by
  by_cases ht : okT t
  · by_cases hc : okC c
    · exact tells_pp t c ht hc hr hi h
    · exact tells_pn t c ht hc hr hi h
  · by_cases hc : okC c
    · exact tells_np t c ht hc hr hi h
    · exact tells_nn t c ht hc hr hi h
end Go.Proofs.Ytohkobfamofkgaa
namespace Go.Proofs.Ytohkobfamofkgaa
open Go.RowKit Go.Maps Go.Proofs.Ytohkobfamofkgaa Go.Proofs.Ytohkobfamofkgaa.Wb Go.Proofs.Ytohkobfamofkgaa.PDependPlays Go.Proofs.YtohkobfamofkgaaW.PrintWords Go.Proofs.YtohkobfamofkgaaW.PrintLast Go.Proofs.YtohkobfamofkgaaW.PrintMore

theorem tmod_tmod (a n : Int) (h0 : 0 < n) (h1 : n < 100000) : Int.tmod (wrap64 (Int.tmod a n + n)) n = a % n := by
  rcases Int.le_total 0 a with h | h
  · rw [Int.tmod_eq_emod_of_nonneg h]
    have h2 := Int.emod_nonneg a (show n ≠ 0 by omega)
    have h3 := Int.emod_lt_of_pos a h0
    rw [show wrap64 (a % n + n) = a % n + n by unfold wrap64; omega, Int.tmod_eq_emod_of_nonneg (by omega), Int.add_emod_right, Int.emod_emod_of_dvd _ (Int.dvd_refl n)]
  · obtain ⟨c, rfl⟩ : ∃ c, a = -c := ⟨-a, by omega⟩
    rw [Int.neg_tmod, Int.tmod_eq_emod_of_nonneg (a := c) (by omega)]
    have h2 := Int.emod_nonneg c (show n ≠ 0 by omega)
    have h3 := Int.emod_lt_of_pos c h0
    rw [show wrap64 (-(c % n) + n) = -(c % n) + n by unfold wrap64; omega, Int.tmod_eq_emod_of_nonneg (by omega), Int.add_emod_right]
    have h4 := Int.emod_add_mul_ediv c n
    rw [show -c = -(c % n) + n * (-(c / n)) by rw [Int.mul_neg]; omega, Int.add_mul_emod_self_left]
theorem among_any (w : World) (a n : Int) (h0 : 0 < n) (h1 : n < 100000) : Calls Try.prog 14 #[.int .i64 a, .int .i64 n] w fun e w' => e = .returned (.int .i64 (a % n)) ∧ Below w.heap.size w w' := by
  refine (PDependTells.onceweblaw14_among.calls a n (a % n) w ?_).mono ?_
  · unfold PDependTells.onceweblaw14_among.f
    rw [if_neg (by omega), tmod_tmod a n h0 h1]
  · rintro _ w' ⟨rfl, m, rfl⟩
    exact ⟨rfl, below_drewN (Below.refl _ _) m⟩
def X3 (X : Nat → Prop) (g : Nat) : Nat → Prop := fun k => X k ∨ k = g ∨ k = g + 1 ∨ k = g + 1 + 1
/-- The three blocks of a step: the document's web, the call, the result. -/
structure Bxs (w : World) (g : Nat) (y0 y1 : Value) (x0 x1 x2 : Int) : Prop where
  a : Bx w g y0 y1
  c : w.heap[g + 1]? = some (.cells #[.int .i64 x0, .int .i64 x1, .int .i64 x2] 50 (0, 0))
  d : Bx w (g + 1 + 1) (.slice none 0 0) (.slice none 0 0)
section
variable {w w' : World} {g : Nat} {y0 y1 : Value} {x0 x1 x2 : Int} {X XX : Nat → Prop}
theorem Bxs.same (h : Bxs w g y0 y1 x0 x1 x2) (k : Same XX w w') (hx : ∀ i, X3 X g i → XX i) : Bxs w' g y0 y1 x0 x1 x2 :=
  ⟨h.a.same k (hx g (Or.inr (Or.inl rfl))), (k _ (hx _ (Or.inr (Or.inr (Or.inl rfl))))).trans h.c, h.d.same k (hx _ (Or.inr (Or.inr (Or.inr rfl))))⟩
theorem Bxs.facts (h : Bxs w g y0 y1 x0 x1 x2) : w.cell? ⟨g, 0, none⟩ = some y0 ∧ w.cell? ⟨g, 1, none⟩ = some y1 ∧ w.frozen? ⟨g, 0, none⟩ = false ∧ w.frozen? ⟨g, 1, none⟩ = false ∧ w.cell? ⟨g + 1, 1, none⟩ = some (.int .i64 x1) ∧ w.cell? ⟨g + 1, 2, none⟩ = some (.int .i64 x2) :=
  ⟨h.a.facts.1, h.a.facts.2.1, h.a.facts.2.2.1, h.a.facts.2.2.2, blk_cell h.c 1, blk_cell h.c 2⟩
theorem set_ne {w : World} {g h o : Nat} {v : Value} (hne : h ≠ g) : (w.setCell ⟨g, o, none⟩ v).heap[h]? = w.heap[h]? := Below.heap_setCell _ _ _ _ hne
theorem Bxs.put (h : Bxs w g y0 y1 x0 x1 x2) (a c : Value) : Bxs ((w.setCell ⟨g, 0, none⟩ a).setCell ⟨g, 1, none⟩ c) g a c x0 x1 x2 :=
  ⟨h.a.put, by rw [set_ne (by omega), set_ne (by omega)]; exact h.c, by show _ = _; rw [set_ne (by omega), set_ne (by omega)]; exact h.d⟩
theorem Bxs.far (h : Bxs w g y0 y1 x0 x1 x2) {i j : Nat} (v : Value) (h0 : i ≠ g) (h1 : i ≠ g + 1) (h2 : i ≠ g + 1 + 1) : Bxs (w.setCell ⟨i, j, none⟩ v) g y0 y1 x0 x1 x2 :=
  ⟨by show _ = _; rw [set_ne (Ne.symm h0)]; exact h.a, by rw [set_ne (Ne.symm h1)]; exact h.c, by show _ = _; rw [set_ne (Ne.symm h2)]; exact h.d⟩
end
/-- Where both have answered. -/
structure Ed (w0 w wr : World) (b : Nat) (m : Web) (v0 v1 : Value) (R : List S55) (Ws : List S57) (X : Nat → Prop) (g : Nat) (u : Value) (n : Nat) (x0 x1 x2 : Int) : Prop where
  bo : Bo w0 wr b m v0 v1 R Ws (XV (X3 X g) u)
  bx : Bxs wr g v0 v1 x0 x1 x2
  same : Same X w wr
  wr : Wr w0.heap.size wr u n
  ne : ∀ k, u.ownBlock = some k → ¬ X3 X g k
section
variable {w0 w wr w' w1 : World} {b : Nat} {m : Web} {v0 v1 : Value} {R : List S55} {Ws : List S57} {X : Nat → Prop} {g n : Nat} {u : Value} {x0 x1 x2 : Int}
theorem Ed.to (h : Ed w0 w wr b m v0 v1 R Ws X g u n x0 x1 x2) (k : Below wr.heap.size wr w') : Ed w0 w w' b m v0 v1 R Ws X g u n x0 x1 x2 := by
  obtain ⟨j1, j2⟩ := h.bo.to k
  exact ⟨j1, h.bx.same j2 (fun i hi => Or.inl hi), h.same.trans (fun i hi => j2 i (Or.inl (Or.inl hi))), h.wr.below k, h.ne⟩
theorem Ed.set {A : Option Addr} {cap i j : Nat} (h : Ed w0 w wr b m v0 v1 R Ws X g (.slice (some ⟨i, 0, none⟩) n cap) n x0 x1 x2) (v : Value) : Ed w0 w (wr.setCell ⟨i, j, none⟩ v) b m v0 v1 R Ws X g (.slice (some ⟨i, 0, none⟩) n cap) n x0 x1 x2 := by
  have hn := h.ne i rfl
  refine ⟨h.bo.chg ((Chg.refl _ _).setCell (p := ⟨i, j, none⟩) (Or.inr rfl) v), h.bx.far v (fun e => hn (Or.inr (Or.inl e))) (fun e => hn (Or.inr (Or.inr (Or.inl e)))) (fun e => hn (Or.inr (Or.inr (Or.inr e)))), h.same.trans (fun k hk => set_ne (fun e => hn (Or.inl (e ▸ hk)))), h.wr.set i j v, h.ne⟩
/-- The result laid. -/
theorem Ed.last (h : Ed w0 w wr b m v0 v1 R Ws X g u n x0 x1 x2) (hX : ∀ k, X k → k < g) : Bo w0 ((wr.setCell ⟨g + 1 + 1, 0, none⟩ v0).setCell ⟨g + 1 + 1, 1, none⟩ v1) b m v0 v1 R Ws X ∧ Same X w ((wr.setCell ⟨g + 1 + 1, 0, none⟩ v0).setCell ⟨g + 1 + 1, 1, none⟩ v1) ∧ Bx ((wr.setCell ⟨g + 1 + 1, 0, none⟩ v0).setCell ⟨g + 1 + 1, 1, none⟩ v1) (g + 1 + 1) v0 v1 := by
  refine ⟨(h.bo.chg (chg_two (a := v0) (c := v1) (Or.inl (Or.inr (Or.inr (Or.inr rfl)))))).less (fun k hk => Or.inl (Or.inl hk)), h.same.trans (fun k hk => ?_), h.bx.d.put⟩
  have := hX k hk
  rw [set_ne (by omega), set_ne (by omega)]
theorem boxes3 (h : Bo w0 w b m v0 v1 R Ws X) (a1 a2 : Value) (x0 x1 x2 : Int) :
    Bo w0 (((w.alloc (.cells #[a1, a2] 48)).alloc (.cells #[.int .i64 x0, .int .i64 x1, .int .i64 x2] 50)).alloc (.cells #[.slice none 0 0, .slice none 0 0] 48)) b m v0 v1 R Ws (X3 X w.heap.size) ∧
    Same X w (((w.alloc (.cells #[a1, a2] 48)).alloc (.cells #[.int .i64 x0, .int .i64 x1, .int .i64 x2] 50)).alloc (.cells #[.slice none 0 0, .slice none 0 0] 48)) ∧
    Bxs (((w.alloc (.cells #[a1, a2] 48)).alloc (.cells #[.int .i64 x0, .int .i64 x1, .int .i64 x2] 50)).alloc (.cells #[.slice none 0 0, .slice none 0 0] 48)) w.heap.size a1 a2 x0 x1 x2 := by
  have s1 := World.size_alloc w (.cells #[a1, a2] 48)
  have s2 := World.size_alloc (w.alloc (.cells #[a1, a2] 48)) (.cells #[.int .i64 x0, .int .i64 x1, .int .i64 x2] 50)
  have hb : Below w.heap.size w (((w.alloc (.cells #[a1, a2] 48)).alloc (.cells #[.int .i64 x0, .int .i64 x1, .int .i64 x2] 50)).alloc (.cells #[.slice none 0 0, .slice none 0 0] 48)) := (((Below.refl _ _).alloc (Nat.le_refl _) _).alloc (by omega) _).alloc (by omega) _
  obtain ⟨j1, j2⟩ := h.box (Y := fun k => k = w.heap.size ∨ k = w.heap.size + 1 ∨ k = w.heap.size + 1 + 1) hb (fun k hk => by simp only [World.size_alloc]; omega)
  refine ⟨j1, j2, blk_alloc (blk_alloc (blk_new w _) _) _, ?_, ?_⟩
  · have := blk_new (w.alloc (.cells #[a1, a2] 48)) (.cells #[.int .i64 x0, .int .i64 x1, .int .i64 x2] 50)
    rw [s1] at this
    exact blk_alloc this _
  · have := blk_new ((w.alloc (.cells #[a1, a2] 48)).alloc (.cells #[.int .i64 x0, .int .i64 x1, .int .i64 x2] 50)) (.cells #[.slice none 0 0, .slice none 0 0] 48)
    rw [s2, s1] at this
    exact this
theorem Wr.same {B : Nat} {w w' : World} {s : Value} {n : Nat} (h : Wr B w s n) (k : ∀ i, s.ownBlock = some i → w'.heap[i]? = w.heap[i]?) : Wr B w' s n := by
  rcases h with h | ⟨g, cap, cur, rfl, h1, h2, h3⟩
  · exact Or.inl h
  · exact Or.inr ⟨g, cap, cur, rfl, h1, (k g rfl).trans h2, h3⟩
/-- Behind both calls, with a list; the document's web stored. -/
theorem Ed.full {w2 w3 : World} {m1 : Web} {a0 a1 : Value} {R1 : List S55} {W1 : List S57} {l : List Int} (hg : Gv w0 w1 w2 b m1 a0 a1 R1 W1 (X3 X g) u l) (hb : Bxs w1 g a0 a1 x0 x1 x2) (ht : Same X w w1) (hX : ∀ k, X k → k < g)
    (h4 : Bo w0 w3 b m v0 v1 R Ws (XV (X3 X g) u)) (hs : Same (XV (X3 X g) u) w2 w3) :
    Ed w0 w ((w3.setCell ⟨g, 0, none⟩ v0).setCell ⟨g, 1, none⟩ v1) b m v0 v1 R Ws X g u l.length x0 x1 x2 ∧ IntsAt ((w3.setCell ⟨g, 0, none⟩ v0).setCell ⟨g, 1, none⟩ v1) u l ∧ Bxs w2 g a0 a1 x0 x1 x2 ∧ Bxs w3 g a0 a1 x0 x1 x2 := by
  have hb2 := hb.same hg.same (fun i hi => hi)
  have hb3 := hb2.same hs (fun i hi => Or.inl hi)
  have hne : ∀ k, u.ownBlock = some k → k ≠ g := fun k hk e => hg.ne k hk (Or.inr (Or.inl e))
  have hmv : ∀ i, u.ownBlock = some i → ((w3.setCell ⟨g, 0, none⟩ v0).setCell ⟨g, 1, none⟩ v1).heap[i]? = w2.heap[i]? := fun i hi => by
    rw [set_ne (hne i hi), set_ne (hne i hi)]; exact hs i (Or.inr hi)
  refine ⟨⟨h4.chg (chg_two (Or.inl (Or.inr (Or.inl rfl)))), hb3.put _ _, (ht.trans (fun i hi => hg.same i (Or.inl hi))).trans (fun i hi => ?_), (Wr.of_row hg.row).same hmv, hg.ne⟩, IntsAt.of_row (hg.row.move hmv), hb2, hb3⟩
  have := hX i hi
  rw [set_ne (by omega), set_ne (by omega)]; exact hs i (Or.inl (Or.inl hi))
theorem Ed.read {w2 w3 : World} {l : List Int} (hg : Gv w0 w1 w2 b m v0 v1 R Ws (X3 X g) u l) (hb : Bxs w1 g v0 v1 x0 x1 x2) (ht : Same X w w1)
    (h4 : Bo w0 w3 b m v0 v1 R Ws (XV (X3 X g) u)) (hs : Same (XV (X3 X g) u) w2 w3) :
    Ed w0 w w3 b m v0 v1 R Ws X g u l.length x0 x1 x2 ∧ IntsAt w3 u l ∧ Bxs w2 g v0 v1 x0 x1 x2 := by
  have hb2 := hb.same hg.same (fun i hi => hi)
  have hmv : ∀ i, u.ownBlock = some i → w3.heap[i]? = w2.heap[i]? := fun i hi => hs i (Or.inr hi)
  exact ⟨⟨h4, hb2.same hs (fun i hi => Or.inl hi), (ht.trans (fun i hi => hg.same i (Or.inl hi))).trans (fun i hi => hs i (Or.inl (Or.inl hi))), (Wr.of_row hg.row).same hmv, hg.ne⟩, IntsAt.of_row (hg.row.move hmv), hb2⟩
theorem Ed.plain (h : Bo w0 wr b m v0 v1 R Ws (X3 X g)) (hb : Bxs wr g v0 v1 x0 x1 x2) (hs : Same X w wr) : Ed w0 w wr b m v0 v1 R Ws X g (.slice none 0 0) 0 x0 x1 x2 :=
  ⟨h.less (fun k hk => by rcases hk with hk | hk; exact hk; exact absurd hk (by simp [Value.ownBlock])), hb, hs, Or.inl rfl, fun k hk => absurd hk (by simp [Value.ownBlock])⟩
end
theorem Pl_since {w0 w : World} {b : Nat} (h : Play w0 w b) : Below w0.heap.size w0 w := by
  obtain ⟨m, ⟨V, h1, h2⟩, _⟩ := h
  exact h2
theorem endFew {m : Web} (hi : Iw m) (t : Int) : (endOut m t).2.2.1.length ≤ 100000 := by
  unfold endOut
  split
  · rename_i hx
    obtain ⟨tn, ht, rfl, e1⟩ := nat_of hx
    rw [e1]
    split
    · simp
    · split
      · simp
      · rename_i x hgl
        obtain ⟨c, hc, rfl, _⟩ := hi.stk tn ht x (List.mem_of_getLast? hgl)
        have := hi.few c hc
        simp only [Int.toNat_natCast]; omega
  · simp
theorem askFew {m : Web} (hi : Iw m) (t c : Int) : (askOut m t c).1.length ≤ 100000 := by
  unfold askOut
  split
  · rename_i hx
    obtain ⟨cn, hc, rfl, e2⟩ := cell_of hx.2
    split
    · simp
    · rw [e2]; exact hi.circle_few hc rfl
  · simp
theorem waitFew {m : Web} (hi : Iw m) (t c : Int) : (waitOut m t c).2.1.length ≤ 100000 := by
  unfold waitOut
  split
  · rename_i hx
    obtain ⟨cn, hc, rfl, e2⟩ := cell_of hx.2
    split
    · simp
    · split
      · simp
      · split
        · simp
        · rw [e2]; exact hi.circle_few hc rfl
  · simp

set_option maxHeartbeats 8000000 in
set_option maxRecDepth 100000 in
theorem step_ok {w0 w : World} {b : Nat} {m : Web} {v0 v1 : Value} {R : List S55} {Ws : List S57} {X : Nat → Prop} (x0 x1 x2 : Int) (hr : Hid (Rel m R Ws)) (hi : Hid (Iw m)) (h : Hid (Bo w0 w b m v0 v1 R Ws X)) :
    Calls Try.prog 23 #[.pointer (some ⟨b, 0, none⟩), .agg #[v0, v1], .agg #[.int .i64 x0, .int .i64 x1, .int .i64 x2]] w fun e w' => ∃ b' v0' v1' m' R' Ws', e = .returned (.tuple #[.pointer (some ⟨b', 0, none⟩), .agg #[v0', v1'], .bool true]) ∧ Hid (Rel m' R' Ws') ∧ Hid (Iw m') ∧ Hid (Bo w0 w' b' m' v0' v1' R' Ws' X) ∧ Hid (Same X w w') := by
  obtain ⟨A0, c0, A1, c1, e0, e1, -, -, -, -⟩ := h.out.reads
  subst e0; subst e1
  obtain ⟨j1, j2, j3⟩ := boxes3 h.out (.slice A0 R.length c0) (.slice A1 Ws.length c1) x0 x1 x2
  have H1 := Lib.hid (And.intro j1 (And.intro j2 j3))
  have HX := Lib.hid h.out.lt
  clear j1 j2 j3 h
  go_enter Try.func23, Try.ntmps23
  go_wp2_with fail
  refine (among_any _ x0 7 (by decide) (by decide)).mono ?_
  rintro _ w1 ⟨rfl, hb1⟩
  have H2 := Lib.hid (show Bo w0 w1 b m (.slice A0 R.length c0) (.slice A1 Ws.length c1) R Ws (X3 X w.heap.size) ∧ Bxs w1 w.heap.size (.slice A0 R.length c0) (.slice A1 Ws.length c1) x0 x1 x2 ∧ Same X w w1 from by
    obtain ⟨k1, k2⟩ := H1.out.1.to hb1
    exact ⟨k1, H1.out.2.2.same k2 (fun i hi => hi), H1.out.2.1.trans (fun i hi => k2 i (Or.inl hi))⟩)
  clear H1 hb1
  have hk : x0 % 7 = 0 ∨ x0 % 7 = 1 ∨ x0 % 7 = 2 ∨ x0 % 7 = 3 ∨ x0 % 7 = 4 ∨ x0 % 7 = 5 ∨ x0 % 7 = 6 := by omega
  generalize x0 % 7 = kk at *
  generalize w.heap.size = g at *
  obtain ⟨q0, q1, q2, q3, q4, q5⟩ := H2.out.2.1.facts
  rcases hk with rfl | rfl | rfl | rfl | rfl | rfl | rfl
  · go_wp2_with fail
    refine (begin_b x1 x2 hi.out (Lib.hid H2.out.1)).mono ?_
    clear q0 q1 q2 q3 q4 q5
    rintro _ w2 ⟨rfl, H3, HS3⟩
    have HB3 := Lib.hid (H2.out.2.1.same HS3.out (fun i hi => hi))
    have HT3 := Lib.hid (show Same X w w2 from H2.out.2.2.trans (fun i hi => HS3.out i (Or.inl hi)))
    clear H2 HS3
    obtain ⟨q0, q1, q2, q3, q4, q5⟩ := HB3.out.facts
    go_wp2_with fail
    refine (begin_r x1 x2 hr hi H3).mono ?_
    clear q0 q1 q2 q3 q4 q5
    rintro _ w3 ⟨u0, u1, R', Ws', rfl, HR, HI, H4, HS4⟩
    obtain ⟨⟨A5, c5, rfl⟩, A6, c6, rfl⟩ := H4.out.shape
    have HB4 := Lib.hid (HB3.out.same HS4.out (fun i hi => hi))
    have HEd := Lib.hid (show Ed w0 w ((w3.setCell ⟨g, 0, none⟩ (.slice A5 R'.length c5)).setCell ⟨g, 1, none⟩ (.slice A6 Ws'.length c6)) b (beginOut m x1 x2).1 (.slice A5 R'.length c5) (.slice A6 Ws'.length c6) R' Ws' X g (.slice none 0 0) 0 x0 x1 x2 from
      Ed.plain (H4.out.chg (chg_two (Or.inr (Or.inl rfl)))) (HB4.out.put _ _) (HT3.out.trans ((show Same X w2 w3 from fun i hi => HS4.out i (Or.inl hi)).trans (fun i hi => by have := HX.out i hi; rw [set_ne (by omega), set_ne (by omega)]))))
    clear HB3 HT3 H3 H4 HS4
    generalize (beginOut m x1 x2).1 = m' at *
    generalize (beginOut m x1 x2).2 = err at *
    obtain ⟨q0, q1, q2, q3, q4, q5⟩ := HB4.out.facts
    clear HB4
    go_wp2_with fail
    refine (ints_eq _ (.slice none 0 0) (.slice none 0 0) ([] : List Int) ⟨none, 0, rfl, Nat.le_refl _, rfl, by simp, fun h => absurd h (by simp)⟩ ⟨none, 0, rfl, Nat.le_refl _, rfl, by simp, fun h => absurd h (by simp)⟩ (by simp)).mono ?_
    rintro _ w7 ⟨rfl, hb7⟩
    have H7 := Lib.hid (HEd.out.to hb7)
    clear HEd hb7
    go_wp2_with fail
    go_loopg [154] (([] : List Int)).length (fun gk i wr => ∃ j : Nat, i = .int .i64 j ∧ j + gk = (([] : List Int)).length ∧ Hid (Ed w0 w wr b m' (.slice A5 R'.length c5) (.slice A6 Ws'.length c6) R' Ws' X g (.slice none 0 0) (([] : List Int)).length x0 x1 x2))
    case atStart => exact ⟨0, rfl, by simp, H7⟩
    case round =>
      obtain ⟨j, rfl, hj, HY⟩ := hrel
      clear H7
      by_cases hjl : 0 < j
      · exact absurd hj (by simp; omega)
      · obtain rfl : j = 0 := by omega
        clear hj hjl
        go_wp2_with fail
        obtain ⟨s0, s1, s2, s3, -, -⟩ := HY.out.bx.facts
        obtain ⟨p0, p1, p2, p3⟩ := HY.out.bx.d.facts
        have HE := Lib.hid ((HY.out.to ((Below.refl _ _).drew)).last HX.out)
        go_region
        all_goals
          go_wp2_with fail
          refine bodyPost_ret (results_list (rs := [.tmp 6, .cell 7 48, .tmp 8]) rfl (by simp) (.tmp (.cell (g + 1 + 1) 48 #[(.slice A5 R'.length c5), (.slice A6 Ws'.length c6)] (0, 0) _ rfl HE.out.2.2 Try.underlying48 rfl (by kernel_rfl) (.tmp .nil)))) rfl ?_
          exact ⟨b, (.slice A5 R'.length c5), (.slice A6 Ws'.length c6), m', R', Ws', rfl, HR, HI, Lib.hid HE.out.1, Lib.hid HE.out.2.1⟩

  · go_wp2_with fail
    refine (end_b x1 hi.out (Lib.hid H2.out.1)).mono ?_
    clear q0 q1 q2 q3 q4 q5
    rintro _ w2 ⟨A4, c4, rfl, HG⟩
    have HB3 := Lib.hid (H2.out.2.1.same HG.out.same (fun i hi => hi))
    obtain ⟨q0, q1, q2, q3, q4, q5⟩ := HB3.out.facts
    go_wp2_with fail
    refine (end_r x1 hr hi (Lib.hid HG.out.bo)).mono ?_
    clear q0 q1 q2 q3 q4 q5 HB3
    rintro _ w3 ⟨u0, u1, vv, R', Ws', rfl, HK, HR, HI, H4, HS4⟩
    obtain ⟨⟨A5, c5, rfl⟩, A6, c6, rfl⟩ := H4.out.shape
    have HA := Lib.hid (Ed.full HG.out H2.out.2.1 H2.out.2.2 HX.out H4.out HS4.out)
    have HKK := Lib.hid (show IntsAt ((w3.setCell ⟨g, 0, none⟩ (.slice A5 R'.length c5)).setCell ⟨g, 1, none⟩ (.slice A6 Ws'.length c6)) vv _ from IntsAt.of_R (Kd.R_far (p := ⟨g, 1, none⟩) (Kd.R_far (p := ⟨g, 0, none⟩) HK.out (fun k hk e => hk (Or.inl (Or.inr (Or.inl e)))) _) (fun k hk e => hk (Or.inl (Or.inr (Or.inl e)))) _))
    have HFew := Lib.hid (endFew hi.out x1)
    clear HG H2 H4 HS4 HK
    generalize (endOut m x1).1 = m' at *
    generalize (endOut m x1).2.1 = nn at *
    generalize (endOut m x1).2.2.1 = LL at *
    generalize (endOut m x1).2.2.2 = err at *
    obtain ⟨q0, q1, q2, q3, q4, q5⟩ := HA.out.2.2.2.facts
    have HEd := Lib.hid HA.out.1
    have HII := Lib.hid HA.out.2.1
    clear HA
    go_wp2_with fail
    refine (ints_eq _ (.slice A4 LL.length c4) vv LL HII.out HKK.out (by have := HFew.out; omega)).mono ?_
    rintro _ w7 ⟨rfl, hb7⟩
    have H7 := Lib.hid (HEd.out.to hb7)
    clear HEd hb7
    go_wp2_with fail
    go_loopg [154] (LL).length (fun gk i wr => ∃ j : Nat, i = .int .i64 j ∧ j + gk = (LL).length ∧ Hid (Ed w0 w wr b m' (.slice A5 R'.length c5) (.slice A6 Ws'.length c6) R' Ws' X g (.slice A4 LL.length c4) (LL).length x0 x1 x2))
    case atStart => exact ⟨0, rfl, by simp, H7⟩
    case round =>
      obtain ⟨j, rfl, hj, HY⟩ := hrel
      clear H7
      by_cases hjl : j < (LL).length
      · obtain ⟨gi, uu, hA, hg, k1, k2⟩ := HY.out.wr.at_ hjl
        subst hA
        have hj2 : (j : Int) < (LL).length := by omega
        have hw : IntKind.i64.wrap ((j : Int) + 1) = (j : Int) + 1 := IntWalk.i64_in _ (by have := HFew.out; omega)
        have HN := Lib.hid (HY.out.set (A := none) (j := j) (.int .i64 (-7)))
        have HJ := Lib.hid hj
        clear hj HY hg
        go_wp2_with fail
        go_roundg (gk - 1)
        case measure => have := HJ.out; omega
        case rel => exact ⟨j + 1, by simp, by have := HJ.out; omega, HN⟩
      · obtain rfl : j = (LL).length := by omega
        clear hj hjl
        go_wp2_with fail
        obtain ⟨s0, s1, s2, s3, -, -⟩ := HY.out.bx.facts
        obtain ⟨p0, p1, p2, p3⟩ := HY.out.bx.d.facts
        have HE := Lib.hid ((HY.out.to ((Below.refl _ _).drew)).last HX.out)
        go_region
        all_goals
          go_wp2_with fail
          refine bodyPost_ret (results_list (rs := [.tmp 6, .cell 7 48, .tmp 8]) rfl (by simp) (.tmp (.cell (g + 1 + 1) 48 #[(.slice A5 R'.length c5), (.slice A6 Ws'.length c6)] (0, 0) _ rfl HE.out.2.2 Try.underlying48 rfl (by kernel_rfl) (.tmp .nil)))) rfl ?_
          exact ⟨b, (.slice A5 R'.length c5), (.slice A6 Ws'.length c6), m', R', Ws', rfl, HR, HI, Lib.hid HE.out.1, Lib.hid HE.out.2.1⟩

  · go_wp2_with fail
    refine (ask_b x1 x2 hi.out (Lib.hid H2.out.1)).mono ?_
    clear q0 q1 q2 q3 q4 q5
    rintro _ w2 ⟨A4, c4, rfl, HG⟩
    have HB3 := Lib.hid (H2.out.2.1.same HG.out.same (fun i hi => hi))
    obtain ⟨q0, q1, q2, q3, q4, q5⟩ := HB3.out.facts
    go_wp2_with fail
    refine (ask_r x1 x2 hr hi (Lib.hid HG.out.bo)).mono ?_
    clear q0 q1 q2 q3 q4 q5 HB3
    rintro _ w3 ⟨vv, rfl, HKK, H4, HS4⟩
    have HA := Lib.hid (Ed.read HG.out H2.out.2.1 H2.out.2.2 H4.out HS4.out)
    have HFew := Lib.hid (askFew hi.out x1 x2)
    clear HG H2 H4 HS4
    generalize (askOut m x1 x2).1 = LL at *
    generalize (askOut m x1 x2).2 = err at *
    have HEd := Lib.hid HA.out.1
    have HII := Lib.hid HA.out.2.1
    clear HA
    go_wp2_with fail
    refine (ints_eq _ (.slice A4 LL.length c4) vv LL HII.out HKK.out (by have := HFew.out; omega)).mono ?_
    rintro _ w7 ⟨rfl, hb7⟩
    have H7 := Lib.hid (HEd.out.to hb7)
    clear HEd hb7
    go_wp2_with fail
    go_loopg [154] (LL).length (fun gk i wr => ∃ j : Nat, i = .int .i64 j ∧ j + gk = (LL).length ∧ Hid (Ed w0 w wr b m (.slice A0 R.length c0) (.slice A1 Ws.length c1) R Ws X g (.slice A4 LL.length c4) (LL).length x0 x1 x2))
    case atStart => exact ⟨0, rfl, by simp, H7⟩
    case round =>
      obtain ⟨j, rfl, hj, HY⟩ := hrel
      clear H7
      by_cases hjl : j < (LL).length
      · obtain ⟨gi, uu, hA, hg, k1, k2⟩ := HY.out.wr.at_ hjl
        subst hA
        have hj2 : (j : Int) < (LL).length := by omega
        have hw : IntKind.i64.wrap ((j : Int) + 1) = (j : Int) + 1 := IntWalk.i64_in _ (by have := HFew.out; omega)
        have HN := Lib.hid (HY.out.set (A := none) (j := j) (.int .i64 (-7)))
        have HJ := Lib.hid hj
        clear hj HY hg
        go_wp2_with fail
        go_roundg (gk - 1)
        case measure => have := HJ.out; omega
        case rel => exact ⟨j + 1, by simp, by have := HJ.out; omega, HN⟩
      · obtain rfl : j = (LL).length := by omega
        clear hj hjl
        go_wp2_with fail
        obtain ⟨s0, s1, s2, s3, -, -⟩ := HY.out.bx.facts
        obtain ⟨p0, p1, p2, p3⟩ := HY.out.bx.d.facts
        have HE := Lib.hid ((HY.out.to ((Below.refl _ _).drew)).last HX.out)
        go_region
        all_goals
          go_wp2_with fail
          refine bodyPost_ret (results_list (rs := [.tmp 6, .cell 7 48, .tmp 8]) rfl (by simp) (.tmp (.cell (g + 1 + 1) 48 #[(.slice A0 R.length c0), (.slice A1 Ws.length c1)] (0, 0) _ rfl HE.out.2.2 Try.underlying48 rfl (by kernel_rfl) (.tmp .nil)))) rfl ?_
          exact ⟨b, (.slice A0 R.length c0), (.slice A1 Ws.length c1), m, R, Ws, rfl, hr, hi, Lib.hid HE.out.1, Lib.hid HE.out.2.1⟩

  · go_wp2_with fail
    refine (wait_b x1 x2 hi.out (Lib.hid H2.out.1)).mono ?_
    clear q0 q1 q2 q3 q4 q5
    rintro _ w2 ⟨A4, c4, rfl, HG⟩
    have HB3 := Lib.hid (H2.out.2.1.same HG.out.same (fun i hi => hi))
    obtain ⟨q0, q1, q2, q3, q4, q5⟩ := HB3.out.facts
    go_wp2_with fail
    refine (wait_r x1 x2 hr hi (Lib.hid HG.out.bo)).mono ?_
    clear q0 q1 q2 q3 q4 q5 HB3
    rintro _ w3 ⟨u0, u1, vv, R', Ws', rfl, HK, HR, HI, H4, HS4⟩
    obtain ⟨⟨A5, c5, rfl⟩, A6, c6, rfl⟩ := H4.out.shape
    have HA := Lib.hid (Ed.full HG.out H2.out.2.1 H2.out.2.2 HX.out H4.out HS4.out)
    have HKK := Lib.hid (show IntsAt ((w3.setCell ⟨g, 0, none⟩ (.slice A5 R'.length c5)).setCell ⟨g, 1, none⟩ (.slice A6 Ws'.length c6)) vv _ from IntsAt.of_R (Kd.R_far (p := ⟨g, 1, none⟩) (Kd.R_far (p := ⟨g, 0, none⟩) HK.out (fun k hk e => hk (Or.inl (Or.inr (Or.inl e)))) _) (fun k hk e => hk (Or.inl (Or.inr (Or.inl e)))) _))
    have HFew := Lib.hid (waitFew hi.out x1 x2)
    clear HG H2 H4 HS4 HK
    generalize (waitOut m x1 x2).1 = m' at *
    generalize (waitOut m x1 x2).2.1 = LL at *
    generalize (waitOut m x1 x2).2.2 = err at *
    obtain ⟨q0, q1, q2, q3, q4, q5⟩ := HA.out.2.2.2.facts
    have HEd := Lib.hid HA.out.1
    have HII := Lib.hid HA.out.2.1
    clear HA
    go_wp2_with fail
    refine (ints_eq _ (.slice A4 LL.length c4) vv LL HII.out HKK.out (by have := HFew.out; omega)).mono ?_
    rintro _ w7 ⟨rfl, hb7⟩
    have H7 := Lib.hid (HEd.out.to hb7)
    clear HEd hb7
    go_wp2_with fail
    go_loopg [154] (LL).length (fun gk i wr => ∃ j : Nat, i = .int .i64 j ∧ j + gk = (LL).length ∧ Hid (Ed w0 w wr b m' (.slice A5 R'.length c5) (.slice A6 Ws'.length c6) R' Ws' X g (.slice A4 LL.length c4) (LL).length x0 x1 x2))
    case atStart => exact ⟨0, rfl, by simp, H7⟩
    case round =>
      obtain ⟨j, rfl, hj, HY⟩ := hrel
      clear H7
      by_cases hjl : j < (LL).length
      · obtain ⟨gi, uu, hA, hg, k1, k2⟩ := HY.out.wr.at_ hjl
        subst hA
        have hj2 : (j : Int) < (LL).length := by omega
        have hw : IntKind.i64.wrap ((j : Int) + 1) = (j : Int) + 1 := IntWalk.i64_in _ (by have := HFew.out; omega)
        have HN := Lib.hid (HY.out.set (A := none) (j := j) (.int .i64 (-7)))
        have HJ := Lib.hid hj
        clear hj HY hg
        go_wp2_with fail
        go_roundg (gk - 1)
        case measure => have := HJ.out; omega
        case rel => exact ⟨j + 1, by simp, by have := HJ.out; omega, HN⟩
      · obtain rfl : j = (LL).length := by omega
        clear hj hjl
        go_wp2_with fail
        obtain ⟨s0, s1, s2, s3, -, -⟩ := HY.out.bx.facts
        obtain ⟨p0, p1, p2, p3⟩ := HY.out.bx.d.facts
        have HE := Lib.hid ((HY.out.to ((Below.refl _ _).drew)).last HX.out)
        go_region
        all_goals
          go_wp2_with fail
          refine bodyPost_ret (results_list (rs := [.tmp 6, .cell 7 48, .tmp 8]) rfl (by simp) (.tmp (.cell (g + 1 + 1) 48 #[(.slice A5 R'.length c5), (.slice A6 Ws'.length c6)] (0, 0) _ rfl HE.out.2.2 Try.underlying48 rfl (by kernel_rfl) (.tmp .nil)))) rfl ?_
          exact ⟨b, (.slice A5 R'.length c5), (.slice A6 Ws'.length c6), m', R', Ws', rfl, HR, HI, Lib.hid HE.out.1, Lib.hid HE.out.2.1⟩

  · go_wp2_with fail
    refine (wake_b x1 hi.out (Lib.hid H2.out.1)).mono ?_
    clear q0 q1 q2 q3 q4 q5
    rintro _ w2 ⟨rfl, H3, HS3⟩
    have HB3 := Lib.hid (H2.out.2.1.same HS3.out (fun i hi => hi))
    have HT3 := Lib.hid (show Same X w w2 from H2.out.2.2.trans (fun i hi => HS3.out i (Or.inl hi)))
    clear H2 HS3
    obtain ⟨q0, q1, q2, q3, q4, q5⟩ := HB3.out.facts
    go_wp2_with fail
    refine (wake_r x1 hr hi H3).mono ?_
    clear q0 q1 q2 q3 q4 q5
    rintro _ w3 ⟨u0, u1, R', Ws', rfl, HR, HI, H4, HS4⟩
    obtain ⟨⟨A5, c5, rfl⟩, A6, c6, rfl⟩ := H4.out.shape
    have HB4 := Lib.hid (HB3.out.same HS4.out (fun i hi => hi))
    have HEd := Lib.hid (show Ed w0 w ((w3.setCell ⟨g, 0, none⟩ (.slice A5 R'.length c5)).setCell ⟨g, 1, none⟩ (.slice A6 Ws'.length c6)) b (wakeOut m x1).1 (.slice A5 R'.length c5) (.slice A6 Ws'.length c6) R' Ws' X g (.slice none 0 0) 0 x0 x1 x2 from
      Ed.plain (H4.out.chg (chg_two (Or.inr (Or.inl rfl)))) (HB4.out.put _ _) (HT3.out.trans ((show Same X w2 w3 from fun i hi => HS4.out i (Or.inl hi)).trans (fun i hi => by have := HX.out i hi; rw [set_ne (by omega), set_ne (by omega)]))))
    clear HB3 HT3 H3 H4 HS4
    generalize (wakeOut m x1).1 = m' at *
    generalize (wakeOut m x1).2 = err at *
    obtain ⟨q0, q1, q2, q3, q4, q5⟩ := HB4.out.facts
    clear HB4
    go_wp2_with fail
    refine (ints_eq _ (.slice none 0 0) (.slice none 0 0) ([] : List Int) ⟨none, 0, rfl, Nat.le_refl _, rfl, by simp, fun h => absurd h (by simp)⟩ ⟨none, 0, rfl, Nat.le_refl _, rfl, by simp, fun h => absurd h (by simp)⟩ (by simp)).mono ?_
    rintro _ w7 ⟨rfl, hb7⟩
    have H7 := Lib.hid (HEd.out.to hb7)
    clear HEd hb7
    go_wp2_with fail
    go_loopg [154] (([] : List Int)).length (fun gk i wr => ∃ j : Nat, i = .int .i64 j ∧ j + gk = (([] : List Int)).length ∧ Hid (Ed w0 w wr b m' (.slice A5 R'.length c5) (.slice A6 Ws'.length c6) R' Ws' X g (.slice none 0 0) (([] : List Int)).length x0 x1 x2))
    case atStart => exact ⟨0, rfl, by simp, H7⟩
    case round =>
      obtain ⟨j, rfl, hj, HY⟩ := hrel
      clear H7
      by_cases hjl : 0 < j
      · exact absurd hj (by simp; omega)
      · obtain rfl : j = 0 := by omega
        clear hj hjl
        go_wp2_with fail
        obtain ⟨s0, s1, s2, s3, -, -⟩ := HY.out.bx.facts
        obtain ⟨p0, p1, p2, p3⟩ := HY.out.bx.d.facts
        have HE := Lib.hid ((HY.out.to ((Below.refl _ _).drew)).last HX.out)
        go_region
        all_goals
          go_wp2_with fail
          refine bodyPost_ret (results_list (rs := [.tmp 6, .cell 7 48, .tmp 8]) rfl (by simp) (.tmp (.cell (g + 1 + 1) 48 #[(.slice A5 R'.length c5), (.slice A6 Ws'.length c6)] (0, 0) _ rfl HE.out.2.2 Try.underlying48 rfl (by kernel_rfl) (.tmp .nil)))) rfl ?_
          exact ⟨b, (.slice A5 R'.length c5), (.slice A6 Ws'.length c6), m', R', Ws', rfl, HR, HI, Lib.hid HE.out.1, Lib.hid HE.out.2.1⟩

  · go_wp2_with fail
    refine (clone_b hi.out (Lib.hid H2.out.1)).mono ?_
    clear q0 q1 q2 q3 q4 q5
    rintro _ w2 ⟨x, rfl, H3, HS3⟩
    have HEd := Lib.hid (Ed.plain H3.out (H2.out.2.1.same HS3.out (fun i hi => hi)) (show Same X w w2 from H2.out.2.2.trans (fun i hi => HS3.out i (Or.inl hi))))
    clear H2 HS3 H3
    go_wp2_with fail
    refine (ints_eq _ (.slice none 0 0) (.slice none 0 0) ([] : List Int) ⟨none, 0, rfl, Nat.le_refl _, rfl, by simp, fun h => absurd h (by simp)⟩ ⟨none, 0, rfl, Nat.le_refl _, rfl, by simp, fun h => absurd h (by simp)⟩ (by simp)).mono ?_
    rintro _ w7 ⟨rfl, hb7⟩
    have H7 := Lib.hid (HEd.out.to hb7)
    clear HEd hb7
    go_wp2_with fail
    go_loopg [154] (([] : List Int)).length (fun gk i wr => ∃ j : Nat, i = .int .i64 j ∧ j + gk = (([] : List Int)).length ∧ Hid (Ed w0 w wr x m (.slice A0 R.length c0) (.slice A1 Ws.length c1) R Ws X g (.slice none 0 0) (([] : List Int)).length x0 x1 x2))
    case atStart => exact ⟨0, rfl, by simp, H7⟩
    case round =>
      obtain ⟨j, rfl, hj, HY⟩ := hrel
      clear H7
      by_cases hjl : 0 < j
      · exact absurd hj (by simp; omega)
      · obtain rfl : j = 0 := by omega
        clear hj hjl
        go_wp2_with fail
        obtain ⟨s0, s1, s2, s3, -, -⟩ := HY.out.bx.facts
        obtain ⟨p0, p1, p2, p3⟩ := HY.out.bx.d.facts
        have HE := Lib.hid ((HY.out.to ((Below.refl _ _).drew)).last HX.out)
        go_region
        all_goals
          go_wp2_with fail
          refine bodyPost_ret (results_list (rs := [.tmp 6, .cell 7 48, .tmp 8]) rfl (by simp) (.tmp (.cell (g + 1 + 1) 48 #[(.slice A0 R.length c0), (.slice A1 Ws.length c1)] (0, 0) _ rfl HE.out.2.2 Try.underlying48 rfl (by kernel_rfl) (.tmp .nil)))) rfl ?_
          exact ⟨x, (.slice A0 R.length c0), (.slice A1 Ws.length c1), m, R, Ws, rfl, hr, hi, Lib.hid HE.out.1, Lib.hid HE.out.2.1⟩

  · go_wp2_with fail
    refine (side_b hi.out (Lib.hid H2.out.1)).mono ?_
    clear q0 q1 q2 q3 q4 q5
    rintro _ w2 ⟨x, rfl, HP⟩
    go_wp2_with fail
    refine (begin_play w1 w2 x 3 200 HP.out).mono ?_
    clear HP
    rintro _ w3 ⟨⟨z3, rfl⟩, hp⟩
    have HP := Lib.hid hp
    have HB3 := Lib.hid (H2.out.2.1.same (H2.out.1.to (Pl_since hp)).2 (fun i hi => hi))
    clear hp
    obtain ⟨q0, q1, q2, q3, q4, q5⟩ := HB3.out.facts
    clear HB3
    go_wp2_with fail
    refine (wake_play w1 w3 x x1 HP.out).mono ?_
    clear HP q0 q1 q2 q3 q4 q5
    rintro _ w4 ⟨⟨z4, rfl⟩, hp⟩
    have HP := Lib.hid hp
    have HB3 := Lib.hid (H2.out.2.1.same (H2.out.1.to (Pl_since hp)).2 (fun i hi => hi))
    clear hp
    obtain ⟨q0, q1, q2, q3, q4, q5⟩ := HB3.out.facts
    clear HB3
    go_wp2_with fail
    refine (end_play w1 w4 x x1 HP.out).mono ?_
    clear HP q0 q1 q2 q3 q4 q5
    rintro _ w5 ⟨⟨z5, z6, z7, rfl⟩, hp⟩
    have HEd := Lib.hid (Ed.plain (H2.out.1.to (Pl_since hp)).1 (H2.out.2.1.same (H2.out.1.to (Pl_since hp)).2 (fun i hi => hi)) (show Same X w w5 from H2.out.2.2.trans (fun i hi => (H2.out.1.to (Pl_since hp)).2 i (Or.inl hi))))
    clear H2 hp
    go_wp2_with fail
    refine (ints_eq _ (.slice none 0 0) (.slice none 0 0) ([] : List Int) ⟨none, 0, rfl, Nat.le_refl _, rfl, by simp, fun h => absurd h (by simp)⟩ ⟨none, 0, rfl, Nat.le_refl _, rfl, by simp, fun h => absurd h (by simp)⟩ (by simp)).mono ?_
    rintro _ w7 ⟨rfl, hb7⟩
    have H7 := Lib.hid (HEd.out.to hb7)
    clear HEd hb7
    go_wp2_with fail
    go_loopg [154] (([] : List Int)).length (fun gk i wr => ∃ j : Nat, i = .int .i64 j ∧ j + gk = (([] : List Int)).length ∧ Hid (Ed w0 w wr b m (.slice A0 R.length c0) (.slice A1 Ws.length c1) R Ws X g (.slice none 0 0) (([] : List Int)).length x0 x1 x2))
    case atStart => exact ⟨0, rfl, by simp, H7⟩
    case round =>
      obtain ⟨j, rfl, hj, HY⟩ := hrel
      clear H7
      by_cases hjl : 0 < j
      · exact absurd hj (by simp; omega)
      · obtain rfl : j = 0 := by omega
        clear hj hjl
        go_wp2_with fail
        obtain ⟨s0, s1, s2, s3, -, -⟩ := HY.out.bx.facts
        obtain ⟨p0, p1, p2, p3⟩ := HY.out.bx.d.facts
        have HE := Lib.hid ((HY.out.to ((Below.refl _ _).drew)).last HX.out)
        go_region
        all_goals
          go_wp2_with fail
          refine bodyPost_ret (results_list (rs := [.tmp 6, .cell 7 48, .tmp 8]) rfl (by simp) (.tmp (.cell (g + 1 + 1) 48 #[(.slice A0 R.length c0), (.slice A1 Ws.length c1)] (0, 0) _ rfl HE.out.2.2 Try.underlying48 rfl (by kernel_rfl) (.tmp .nil)))) rfl ?_
          exact ⟨b, (.slice A0 R.length c0), (.slice A1 Ws.length c1), m, R, Ws, rfl, hr, hi, Lib.hid HE.out.1, Lib.hid HE.out.2.1⟩

end Go.Proofs.Ytohkobfamofkgaa
namespace Go.Proofs.Ytohkobfamofkgaa
open Go.RowKit Go.Maps Go.Proofs.Ytohkobfamofkgaa Go.Proofs.Ytohkobfamofkgaa.Wb Go.Proofs.Ytohkobfamofkgaa.PDependPlays Go.Proofs.YtohkobfamofkgaaW.PrintWords Go.Proofs.YtohkobfamofkgaaW.PrintLast Go.Proofs.YtohkobfamofkgaaW.PrintMore
theorem Bo.start {w0 w w' : World} {b : Nat} (hb : Below w0.heap.size w0 w) (h : Mine w w' b m0) : Bo w0 w' b m0 (.slice none 0 0) (.slice none 0 0) [] [] (fun _ => False) := by
  obtain ⟨V, k1, k2⟩ := Mine.lower hb h
  exact ⟨⟨V, k1, fun _ h => h.elim, Kd.V_nil _ _ _ _ _, Kd.R_nil _ _ _ _ _⟩, k2⟩
/-- What stands between the calls: both webs, and the block that holds the document's. -/
structure Pl8 (w wr : World) (g b : Nat) (m : Web) (v0 v1 : Value) (R : List S55) (Ws : List S57) : Prop where
  bo : Bo w wr b m v0 v1 R Ws (fun k => k = g)
  bx : Bx wr g v0 v1
  rel : Rel m R Ws
  iw : Iw m
section
variable {w wr w' : World} {g b : Nat} {m : Web} {v0 v1 : Value} {R : List S55} {Ws : List S57}
theorem Pl8.to (h : Pl8 w wr g b m v0 v1 R Ws) (k : Below wr.heap.size wr w') : Pl8 w w' g b m v0 v1 R Ws := by
  obtain ⟨j1, j2⟩ := h.bo.to k
  exact ⟨j1, h.bx.same j2 rfl, h.rel, h.iw⟩
/-- The call's own block laid. -/
theorem Pl8.lay (h : Pl8 w wr g b m v0 v1 R Ws) (o : Obj) : Bo w (wr.alloc o) b m v0 v1 R Ws (fun k => k = g ∨ k = wr.heap.size) ∧ Bx (wr.alloc o) g v0 v1 ∧ g < wr.heap.size := by
  have hb : Below wr.heap.size wr (wr.alloc o) := (Below.refl _ _).alloc (Nat.le_refl _) _
  obtain ⟨j1, j2⟩ := h.bo.box (Y := fun k => k = wr.heap.size) hb (fun k hk => by simp only [World.size_alloc]; omega)
  exact ⟨j1, h.bx.same j2 rfl, h.bo.lt g rfl⟩
end
theorem step_p {w w1 : World} {g q b : Nat} {m : Web} {v0 v1 : Value} {R : List S55} {Ws : List S57} (x0 x1 x2 : Int) (hr : Hid (Rel m R Ws)) (hi : Hid (Iw m)) (h : Hid (Bo w w1 b m v0 v1 R Ws (fun k => k = g ∨ k = q))) (hq : Hid (w1.heap[q]? = some (.cells #[.int .i64 x0, .int .i64 x1, .int .i64 x2] 50 (0, 0)))) (hg : Hid (Bx w1 g v0 v1 ∧ g < q)) :
    Calls Try.prog 23 #[.pointer (some ⟨b, 0, none⟩), .agg #[v0, v1], .agg #[.int .i64 x0, .int .i64 x1, .int .i64 x2]] w1 fun e w' => ∃ b' A0 c0 A1 c1 m' R' Ws', e = .returned (.tuple #[.pointer (some ⟨b', 0, none⟩), .agg #[.slice A0 R'.length c0, .slice A1 Ws'.length c1], .bool true]) ∧
      Hid (Bx w' g v0 v1) ∧ Hid (Pl8 w ((w'.setCell ⟨g, 0, none⟩ (.slice A0 R'.length c0)).setCell ⟨g, 1, none⟩ (.slice A1 Ws'.length c1)) g b' m' (.slice A0 R'.length c0) (.slice A1 Ws'.length c1) R' Ws') ∧
      ((w'.setCell ⟨g, 0, none⟩ (.slice A0 R'.length c0)).setCell ⟨g, 1, none⟩ (.slice A1 Ws'.length c1)).cell? ⟨q, 1, none⟩ = some (.int .i64 x1) ∧ ((w'.setCell ⟨g, 0, none⟩ (.slice A0 R'.length c0)).setCell ⟨g, 1, none⟩ (.slice A1 Ws'.length c1)).cell? ⟨q, 2, none⟩ = some (.int .i64 x2) := by
  refine (step_ok x0 x1 x2 hr hi h).mono ?_
  rintro _ w' ⟨b', u0, u1, m', R', Ws', rfl, hR, hI, hB, hS⟩
  obtain ⟨⟨A0, c0, rfl⟩, A1, c1, rfl⟩ := hB.out.shape
  have hbx := hg.out.1.same hS.out (Or.inl rfl)
  have hq' : ((w'.setCell ⟨g, 0, none⟩ (.slice A0 R'.length c0)).setCell ⟨g, 1, none⟩ (.slice A1 Ws'.length c1)).heap[q]? = some (.cells #[.int .i64 x0, .int .i64 x1, .int .i64 x2] 50 (0, 0)) := by
    have hlt := hg.out.2
    rw [set_ne (by omega), set_ne (by omega)]
    exact (hS.out q (Or.inr rfl)).trans hq.out
  exact ⟨b', A0, c0, A1, c1, m', R', Ws', rfl, Lib.hid hbx, Lib.hid ⟨(hB.out.chg (chg_two (Or.inl rfl))).less (fun k hk => Or.inl hk), hbx.put, hR.out, hI.out⟩, blk_cell hq' 1, blk_cell hq' 2⟩
theorem tells_p {w w1 : World} {g b : Nat} {m : Web} {v0 v1 : Value} {R : List S55} {Ws : List S57} (t c : Int) (h : Hid (Pl8 w w1 g b m v0 v1 R Ws)) :
    Calls Try.prog 24 #[.pointer (some ⟨b, 0, none⟩), .agg #[v0, v1], .int .i64 t, .int .i64 c] w1 fun e w' => e = .returned (.bool true) ∧ Hid (Pl8 w w' g b m v0 v1 R Ws) :=
  (tells_ok t c (Lib.hid h.out.rel) (Lib.hid h.out.iw) (Lib.hid (h.out.bo.less (fun _ h => h.elim)))).mono (fun _ _ ⟨a, k⟩ => ⟨a, Lib.hid (h.out.to k)⟩)
/-- What is read of a run, and of a wait. -/
theorem run_at {w w1 : World} {g b : Nat} {m : Web} {A0 A1 : Option Addr} {c0 c1 : Nat} {R : List S55} {Ws : List S57} (h : Pl8 w w1 g b m (.slice A0 R.length c0) (.slice A1 Ws.length c1) R Ws) (k : Nat) (hk : k < R.length) :
    ∃ ad ad2 c2 t x n, A0 = some ad ∧ w1.cell? (ad.add (k * 2)) = some (.int .i64 t) ∧ w1.cell? ⟨(ad.add (k * 2)).block, (ad.add (k * 2)).off + 1, none⟩ = some (.slice (some ad2) n c2) ∧ 0 < n ∧ w1.cell? ad2 = some (.int .i64 x) := by
  obtain ⟨V, _, _, h3, _⟩ := h.bo.web
  obtain ⟨ad, A2, c2, e, q0, q1, q2, q3⟩ := at_T55 (Kd.V_reads' h3).2.2 (k : Int) (by omega) (by omega)
  rw [Int.toNat_natCast] at q0 q1
  rw [rd55_at R k hk] at q0 q1 q2 q3
  obtain ⟨t, ht, _, h5, h6⟩ := h.rel.rt _ (List.getElem_mem hk)
  have hp : 0 < R[k].f1.length := by rw [h5]; exact List.length_pos_iff.2 h6
  obtain ⟨ad2, e2, hx⟩ := Kd.at_int q3 0 (by omega) (by omega)
  subst e2
  have e0 : ad2.add (0 : Int).toNat = ad2 := by show ad2.add 0 = ad2; unfold Addr.add; rw [if_pos rfl]
  rw [e0] at hx
  exact ⟨ad, ad2, c2, _, _, _, e, q0, q1, hp, hx⟩
theorem wait_at {w w1 : World} {g b : Nat} {m : Web} {A0 A1 : Option Addr} {c0 c1 : Nat} {R : List S55} {Ws : List S57} (h : Pl8 w w1 g b m (.slice A0 R.length c0) (.slice A1 Ws.length c1) R Ws) (k : Nat) (hk : k < Ws.length) :
    ∃ ad t x, A1 = some ad ∧ w1.cell? (ad.add (k * 2)) = some (.int .i64 t) ∧ w1.cell? ⟨(ad.add (k * 2)).block, (ad.add (k * 2)).off + 1, none⟩ = some (.int .i64 x) := by
  obtain ⟨V, _, _, _, h4⟩ := h.bo.web
  obtain ⟨ad, e, q0, q1⟩ := at_T57 (Kd.R_reads' h4).2.2 (k : Int) (by omega) (by omega)
  rw [Int.toNat_natCast] at q0 q1
  exact ⟨ad, _, _, e, q0, q1⟩
set_option maxHeartbeats 16000000 in
set_option maxRecDepth 100000 in
theorem walk_plays (A : Option Addr) (l : List (Int × Int × Int)) (c : Nat) (w : World) (hl : l.length ≤ c) (hC : Kd.C kcall w A l.length l) (hb : l.length * 24 ≤ 140737488351232) :
    Calls Try.prog 6 #[.slice A l.length c] w fun e w' => e = .returned (.bool true) ∧ Below w.heap.size w w' := by
  have HC := Lib.hid hC
  have hlen : (l.length : Int) < 4611686018427387904 := by omega
  clear hC hl hb
  go_enter Try.func6, Try.ntmps6
  go_wp2_with (first | (go_at_call 12; refine (works_true w).mono ?_; rintro _ w1 ⟨rfl, hb1⟩; have HB1 := Lib.hid hb1; clear hb1) | (go_at_call 22; refine (new_mine _).mono ?_; rintro _ w2 ⟨rfl, hm⟩; have HM := Lib.hid (Bo.start HB1.out hm); clear hm))
  have HP := Lib.hid (show Pl8 w (w2.alloc (.cells #[.slice none 0 0, .slice none 0 0] 48)) w2.heap.size w1.heap.size m0 (.slice none 0 0) (.slice none 0 0) [] [] from
    ⟨(HM.out.box (Y := fun k => k = w2.heap.size) ((Below.refl _ _).alloc (Nat.le_refl _) _) (fun k hk => by simp only [World.size_alloc]; omega)).1.less (fun k hk => Or.inr hk), blk_new w2 _, Rel.zero, Iw.zero⟩)
  clear HM HB1
  go_loopg [16, 3] l.length (fun gk i p wr => ∃ (j b : Nat) (v0 v1 : Value) (m : Web) (R : List S55) (Ws : List S57), i = .int .i64 j ∧ p = .pointer (some ⟨b, 0, none⟩) ∧ j + gk = l.length ∧ Hid (Pl8 w wr w2.heap.size b m v0 v1 R Ws))
  case atStart => exact ⟨0, w1.heap.size, _, _, m0, [], [], rfl, rfl, by simp, HP⟩
  case round =>
    clear HP
    obtain ⟨j, b, v0, v1, m, R, Ws, rfl, rfl, hj, HY⟩ := hrel
    by_cases hlt : j < l.length
    · have hlt2 : (j : Int) < l.length := by omega
      obtain ⟨ad, rfl, n0, n1, n2⟩ := call_at (Kd.C_below HC.out HY.out.bo.bel) j hlt
      generalize hx : l[j] = x at *
      obtain ⟨x0, x1, x2⟩ := x
      simp only at n0 n1 n2
      have HJ := Lib.hid hj
      clear hx hj
      obtain ⟨gO, hgO⟩ : ∃ x, x = gk := ⟨gk, rfl⟩
      obtain ⟨⟨A0, c0, e0⟩, A1, c1, e1⟩ := HY.out.bo.shape
      subst e0; subst e1
      have HLy := Lib.hid (HY.out.lay (.cells #[.int .i64 x0, .int .i64 x1, .int .i64 x2] 50))
      obtain ⟨q0, q1, q2, q3⟩ := HLy.out.2.1.facts
      have HRel := Lib.hid HY.out.rel
      have HIw := Lib.hid HY.out.iw
      go_wp2_with fail
      refine (step_p x0 x1 x2 HRel HIw (Lib.hid HLy.out.1) (Lib.hid (blk_new wr _)) (Lib.hid ⟨HLy.out.2.1, HLy.out.2.2⟩)).mono ?_
      clear HLy q0 q1 q2 q3 n0 n1 n2 HRel HIw HY
      rintro _ w4 ⟨b', A0, c0, A1, c1, m', R', Ws', rfl, HBx, H4, m1, m2⟩
      generalize wr.heap.size = q at *
      obtain ⟨q0, q1, q2, q3⟩ := HBx.out.facts
      obtain ⟨r0, r1, r2, r3⟩ := H4.out.bx.facts
      have hw0 : IntKind.i64.wrap ((j : Int) + 1) = (j : Int) + 1 := IntWalk.i64_in _ (by omega)
      obtain ⟨z, hw9⟩ : ∃ z : Int, IntKind.i64.wrap ((l.length : Int) - 1) = z := ⟨_, rfl⟩
      go_wp2_with fail
      refine (tells_p x1 x2 H4).mono ?_
      clear H4 HBx q0 q1 q2 q3 r0 r1 r2 r3 m1 m2
      rintro _ w5 ⟨rfl, H5⟩
      by_cases hf : (j : Int) < 60 ∨ (j : Int) = z
      · by_cases hf1 : (j : Int) < 60
        · clear hf
          go_wp2_with fail
          go_loopg [8] R'.length (fun gk2 k wr2 => ∃ k1 : Nat, k = .int .i64 k1 ∧ k1 ≤ 8 ∧ k1 + gk2 = R'.length ∧ Hid (Pl8 w wr2 w2.heap.size b' m' (.slice A0 R'.length c0) (.slice A1 Ws'.length c1) R' Ws'))
          case atStart => exact ⟨0, rfl, by omega, by omega, H5⟩
          case round =>
            obtain ⟨k1, rfl, hk8, hk1, HZ⟩ := hrel
            clear H5
            obtain ⟨q0, q1, q2, q3⟩ := HZ.out.bx.facts
            by_cases hin : k1 < R'.length ∧ k1 < 8
            · have i1 : (k1 : Int) < R'.length := by omega
              have i2 : (k1 : Int) < 8 := by omega
              have hw : IntKind.i64.wrap ((k1 : Int) + 1) = (k1 : Int) + 1 := IntWalk.i64_in _ (by omega)
              go_wp2_with fail
              refine region_tail 16 (by kernel_rfl) (by kernel_rfl) (fun w1 => Pl8 w w1 w2.heap.size b' m' (.slice A0 R'.length c0) (.slice A1 Ws'.length c1) R' Ws') (HZ.out.to ((Below.refl _ _).drew)) ?_
              intro w9 hp9
              have H9 := Lib.hid hp9
              clear HZ q0 q1 q2 q3 hp9
              obtain ⟨q0, q1, q2, q3⟩ := H9.out.bx.facts
              obtain ⟨ad, ad2, c2, tt, xx, nn, rfl, k2, k3, k4, k5⟩ := run_at H9.out k1 hin.1
              have i0 : (0 : Int) < nn := by omega
              simp only [List.take_succ_cons, List.take_zero, List.drop_succ_cons, List.drop_zero]
              iterate 16 (refine wpStill_step (fun K hK => ?_); go_simp; refine hK _ ?_; clear hK K)
              refine wpStill_nil ?_
              clear q0 q1 q2 q3 k2 k3 k5
              go_wp2_with (go_at_call 24; refine (tells_p tt xx H9).mono ?_; clear H9; rintro _ w10 ⟨rfl, H10⟩)
              go_roundg (gk - 1)
              case measure => omega
              case rel => exact ⟨k1 + 1, by simp, by omega, by omega, H10⟩
            · have hbr : (k1 : Int) < R'.length → ¬ (k1 : Int) < 8 := fun h1 h2 => hin ⟨by omega, by omega⟩
              have H6 := Lib.hid HZ.out
              by_cases i1 : (k1 : Int) < R'.length
              · have i2 := hbr i1
                go_wp2_with fail
                go_loopg [9] Ws'.length (fun gk3 k wr2 => ∃ k2 : Nat, k = .int .i64 k2 ∧ k2 ≤ 8 ∧ k2 + gk3 = Ws'.length ∧ Hid (Pl8 w wr2 w2.heap.size b' m' (.slice A0 R'.length c0) (.slice A1 Ws'.length c1) R' Ws'))
                case atStart => exact ⟨0, rfl, by omega, by omega, H6⟩
                case round =>
                  clear q0 q1 q2 q3 H6 HZ hin hbr i1
                  obtain ⟨k2, rfl, hk8, hk2, HZ⟩ := hrel
                  obtain ⟨q0, q1, q2, q3⟩ := HZ.out.bx.facts
                  by_cases hin : k2 < Ws'.length ∧ k2 < 8
                  · have i1 : (k2 : Int) < Ws'.length := by omega
                    have i2 : (k2 : Int) < 8 := by omega
                    have hw : IntKind.i64.wrap ((k2 : Int) + 1) = (k2 : Int) + 1 := IntWalk.i64_in _ (by omega)
                    go_wp2_with fail
                    refine region_tail 14 (by kernel_rfl) (by kernel_rfl) (fun w1 => Pl8 w w1 w2.heap.size b' m' (.slice A0 R'.length c0) (.slice A1 Ws'.length c1) R' Ws') (HZ.out.to ((Below.refl _ _).drew)) ?_
                    intro w9 hp9
                    have H9 := Lib.hid hp9
                    clear HZ q0 q1 q2 q3 hp9
                    obtain ⟨q0, q1, q2, q3⟩ := H9.out.bx.facts
                    obtain ⟨ad, tt, xx, rfl, k4, k5⟩ := wait_at H9.out k2 hin.1
                    simp only [List.take_succ_cons, List.take_zero, List.drop_succ_cons, List.drop_zero]
                    iterate 14 (refine wpStill_step (fun K hK => ?_); go_simp; refine hK _ ?_; clear hK K)
                    refine wpStill_nil ?_
                    clear q0 q1 q2 q3 k4 k5
                    go_wp2_with (go_at_call 24; refine (tells_p tt xx H9).mono ?_; clear H9; rintro _ w10 ⟨rfl, H10⟩)
                    go_roundg (gk - 1)
                    case measure => omega
                    case rel => exact ⟨k2 + 1, by simp, by omega, by omega, H10⟩
                  · by_cases i1 : (k2 : Int) < Ws'.length
                    · have i2 : ¬ (k2 : Int) < 8 := fun h2 => hin ⟨by omega, by omega⟩
                      go_wp2_with fail
                      go_roundg (gO - 1)
                      case measure => have := HJ.out; omega
                      case rel => exact ⟨j + 1, b', _, _, m', R', Ws', by simp, rfl, by have := HJ.out; omega, HZ⟩
                    · go_wp2_with fail
                      go_roundg (gO - 1)
                      case measure => have := HJ.out; omega
                      case rel => exact ⟨j + 1, b', _, _, m', R', Ws', by simp, rfl, by have := HJ.out; omega, HZ⟩
              · go_wp2_with fail
                go_loopg [9] Ws'.length (fun gk3 k wr2 => ∃ k2 : Nat, k = .int .i64 k2 ∧ k2 ≤ 8 ∧ k2 + gk3 = Ws'.length ∧ Hid (Pl8 w wr2 w2.heap.size b' m' (.slice A0 R'.length c0) (.slice A1 Ws'.length c1) R' Ws'))
                case atStart => exact ⟨0, rfl, by omega, by omega, H6⟩
                case round =>
                  clear q0 q1 q2 q3 H6 HZ hin hbr i1
                  obtain ⟨k2, rfl, hk8, hk2, HZ⟩ := hrel
                  obtain ⟨q0, q1, q2, q3⟩ := HZ.out.bx.facts
                  by_cases hin : k2 < Ws'.length ∧ k2 < 8
                  · have i1 : (k2 : Int) < Ws'.length := by omega
                    have i2 : (k2 : Int) < 8 := by omega
                    have hw : IntKind.i64.wrap ((k2 : Int) + 1) = (k2 : Int) + 1 := IntWalk.i64_in _ (by omega)
                    go_wp2_with fail
                    refine region_tail 14 (by kernel_rfl) (by kernel_rfl) (fun w1 => Pl8 w w1 w2.heap.size b' m' (.slice A0 R'.length c0) (.slice A1 Ws'.length c1) R' Ws') (HZ.out.to ((Below.refl _ _).drew)) ?_
                    intro w9 hp9
                    have H9 := Lib.hid hp9
                    clear HZ q0 q1 q2 q3 hp9
                    obtain ⟨q0, q1, q2, q3⟩ := H9.out.bx.facts
                    obtain ⟨ad, tt, xx, rfl, k4, k5⟩ := wait_at H9.out k2 hin.1
                    simp only [List.take_succ_cons, List.take_zero, List.drop_succ_cons, List.drop_zero]
                    iterate 14 (refine wpStill_step (fun K hK => ?_); go_simp; refine hK _ ?_; clear hK K)
                    refine wpStill_nil ?_
                    clear q0 q1 q2 q3 k4 k5
                    go_wp2_with (go_at_call 24; refine (tells_p tt xx H9).mono ?_; clear H9; rintro _ w10 ⟨rfl, H10⟩)
                    go_roundg (gk - 1)
                    case measure => omega
                    case rel => exact ⟨k2 + 1, by simp, by omega, by omega, H10⟩
                  · by_cases i1 : (k2 : Int) < Ws'.length
                    · have i2 : ¬ (k2 : Int) < 8 := fun h2 => hin ⟨by omega, by omega⟩
                      go_wp2_with fail
                      go_roundg (gO - 1)
                      case measure => have := HJ.out; omega
                      case rel => exact ⟨j + 1, b', _, _, m', R', Ws', by simp, rfl, by have := HJ.out; omega, HZ⟩
                    · go_wp2_with fail
                      go_roundg (gO - 1)
                      case measure => have := HJ.out; omega
                      case rel => exact ⟨j + 1, b', _, _, m', R', Ws', by simp, rfl, by have := HJ.out; omega, HZ⟩
        · have hf2 : ((j : Int) == z) = true := by simpa using (hf.resolve_left hf1)
          clear hf
          go_wp2_with fail
          go_loopg [8] R'.length (fun gk2 k wr2 => ∃ k1 : Nat, k = .int .i64 k1 ∧ k1 ≤ 8 ∧ k1 + gk2 = R'.length ∧ Hid (Pl8 w wr2 w2.heap.size b' m' (.slice A0 R'.length c0) (.slice A1 Ws'.length c1) R' Ws'))
          case atStart => exact ⟨0, rfl, by omega, by omega, H5⟩
          case round =>
            obtain ⟨k1, rfl, hk8, hk1, HZ⟩ := hrel
            clear H5
            obtain ⟨q0, q1, q2, q3⟩ := HZ.out.bx.facts
            by_cases hin : k1 < R'.length ∧ k1 < 8
            · have i1 : (k1 : Int) < R'.length := by omega
              have i2 : (k1 : Int) < 8 := by omega
              have hw : IntKind.i64.wrap ((k1 : Int) + 1) = (k1 : Int) + 1 := IntWalk.i64_in _ (by omega)
              go_wp2_with fail
              refine region_tail 16 (by kernel_rfl) (by kernel_rfl) (fun w1 => Pl8 w w1 w2.heap.size b' m' (.slice A0 R'.length c0) (.slice A1 Ws'.length c1) R' Ws') (HZ.out.to ((Below.refl _ _).drew)) ?_
              intro w9 hp9
              have H9 := Lib.hid hp9
              clear HZ q0 q1 q2 q3 hp9
              obtain ⟨q0, q1, q2, q3⟩ := H9.out.bx.facts
              obtain ⟨ad, ad2, c2, tt, xx, nn, rfl, k2, k3, k4, k5⟩ := run_at H9.out k1 hin.1
              have i0 : (0 : Int) < nn := by omega
              simp only [List.take_succ_cons, List.take_zero, List.drop_succ_cons, List.drop_zero]
              iterate 16 (refine wpStill_step (fun K hK => ?_); go_simp; refine hK _ ?_; clear hK K)
              refine wpStill_nil ?_
              clear q0 q1 q2 q3 k2 k3 k5
              go_wp2_with (go_at_call 24; refine (tells_p tt xx H9).mono ?_; clear H9; rintro _ w10 ⟨rfl, H10⟩)
              go_roundg (gk - 1)
              case measure => omega
              case rel => exact ⟨k1 + 1, by simp, by omega, by omega, H10⟩
            · have hbr : (k1 : Int) < R'.length → ¬ (k1 : Int) < 8 := fun h1 h2 => hin ⟨by omega, by omega⟩
              have H6 := Lib.hid HZ.out
              by_cases i1 : (k1 : Int) < R'.length
              · have i2 := hbr i1
                go_wp2_with fail
                go_loopg [9] Ws'.length (fun gk3 k wr2 => ∃ k2 : Nat, k = .int .i64 k2 ∧ k2 ≤ 8 ∧ k2 + gk3 = Ws'.length ∧ Hid (Pl8 w wr2 w2.heap.size b' m' (.slice A0 R'.length c0) (.slice A1 Ws'.length c1) R' Ws'))
                case atStart => exact ⟨0, rfl, by omega, by omega, H6⟩
                case round =>
                  clear q0 q1 q2 q3 H6 HZ hin hbr i1
                  obtain ⟨k2, rfl, hk8, hk2, HZ⟩ := hrel
                  obtain ⟨q0, q1, q2, q3⟩ := HZ.out.bx.facts
                  by_cases hin : k2 < Ws'.length ∧ k2 < 8
                  · have i1 : (k2 : Int) < Ws'.length := by omega
                    have i2 : (k2 : Int) < 8 := by omega
                    have hw : IntKind.i64.wrap ((k2 : Int) + 1) = (k2 : Int) + 1 := IntWalk.i64_in _ (by omega)
                    go_wp2_with fail
                    refine region_tail 14 (by kernel_rfl) (by kernel_rfl) (fun w1 => Pl8 w w1 w2.heap.size b' m' (.slice A0 R'.length c0) (.slice A1 Ws'.length c1) R' Ws') (HZ.out.to ((Below.refl _ _).drew)) ?_
                    intro w9 hp9
                    have H9 := Lib.hid hp9
                    clear HZ q0 q1 q2 q3 hp9
                    obtain ⟨q0, q1, q2, q3⟩ := H9.out.bx.facts
                    obtain ⟨ad, tt, xx, rfl, k4, k5⟩ := wait_at H9.out k2 hin.1
                    simp only [List.take_succ_cons, List.take_zero, List.drop_succ_cons, List.drop_zero]
                    iterate 14 (refine wpStill_step (fun K hK => ?_); go_simp; refine hK _ ?_; clear hK K)
                    refine wpStill_nil ?_
                    clear q0 q1 q2 q3 k4 k5
                    go_wp2_with (go_at_call 24; refine (tells_p tt xx H9).mono ?_; clear H9; rintro _ w10 ⟨rfl, H10⟩)
                    go_roundg (gk - 1)
                    case measure => omega
                    case rel => exact ⟨k2 + 1, by simp, by omega, by omega, H10⟩
                  · by_cases i1 : (k2 : Int) < Ws'.length
                    · have i2 : ¬ (k2 : Int) < 8 := fun h2 => hin ⟨by omega, by omega⟩
                      go_wp2_with fail
                      go_roundg (gO - 1)
                      case measure => have := HJ.out; omega
                      case rel => exact ⟨j + 1, b', _, _, m', R', Ws', by simp, rfl, by have := HJ.out; omega, HZ⟩
                    · go_wp2_with fail
                      go_roundg (gO - 1)
                      case measure => have := HJ.out; omega
                      case rel => exact ⟨j + 1, b', _, _, m', R', Ws', by simp, rfl, by have := HJ.out; omega, HZ⟩
              · go_wp2_with fail
                go_loopg [9] Ws'.length (fun gk3 k wr2 => ∃ k2 : Nat, k = .int .i64 k2 ∧ k2 ≤ 8 ∧ k2 + gk3 = Ws'.length ∧ Hid (Pl8 w wr2 w2.heap.size b' m' (.slice A0 R'.length c0) (.slice A1 Ws'.length c1) R' Ws'))
                case atStart => exact ⟨0, rfl, by omega, by omega, H6⟩
                case round =>
                  clear q0 q1 q2 q3 H6 HZ hin hbr i1
                  obtain ⟨k2, rfl, hk8, hk2, HZ⟩ := hrel
                  obtain ⟨q0, q1, q2, q3⟩ := HZ.out.bx.facts
                  by_cases hin : k2 < Ws'.length ∧ k2 < 8
                  · have i1 : (k2 : Int) < Ws'.length := by omega
                    have i2 : (k2 : Int) < 8 := by omega
                    have hw : IntKind.i64.wrap ((k2 : Int) + 1) = (k2 : Int) + 1 := IntWalk.i64_in _ (by omega)
                    go_wp2_with fail
                    refine region_tail 14 (by kernel_rfl) (by kernel_rfl) (fun w1 => Pl8 w w1 w2.heap.size b' m' (.slice A0 R'.length c0) (.slice A1 Ws'.length c1) R' Ws') (HZ.out.to ((Below.refl _ _).drew)) ?_
                    intro w9 hp9
                    have H9 := Lib.hid hp9
                    clear HZ q0 q1 q2 q3 hp9
                    obtain ⟨q0, q1, q2, q3⟩ := H9.out.bx.facts
                    obtain ⟨ad, tt, xx, rfl, k4, k5⟩ := wait_at H9.out k2 hin.1
                    simp only [List.take_succ_cons, List.take_zero, List.drop_succ_cons, List.drop_zero]
                    iterate 14 (refine wpStill_step (fun K hK => ?_); go_simp; refine hK _ ?_; clear hK K)
                    refine wpStill_nil ?_
                    clear q0 q1 q2 q3 k4 k5
                    go_wp2_with (go_at_call 24; refine (tells_p tt xx H9).mono ?_; clear H9; rintro _ w10 ⟨rfl, H10⟩)
                    go_roundg (gk - 1)
                    case measure => omega
                    case rel => exact ⟨k2 + 1, by simp, by omega, by omega, H10⟩
                  · by_cases i1 : (k2 : Int) < Ws'.length
                    · have i2 : ¬ (k2 : Int) < 8 := fun h2 => hin ⟨by omega, by omega⟩
                      go_wp2_with fail
                      go_roundg (gO - 1)
                      case measure => have := HJ.out; omega
                      case rel => exact ⟨j + 1, b', _, _, m', R', Ws', by simp, rfl, by have := HJ.out; omega, HZ⟩
                    · go_wp2_with fail
                      go_roundg (gO - 1)
                      case measure => have := HJ.out; omega
                      case rel => exact ⟨j + 1, b', _, _, m', R', Ws', by simp, rfl, by have := HJ.out; omega, HZ⟩
      · have hf1 : ¬ (j : Int) < 60 := fun h => hf (Or.inl h)
        have hf2 : ((j : Int) == z) = false := by simpa using (fun h => hf (Or.inr h))
        have HLT := Lib.hid hlt
        clear hf hlen hlt hlt2 hgO
        go_wp2_with fail
        go_roundg (gk - 1)
        case measure => have := HJ.out; have := HLT.out; omega
        case rel => exact ⟨j + 1, b', _, _, m', R', Ws', by simp, rfl, by have := HJ.out; have := HLT.out; omega, H5⟩
    · obtain rfl : j = l.length := by omega
      go_wp2_with fail
      go_ret
      exact ⟨rfl, HY.out.bo.bel⟩
end Go.Proofs.Ytohkobfamofkgaa
