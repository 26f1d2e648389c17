/- A breaker under any calls: the walk of RetryBreaker. -/
import Derived.Test.YtklccnnmdlckfaaRm
import Derived.Test.YtklccnnmdlckfaaO
import Derived.Lib.SmallJoins
namespace Go.Proofs.Ytklccnnmdlckfaa
open Go.RowKit Go.Maps Go.Deep Go.WideShapes Go.ChangeShapes Go.Proofs.Ytklccnnmdlckfaa Go.Proofs.Ytklccnnmdlckfaa.Br Go.Proofs.Ytklccnnmdlckfaa.PRetryBreaker Go.Proofs.YtklccnnmdlckfaaW.PrintWords Go.Proofs.YtklccnnmdlckfaaW.PrintLast Go.Proofs.YtklccnnmdlckfaaW.PrintMore

/-- A call: kind, try, time, whether it is fine. -/
abbrev Cl := Int × Int × Int × Bool
def kcl : Kd Cl := Kd.pair (Kd.int .i64) (Kd.pair (Kd.int .i64) (Kd.pair (Kd.int .i64) Kd.bool))
theorem kcl_open {w : World} {x : Cl} {cs : List Value} (h : kcl.K w x cs) : cs = [.int .i64 x.1, .int .i64 x.2.1, .int .i64 x.2.2.1, .bool x.2.2.2] := by
  obtain ⟨_, _, rfl, rfl, _, _, rfl, rfl, _, _, rfl, rfl, rfl⟩ := h
  exact rfl
theorem kcl_mk (w : World) (a b c : Int) (d : Bool) : kcl.K w (a, b, c, d) [.int .i64 a, .int .i64 b, .int .i64 c, .bool d] := ⟨_, _, rfl, rfl, _, _, rfl, rfl, _, _, rfl, rfl, rfl⟩
section
variable {H : Type} {enc : TypeId × Value → H} {w : World} {base b0 : Nat} {spare : Nat → Bool} {held : Bool} {r : Reach} {v : Value} {d0 : DataW H} {p : List MemPlace}
theorem cells3 : Try.prog.cellsOf 3 = 1 := by kernel_rfl
theorem cells4 : Try.prog.cellsOf 4 = 1 := by kernel_rfl
theorem dec_cl : ∀ n cs y, DataW.trod enc Try.prog w base spare held n 70 cs = some y → cs.length = kcl.sz → ∃ x, kcl.K w x cs ∧ (Lit.int .i64 x.2.1).wf = true := by
  intro n cs y h hl
  obtain ⟨y0, y1, y2, y3, n', _, _, h0, h1, h2, h3⟩ := Go.Joins.trod_struct4 Try.underlying70 h
  match cs, hl with
  | [a, b, c, d], _ =>
    simp only [cells3, cells4] at h0 h1 h2 h3
    obtain ⟨x0, e0, _, _⟩ := DataW.trod_int Try.underlying3 h0
    obtain ⟨x1, e1, _, w1⟩ := DataW.trod_int Try.underlying3 h1
    obtain ⟨x2, e2, _, _⟩ := DataW.trod_int Try.underlying3 h2
    obtain ⟨x3, e3, _⟩ := DataW.trod_bool Try.underlying4 h3
    simp at e0 e1 e2 e3
    subst e0; subst e1; subst e2; subst e3
    exact ⟨(x0, x1, x2, x3), kcl_mk w x0 x1 x2 x3, w1⟩
theorem open_cls (hv : Value.okWide Try.prog w r b0 60 v) (h : DataW.Trod enc Try.prog w base spare held 60 v d0 p) :
    ∃ (A : Option Addr) (l : List Cl) (c : Nat), v = .slice A l.length c ∧ l.length ≤ c ∧ (Kd.C kcl w A l.length l ∧ ∀ x ∈ l, (Lit.int .i64 x.2.1).wf = true) := by
  obtain ⟨A, l, c, h1, h2, h3, h4⟩ := open_row kcl (fun x => (Lit.int .i64 x.2.1).wf = true) Try.underlying60 (by kernel_rfl) dec_cl hv h
  exact ⟨A, l, c, h1, h2, h3, h4⟩
end
theorem cl_at {w : World} {A : Option Addr} {l : List Cl} (h : Kd.C kcl w A l.length l) (j : Nat) (hj : j < l.length) : ∃ ad, A = some ad ∧ w.cell? (ad.add (j * 4)) = some (.int .i64 l[j].1) ∧ w.cell? ⟨(ad.add (j * 4)).block, (ad.add (j * 4)).off + 1, none⟩ = some (.int .i64 l[j].2.1) ∧
    w.cell? ⟨(ad.add (j * 4)).block, (ad.add (j * 4)).off + 2, none⟩ = some (.int .i64 l[j].2.2.1) ∧ w.cell? ⟨(ad.add (j * 4)).block, (ad.add (j * 4)).off + 3, none⟩ = some (.bool l[j].2.2.2) := by
  obtain ⟨ad, e, hx⟩ := h.2.2 (by omega)
  obtain ⟨cs, _, hk, hc⟩ := hx j l[j] (List.getElem?_eq_getElem hj)
  have e3 := kcl_open hk
  subst e3
  have h1 := hc 1 _ rfl
  have h2 := hc 2 _ rfl
  have h3 := hc 3 _ rfl
  rw [add_field _ _ _ (by omega)] at h1 h2 h3
  exact ⟨ad, e, hc 0 _ rfl, h1, h2, h3⟩

/-- The document's breaker in a block. -/
def nine (s : Brk) (v : Value) : Array Value := #[.int .i64 s.limit, .int .i64 s.rest, .int .i64 s.state, .int .i64 s.epoch, .int .i64 s.fails, .int .i64 s.untl, .int .i64 s.last, .int .i64 s.tries, v]
def N9 (w : World) (g : Nat) (s : Brk) (v : Value) : Prop := w.heap[g]? = some (.cells (nine s v) 66 (0, 0))
theorem N9.facts {w : World} {g : Nat} {s : Brk} {v : Value} (h : N9 w g s v) :
    w.cell? ⟨g, 0, none⟩ = some (.int .i64 s.limit) ∧ w.cell? ⟨g, 1, none⟩ = some (.int .i64 s.rest) ∧ w.cell? ⟨g, 2, none⟩ = some (.int .i64 s.state) ∧ w.cell? ⟨g, 3, none⟩ = some (.int .i64 s.epoch) ∧ w.cell? ⟨g, 4, none⟩ = some (.int .i64 s.fails) ∧
    w.cell? ⟨g, 5, none⟩ = some (.int .i64 s.untl) ∧ w.cell? ⟨g, 6, none⟩ = some (.int .i64 s.last) ∧ w.cell? ⟨g, 7, none⟩ = some (.int .i64 s.tries) ∧ w.cell? ⟨g, 8, none⟩ = some v ∧ ∀ k, w.frozen? ⟨g, k, none⟩ = false :=
  ⟨(blk_cell h 0).trans rfl, (blk_cell h 1).trans rfl, (blk_cell h 2).trans rfl, (blk_cell h 3).trans rfl, (blk_cell h 4).trans rfl, (blk_cell h 5).trans rfl, (blk_cell h 6).trans rfl, (blk_cell h 7).trans rfl, (blk_cell h 8).trans rfl, fun k => blk_frozen h k⟩
def put9 (w : World) (g : Nat) (s : Brk) (v : Value) : World :=
  ((((((((w.setCell ⟨g, 0, none⟩ (.int .i64 s.limit)).setCell ⟨g, 1, none⟩ (.int .i64 s.rest)).setCell ⟨g, 2, none⟩ (.int .i64 s.state)).setCell ⟨g, 3, none⟩ (.int .i64 s.epoch)).setCell ⟨g, 4, none⟩ (.int .i64 s.fails)).setCell ⟨g, 5, none⟩ (.int .i64 s.untl)).setCell ⟨g, 6, none⟩ (.int .i64 s.last)).setCell ⟨g, 7, none⟩ (.int .i64 s.tries)).setCell ⟨g, 8, none⟩ v
theorem N9.put {w : World} {g : Nat} {s : Brk} {v : Value} (h : N9 w g s v) (s' : Brk) (v' : Value) : N9 (put9 w g s' v') g s' v' := by
  have h8 := blk_set (blk_set (blk_set (blk_set (blk_set (blk_set (blk_set (blk_set (blk_set h 0 (.int .i64 s'.limit)) 1 (.int .i64 s'.rest)) 2 (.int .i64 s'.state)) 3 (.int .i64 s'.epoch)) 4 (.int .i64 s'.fails)) 5 (.int .i64 s'.untl)) 6 (.int .i64 s'.last)) 7 (.int .i64 s'.tries)) 8 v'
  refine Eq.trans h8 ?_
  simp [nine]
theorem put9_chg {X : Nat → Prop} {w : World} {g : Nat} (hx : X g) (s : Brk) (v : Value) : Chg X w (put9 w g s v) :=
  (((((((((Chg.refl X w).setCell (p := ⟨g, 0, none⟩) hx _).setCell (p := ⟨g, 1, none⟩) hx _).setCell (p := ⟨g, 2, none⟩) hx _).setCell (p := ⟨g, 3, none⟩) hx _).setCell (p := ⟨g, 4, none⟩) hx _).setCell (p := ⟨g, 5, none⟩) hx _).setCell (p := ⟨g, 6, none⟩) hx _).setCell (p := ⟨g, 7, none⟩) hx _).setCell (p := ⟨g, 8, none⟩) hx _
/-- What stands between the calls. -/
structure Bk (w wr : World) (g b m n : Nat) (s : Brk) (D : DataW Unit) (L : List S93) (v : Value) (N : Nat) : Prop where
  fb : Fb w wr b m n s D L v (fun k => k = g)
  bre : Bre s D n L N
  box : N9 wr g s v
theorem needs : Needs where
  wait w := (retry_Wait.calls 10 5 10 3 50 2 30 0 w (by decide +kernel)).mono fun _ _ h => h
  times w := (retry_Times.calls 20 5 10 3 50 0 [0, 10, 40, 90, 140] 0 w (by decide +kernel)).mono fun _ _ ⟨v, h1, h2, h3⟩ => ⟨v, h1, IntsAt.of_R h2, h3⟩
  ints w v u hv hu := by
    obtain ⟨A, c, rfl, hc, h1⟩ := hv
    obtain ⟨A', c', rfl, hc', h2⟩ := hu
    exact (onceweblaw12_ints.calls 20 A c _ A' c' _ true w h1 hc h2 hc' (by decide +kernel)).mono fun _ _ ⟨h, h'⟩ => ⟨h, h'.out⟩
theorem among_any (w : World) (a : Int) : Calls Try.prog 33 #[.int .i64 a, .int .i64 2] w fun e w' => (e = .returned (.int .i64 0) ∨ ∃ k : Int, e = .returned (.int .i64 k) ∧ k ≠ 0) ∧ Below w.heap.size w w' := by
  refine (onceweblaw12_among.calls a 2 (Int.tmod (wrap64 (Int.tmod a 2 + 2)) 2) w (by unfold onceweblaw12_among.f; rw [if_neg (by decide)])).mono ?_
  rintro _ w' ⟨rfl, ⟨n, rfl⟩⟩
  refine ⟨?_, below_drewN _ _⟩
  by_cases h : Int.tmod (wrap64 (Int.tmod a 2 + 2)) 2 = 0
  · exact Or.inl (by rw [h])
  · exact Or.inr ⟨_, rfl, h⟩
theorem ref_new (w : World) (l r : Int) (h1 : 1 ≤ l ∧ l ≤ 1000) (h2 : 1 ≤ r ∧ r ≤ 1099511627776) : Calls Try.prog 32 #[.int .i64 l, .int .i64 r] w fun e w' => ∃ v, e = .returned (.tuple #[.agg #[.int .i64 l, .int .i64 r, .int .i64 1, .int .i64 0, .int .i64 0, .int .i64 0, .int .i64 0, .int .i64 0, v], .int .i64 0]) ∧ Kd.R k93 93 w' w.heap.size (fun _ => True) v [] ∧ Below w.heap.size w w' :=
  oncewebref12_NewBreaker.calls l r l r 1 0 0 0 0 0 [] 0 w (by unfold oncewebref12_NewBreaker.f; rw [if_neg (by omega), if_neg (by omega), if_neg (by omega), if_neg (by omega)])
theorem ref_bad (w : World) (l r : Int) (h : ¬ ((1 ≤ l ∧ l ≤ 1000) ∧ (1 ≤ r ∧ r ≤ 1099511627776))) : Calls Try.prog 32 #[.int .i64 l, .int .i64 r] w fun e w' => ∃ A c, e = .returned (.tuple #[.agg #[.int .i64 0, .int .i64 0, .int .i64 0, .int .i64 0, .int .i64 0, .int .i64 0, .int .i64 0, .int .i64 0, .slice A 0 c], .int .i64 1]) ∧ Below w.heap.size w w' := by
  refine (oncewebref12_NewBreaker.calls l r 0 0 0 0 0 0 0 0 [] 1 w ?_).mono (fun _ _ ⟨v, a, hr, k⟩ => by obtain ⟨A, c, rfl⟩ := Kd.R_slice hr; exact ⟨A, c, a, k⟩)
  unfold oncewebref12_NewBreaker.f
  by_cases a1 : l < 1
  · rw [if_pos a1]
  · rw [if_neg a1]
    by_cases a2 : l > 1000
    · rw [if_pos a2]
    · rw [if_neg a2]
      by_cases a3 : r < 1
      · rw [if_pos a3]
      · rw [if_neg a3, if_pos (by omega)]
/-- Both made; the document's in block g. -/
theorem Bk.new {w w1 w2 w3 : World} {b m : Nat} {lim rst : Int} {v : Value} (h1 : Below w.heap.size w w1) (k1 : At w2 b m (fresh lim rst)) (k2 : Mp w2 m 0 (.map [])) (k3 : Below w1.heap.size w1 w2) (k4 : w1.heap.size ≤ b) (k5 : w1.heap.size ≤ m)
    (r1 : Kd.R k93 93 w3 w2.heap.size (fun _ => True) v []) (r2 : Below w2.heap.size w2 w3) (hl : 1 ≤ lim ∧ lim ≤ 1000) (hr : 1 ≤ rst ∧ rst ≤ 1099511627776) :
    Bk w (w3.alloc (.cells (nine (fresh lim rst) v) 66)) w3.heap.size b m 0 (fresh lim rst) (.map []) [] v 0 := by
  have hs1 := h1.size
  have hs2 := k3.size
  have hf : Full w w2 b m 0 (fresh lim rst) (.map []) := ⟨k1, k2, h1.trans ⟨k3.os, k3.tape, k3.output, k3.size, fun i hi => k3.block i (Nat.lt_of_lt_of_le hi hs1)⟩, Nat.le_trans hs1 k4, Nat.le_trans hs1 k5⟩
  have hb := blk_lt k1
  have hm := k2.lt
  have hfb : Fb w w3 b m 0 (fresh lim rst) (.map []) [] v (fun _ => False) := ⟨hf.of_below r2, Kd.R_mono (Kd.R_lower (Kd.R_bound r1) (by omega)) (fun i hi => ⟨by have := hi.2.1; omega, by have := hi.2.1; omega, fun h => h⟩), fun i hi => hi.elim⟩
  have hb2 : Below w3.heap.size w3 (w3.alloc (.cells (nine (fresh lim rst) v) 66)) := (Below.refl _ _).alloc (Nat.le_refl _) _
  exact ⟨(hfb.box (Y := fun k => k = w3.heap.size) hb2 (fun i hi => by simp only [World.size_alloc]; omega)).1.less (fun k hk => Or.inr hk), Bre.fresh lim rst hl hr, blk_new w3 _⟩
/-- A call laid in a block of its own. -/
theorem Bk.lay {w wr : World} {g b m n N : Nat} {s : Brk} {D : DataW Unit} {L : List S93} {v : Value} (h : Bk w wr g b m n s D L v N) (o : Obj) : Fb w (wr.alloc o) b m n s D L v (fun k => k = g ∨ k = wr.heap.size) ∧ N9 (wr.alloc o) g s v ∧ g < wr.heap.size := by
  have hb : Below wr.heap.size wr (wr.alloc o) := (Below.refl _ _).alloc (Nat.le_refl _) _
  obtain ⟨j1, j2⟩ := h.fb.box (Y := fun k => k = wr.heap.size) hb (fun k hk => by simp only [World.size_alloc]; omega)
  exact ⟨j1, (j2 g rfl).trans h.box, (h.fb.hX g rfl).2.1⟩
def Q4 (w : World) (q : Nat) (x : Cl) : Prop := w.heap[q]? = some (.cells #[.int .i64 x.1, .int .i64 x.2.1, .int .i64 x.2.2.1, .bool x.2.2.2] 70 (0, 0))
theorem Q4.facts {w : World} {q : Nat} {a b c : Int} {d : Bool} (h : Q4 w q (a, b, c, d)) : w.cell? ⟨q, 0, none⟩ = some (.int .i64 a) ∧ w.cell? ⟨q, 1, none⟩ = some (.int .i64 b) ∧ w.cell? ⟨q, 2, none⟩ = some (.int .i64 c) ∧ w.cell? ⟨q, 3, none⟩ = some (.bool d) :=
  ⟨blk_cell h 0, blk_cell h 1, blk_cell h 2, blk_cell h 3⟩
/-- In a round: both, the document's block, the call's block. -/
structure Rd (w wr : World) (g q b m n : Nat) (s s1 : Brk) (D : DataW Unit) (L : List S93) (v : Value) (x : Cl) : Prop where
  fb : Fb w wr b m n s1 D L v (fun k => k = g ∨ k = q)
  box : N9 wr g s v
  call : Q4 wr q x
section
variable {w wr w' : World} {g q b m n n' : Nat} {s s1 s2 : Brk} {D D' : DataW Unit} {L L' : List S93} {v v' : Value} {x : Cl}
theorem Rd.step (h : Rd w wr g q b m n s s1 D L v x) (k : Fb w w' b m n' s2 D' L' v' (fun k => k = g ∨ k = q)) (hs : Same (fun k => k = g ∨ k = q) wr w') : N9 w' g s v ∧ Q4 w' q x ∧ Fb w w' b m n' s2 D' L' v' (fun k => k = g ∨ k = q) :=
  ⟨(hs g (Or.inl rfl)).trans h.box, (hs q (Or.inr rfl)).trans h.call, k⟩
theorem Rd.to (h : Rd w wr g q b m n s s1 D L v x) (k : Below wr.heap.size wr w') : Rd w w' g q b m n s s1 D L v x := by
  obtain ⟨j1, j2⟩ := h.fb.to k
  obtain ⟨a1, a2, a3⟩ := h.step j1 j2
  exact ⟨a3, a1, a2⟩
/-- The document's breaker laid and stored. -/
theorem Rd.close (h1 : N9 wr g s v) (h3 : Fb w wr b m n s1 D L' v' (fun k => k = g ∨ k = q)) (o : Obj) (hg : g < wr.heap.size) {N : Nat} (hB : Bre s1 D n L' N) : Bk w (put9 (wr.alloc o) g s1 v') g b m n s1 D L' v' N := by
  have hb : Below wr.heap.size wr (wr.alloc o) := (Below.refl _ _).alloc (Nat.le_refl _) _
  obtain ⟨j1, j2⟩ := h3.to hb
  exact ⟨(j1.chg (put9_chg (Or.inl rfl) s1 v')).less (fun k hk => Or.inl hk), hB, N9.put ((j2 g (Or.inl rfl)).trans h1) s1 v'⟩
end
set_option maxHeartbeats 8000000 in
set_option maxRecDepth 100000 in
theorem walk_breaker (lim rst : Int) (A : Option Addr) (l : List Cl) (c : Nat) (w : World) (hl : l.length ≤ c) (hC : Kd.C kcl w A l.length l ∧ ∀ x ∈ l, (Lit.int .i64 x.2.1).wf = true) (hb : l.length * 32 ≤ 140737488351232) :
    Calls Try.prog 8 #[.int .i64 lim, .int .i64 rst, .slice A l.length c] w fun e w' => e = .returned (.bool true) ∧ Below w.heap.size w w' := by
  have HC := Lib.hid hC
  have HLn := Lib.hid (show l.length ≤ 1000000000000000 by omega)
  have hlen : (l.length : Int) < 4611686018427387904 := by omega
  clear hC hl hb
  by_cases hgood : (1 ≤ lim ∧ lim ≤ 1000) ∧ (1 ≤ rst ∧ rst ≤ 1099511627776)
  · have HG := Lib.hid hgood
    clear hgood
    go_enter Try.func8, Try.ntmps8
    go_wp2_with (go_at_call 15; refine (works_any needs w).mono ?_; rintro _ w1 ⟨rfl, hb1⟩; have HB1 := Lib.hid hb1; clear hb1)
    refine (new_good w1 lim rst HG.out.1 HG.out.2).mono ?_
    rintro _ w2 ⟨b, m, rfl, k1, k2, k3, k4, k5⟩
    have HN := Lib.hid (And.intro k1 (And.intro k2 (And.intro k3 (And.intro k4 k5))))
    clear k1 k2 k3 k4 k5
    go_wp2_with fail
    refine (ref_new w2 lim rst HG.out.1 HG.out.2).mono ?_
    rintro _ w3 ⟨v, rfl, r1, r2⟩
    have HK := Lib.hid (Bk.new HB1.out HN.out.1 HN.out.2.1 HN.out.2.2.1 HN.out.2.2.2.1 HN.out.2.2.2.2 r1 r2 HG.out.1 HG.out.2)
    obtain ⟨A8, c8, e8⟩ := Kd.R_slice r1
    subst e8
    clear r1 r2 HN
    go_wp2_with fail
    go_loopg [54] l.length (fun gk i wr => ∃ (j n : Nat) (s : Brk) (D : DataW Unit) (L : List S93) (v : Value), i = .int .i64 j ∧ j + gk = l.length ∧ Hid (Bk w wr w3.heap.size b m n s D L v j))
    case atStart => exact ⟨0, 0, fresh lim rst, .map [], [], .slice A8 0 c8, rfl, by simp, HK⟩
    case round =>
      clear HK
      obtain ⟨j, n, s, D, L, v, rfl, hj, HY⟩ := hrel
      by_cases hlt : j < l.length
      · have hlt2 : (j : Int) < l.length := by omega
        have hw : IntKind.i64.wrap ((j : Int) + 1) = ((j + 1 : Nat) : Int) := by rw [IntWalk.i64_in _ (by omega)]; omega
        obtain ⟨ad, rfl, n0, n1, n2, n3⟩ := cl_at (Kd.C_below HC.out.1 HY.out.fb.full.below) j hlt
        have HW := Lib.hid (HC.out.2 l[j] (List.getElem_mem hlt))
        generalize hx : l[j] = x at *
        obtain ⟨x0, x1, x2, x3⟩ := x
        simp only at n0 n1 n2 n3 HW
        have HJ := Lib.hid (And.intro hj hlt)
        clear hx hj hlt
        have HW2 := Lib.hid hw
        obtain ⟨A8, c8, e8⟩ := Kd.R_slice HY.out.fb.ref
        subst e8
        have HLy := Lib.hid (HY.out.lay (.cells #[.int .i64 x0, .int .i64 x1, .int .i64 x2, .bool x3] 70))
        have HR := Lib.hid (show Rd w (wr.alloc (.cells #[.int .i64 x0, .int .i64 x1, .int .i64 x2, .bool x3] 70)) w3.heap.size wr.heap.size b m n s s D L (.slice A8 L.length c8) (x0, x1, x2, x3) from ⟨HLy.out.1, HLy.out.2.1, blk_new wr _⟩)
        have HB := Lib.hid HY.out.bre
        clear HLy
        go_wp2_with fail
        refine (among_any _ x0).mono ?_
        clear HY n0 n1 n2 n3
        generalize wr.heap.size = q at *
        generalize w3.heap.size = g at *
        rintro e5 w5 ⟨he, hb5⟩
        have HR5 := Lib.hid (HR.out.to hb5)
        clear HR hb5
        obtain ⟨m0, m1, m2, m3⟩ := HR5.out.call.facts
        rcases he with rfl | ⟨kk, rfl, hk⟩
        · go_wp2_with fail
          obtain ⟨s', D', n', L', r1, r2, r3, hB', hE, hC⟩ := ask_c x2 (by have := HLn.out; have := HJ.out; omega) HB (Lib.hid HR5.out.fb)
          refine hC.mono ?_
          clear m0 m1 m2 m3
          rintro _ w6 ⟨rfl, hF6, hS6⟩
          have HT := Lib.hid (HR5.out.step hF6.out hS6.out)
          obtain ⟨f0, f1, f2, f3, f4, f5, f6, f7, f8, ff⟩ := HT.out.1.facts
          obtain ⟨m0, m1, m2, m3⟩ := HT.out.2.1.facts
          go_wp2_with fail
          refine (ask_r x2 hE hF6).mono ?_
          clear f0 f1 f2 f3 f4 f5 f6 f7 f8 ff m0 m1 m2 m3 hF6 hS6
          rintro _ w7 ⟨v', rfl, hF7, hS7⟩
          obtain ⟨A9, c9, rfl⟩ := Kd.R_slice hF7.out.ref
          have HBk := Lib.hid (show Bk w (put9 (w7.alloc (.cells #[.int .i64 s'.limit, .int .i64 s'.rest, .int .i64 s'.state, .int .i64 s'.epoch, .int .i64 s'.fails, .int .i64 s'.untl, .int .i64 s'.last, .int .i64 s'.tries, .slice A9 L'.length c9] 66)) g s' (.slice A9 L'.length c9)) g b m n' s' D' L' (.slice A9 L'.length c9) (j + 1) ∧ N9 (w7.alloc (.cells #[.int .i64 s'.limit, .int .i64 s'.rest, .int .i64 s'.state, .int .i64 s'.epoch, .int .i64 s'.fails, .int .i64 s'.untl, .int .i64 s'.last, .int .i64 s'.tries, .slice A9 L'.length c9] 66)) g s (.slice A8 L.length c8) ∧ N9 (w7.alloc (.cells #[.int .i64 s'.limit, .int .i64 s'.rest, .int .i64 s'.state, .int .i64 s'.epoch, .int .i64 s'.fails, .int .i64 s'.untl, .int .i64 s'.last, .int .i64 s'.tries, .slice A9 L'.length c9] 66)) w7.heap.size s' (.slice A9 L'.length c9) from
            ⟨Rd.close (N := j + 1) ((hS7.out g (Or.inl rfl)).trans HT.out.1) hF7.out (.cells (nine s' (.slice A9 L'.length c9)) 66) (hF7.out.hX g (Or.inl rfl)).2.1 hB'.out, blk_alloc ((hS7.out g (Or.inl rfl)).trans HT.out.1) _, blk_new w7 _⟩)
          clear HT hF7 hS7 hE hC HR5 hlen hlt2
          go_upto_region 15 with fail
          generalize (w7.alloc (.cells #[.int .i64 s'.limit, .int .i64 s'.rest, .int .i64 s'.state, .int .i64 s'.epoch, .int .i64 s'.fails, .int .i64 s'.untl, .int .i64 s'.last, .int .i64 s'.tries, .slice A9 L'.length c9] 66)) = w9 at *
          generalize w7.heap.size = p at *
          obtain ⟨f0, f1, f2, f3, f4, f5, f6, f7, f8, ff⟩ := HBk.out.2.1.facts
          obtain ⟨h0, h1, h2, h3, h4, h5, h6, h7, h8, hh⟩ := HBk.out.2.2.facts
          go_wp2_with fail
          refine (state_c (Lib.hid HBk.out.1.fb)).mono ?_
          clear f0 f1 f2 f3 f4 f5 f6 f7 f8 ff h0 h1 h2 h3 h4 h5 h6 h7 h8 hh
          rintro _ w8 ⟨rfl, hF8, hS8⟩
          have HN8 := Lib.hid (show N9 w8 g s' (.slice A9 L'.length c9) from (hS8.out g rfl).trans HBk.out.1.box)
          obtain ⟨f0, f1, f2, f3, f4, f5, f6, f7, f8, ff⟩ := HN8.out.facts
          clear HBk hS8
          go_wp2_with fail
          go_roundg (gk - 1)
          case measure => have := HJ.out; omega
          case rel => exact ⟨j + 1, n', s', D', L', _, rfl, by have := HJ.out; omega, Lib.hid ⟨hF8.out, hB'.out, HN8.out⟩⟩
        · have hkb : (kk == 0) = false := by simpa using hk
          go_wp2_with fail
          obtain ⟨s', D', L', r, hB', hE, hC⟩ := tell_c x1 x3 x2 HW.out (by have := HLn.out; have := HJ.out; omega) HB (Lib.hid HR5.out.fb)
          refine hC.mono ?_
          clear m0 m1 m2 m3
          rintro _ w6 ⟨rfl, hF6, hS6⟩
          have HT := Lib.hid (HR5.out.step hF6.out hS6.out)
          obtain ⟨f0, f1, f2, f3, f4, f5, f6, f7, f8, ff⟩ := HT.out.1.facts
          obtain ⟨m0, m1, m2, m3⟩ := HT.out.2.1.facts
          go_wp2_with fail
          refine (tell_r x1 x3 x2 hE hF6).mono ?_
          clear f0 f1 f2 f3 f4 f5 f6 f7 f8 ff m0 m1 m2 m3 hF6 hS6
          rintro _ w7 ⟨v', rfl, hF7, hS7⟩
          obtain ⟨A9, c9, rfl⟩ := Kd.R_slice hF7.out.ref
          have HBk := Lib.hid (show Bk w (put9 (w7.alloc (.cells #[.int .i64 s'.limit, .int .i64 s'.rest, .int .i64 s'.state, .int .i64 s'.epoch, .int .i64 s'.fails, .int .i64 s'.untl, .int .i64 s'.last, .int .i64 s'.tries, .slice A9 L'.length c9] 66)) g s' (.slice A9 L'.length c9)) g b m n s' D' L' (.slice A9 L'.length c9) (j + 1) ∧ N9 (w7.alloc (.cells #[.int .i64 s'.limit, .int .i64 s'.rest, .int .i64 s'.state, .int .i64 s'.epoch, .int .i64 s'.fails, .int .i64 s'.untl, .int .i64 s'.last, .int .i64 s'.tries, .slice A9 L'.length c9] 66)) g s (.slice A8 L.length c8) ∧ N9 (w7.alloc (.cells #[.int .i64 s'.limit, .int .i64 s'.rest, .int .i64 s'.state, .int .i64 s'.epoch, .int .i64 s'.fails, .int .i64 s'.untl, .int .i64 s'.last, .int .i64 s'.tries, .slice A9 L'.length c9] 66)) w7.heap.size s' (.slice A9 L'.length c9) from
            ⟨Rd.close (N := j + 1) ((hS7.out g (Or.inl rfl)).trans HT.out.1) hF7.out (.cells (nine s' (.slice A9 L'.length c9)) 66) (hF7.out.hX g (Or.inl rfl)).2.1 hB'.out, blk_alloc ((hS7.out g (Or.inl rfl)).trans HT.out.1) _, blk_new w7 _⟩)
          clear HT hF7 hS7 hE hC HR5 hlen hlt2
          go_upto_region 20 with fail
          generalize (w7.alloc (.cells #[.int .i64 s'.limit, .int .i64 s'.rest, .int .i64 s'.state, .int .i64 s'.epoch, .int .i64 s'.fails, .int .i64 s'.untl, .int .i64 s'.last, .int .i64 s'.tries, .slice A9 L'.length c9] 66)) = w9 at *
          generalize w7.heap.size = p at *
          obtain ⟨f0, f1, f2, f3, f4, f5, f6, f7, f8, ff⟩ := HBk.out.2.1.facts
          obtain ⟨h0, h1, h2, h3, h4, h5, h6, h7, h8, hh⟩ := HBk.out.2.2.facts
          go_wp2_with fail
          refine (state_c (Lib.hid HBk.out.1.fb)).mono ?_
          clear f0 f1 f2 f3 f4 f5 f6 f7 f8 ff h0 h1 h2 h3 h4 h5 h6 h7 h8 hh
          rintro _ w8 ⟨rfl, hF8, hS8⟩
          have HN8 := Lib.hid (show N9 w8 g s' (.slice A9 L'.length c9) from (hS8.out g rfl).trans HBk.out.1.box)
          obtain ⟨f0, f1, f2, f3, f4, f5, f6, f7, f8, ff⟩ := HN8.out.facts
          clear HBk hS8
          go_wp2_with fail
          go_roundg (gk - 1)
          case measure => have := HJ.out; omega
          case rel => exact ⟨j + 1, n, s', D', L', _, rfl, by have := HJ.out; omega, Lib.hid ⟨hF8.out, hB'.out, HN8.out⟩⟩
      · obtain rfl : j = l.length := by omega
        go_wp2_with fail
        go_ret
        exact ⟨rfl, HY.out.fb.full.below⟩
  · have HG := Lib.hid hgood
    clear hgood
    go_enter Try.func8, Try.ntmps8
    go_wp2_with (go_at_call 15; refine (works_any needs w).mono ?_; rintro _ w1 ⟨rfl, hb1⟩; have HB1 := Lib.hid hb1; clear hb1)
    refine (new_bad w1 lim rst HG.out).mono ?_
    rintro _ w2 ⟨rfl, nd, rfl⟩
    go_wp2_with fail
    refine (ref_bad _ lim rst HG.out).mono ?_
    rintro _ w3 ⟨A9, c9, rfl, hb3⟩
    have HB3 := Lib.hid (show Below w.heap.size w (w3.alloc (.cells #[.int .i64 0, .int .i64 0, .int .i64 0, .int .i64 0, .int .i64 0, .int .i64 0, .int .i64 0, .int .i64 0, .slice A9 0 c9] 66)) from by
      have h1 := HB1.out
      have h2 : Below w.heap.size w w3 := h1.trans ⟨hb3.os, hb3.tape, hb3.output, hb3.size, fun i hi => hb3.block i (Nat.lt_of_lt_of_le hi h1.size)⟩
      exact h2.alloc h2.size _)
    clear hb3
    go_wp2_with fail
    go_ret
    exact ⟨rfl, HB3.out⟩
end Go.Proofs.Ytklccnnmdlckfaa
