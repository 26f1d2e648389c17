/- A tree of tokens in memory. The library's functions over rows of pointers, at this program's numbers: Index, Contains, Clone. What the tree's small methods answer: first. A token is cancelled: turn. A token is cancelled: turn, walked. A token and all that hang on it are cancelled: cancel, walked. The names of some tokens: named; Names, Order. A name's token; Now, Names, Order, Done. Fail, Cancel. Cancel, Until. -/
import Derived.Test.YtdnkedifjaccoaaDoorPa
import Derived.Test.YtdnkedifjaccoaaDoorK
import Derived.Maps.OwnOps
import Derived.Shelf.SlicesE.Clone
import Derived.LaidEqlPtr
import Derived.KernelRfl
import Derived.Maps.AppendAt
import Derived.Test.YtdnkedifjaccoaaDoorQ3
import Derived.StringKeys
namespace Go.Proofs.YtdnkedifjaccoaaDoor.Ce
open Go.RowKit Go.Maps Go.Proofs.YtdnkedifjaccoaaDoor Go.Proofs.YtdnkedifjaccoaaDoorW.PrintWords Go.Proofs.YtdnkedifjaccoaaDoorW.PrintLast Go.Proofs.YtdnkedifjaccoaaDoorW.PrintMore PToken
set_option linter.unusedVariables false
set_option linter.unusedSimpArgs false
def pt (b : Nat) : Value := .pointer (some ⟨b, 0, none⟩)
/-- How a pointer reads: the number of its block, 0 where there is none. -/
def ptrElem : Value → Option (DataW Unit × List MemPlace)
  | .pointer none => some (.lit (.int .i64 0), [])
  | .pointer (some ⟨b, 0, none⟩) => if b = 0 then none else some (.lit (.int .i64 b), [])
  | _ => none
theorem ptrElem_nil : ptrElem (.pointer none) = some (.lit (.int .i64 0), []) := rfl
theorem ptrElem_pt {b : Nat} (h : 0 < b) : ptrElem (pt b) = some (.lit (.int .i64 b), []) := by
  show (if b = 0 then none else some (DataW.lit (.int .i64 b), [])) = _
  rw [if_neg (by omega)]
theorem ptrElem_inv {v : Value} {k : Int} {ps : List MemPlace} (h : ptrElem v = some (.lit (.int .i64 k), ps)) : (v = .pointer none ∧ k = 0) ∨ ∃ b : Nat, v = pt b ∧ k = b ∧ 0 < b := by
  unfold ptrElem at h
  split at h
  · simp at h
    exact Or.inl ⟨rfl, h.1.symm⟩
  · split at h
    · cases h
    · rename_i b hb
      simp at h
      exact Or.inr ⟨b, rfl, h.1.symm, by omega⟩
  · cases h
/-- Where a tree's parts lie. -/
structure Sh where
  c : Nat
  m : Nat
  va : Value
  vo : Value
  g : List Nat
  pv : Nat → Value
  wv : Nat → Value
def Sh.gg (s : Sh) (i : Nat) : Nat := s.g.getD i 0
def tokC (x : Tok) (p y : Value) : Array Value := #[.string x.name, p, .int .i64 x.dl, .bool x.done, y]
def Sh.treeC (s : Sh) : Array Value := #[pt s.c, s.va, .map (some s.m), s.vo]
/-- The block of a name's token, 0 where there is none. -/
def Tree.nameN (T : Tree) (s : Sh) (nm : ByteArray) : Nat := match T.find nm with
  | some i => s.gg i
  | none => 0
structure Tm (X : Nat → Prop) (w : World) (b : Nat) (T : Tree) (s : Sh) : Prop where
  tree : w.heap[b]? = some (.cells s.treeC 61 (0, 0))
  clock : w.heap[s.c]? = some (.cells #[.int .i64 T.now, .int .i64 0, .slice none 0 0] 87 (0, 0))
  len : s.g.length = T.toks.length
  all : w.ownsRow 3 63 1 s.va s.g.length (s.g.map pt)
  ord : w.ownsRow 3 63 1 s.vo T.ord.length (T.ord.map fun i => pt (s.gg i))
  tok : ∀ i, i < T.toks.length → w.heap[s.gg i]? = some (.cells (tokC (T.tk i) (s.pv i) (s.wv i)) 65 (0, 0))
  par : ∀ i, i < T.toks.length → w.ownsRow 3 63 1 (s.pv i) (T.tk i).par.length ((T.tk i).par.map fun j => pt (s.gg j))
  why : ∀ i, i < T.toks.length → k56.R 56 w 3 X (s.wv i) (T.tk i).why
  nodup : s.g.Nodup
  map : ∃ n D, n ≤ T.toks.length ∧ w.ownsMap Tryd.prog 9 ptrElem s.m n D ∧ ∀ nm : ByteArray, D.atKey (.string nm.data.toList) (.lit (.int .i64 0)) = .lit (.int .i64 (T.nameN s nm : Nat))
  ao : ∀ k, s.va.ownBlock = some k → s.vo.ownBlock ≠ some k
  pa : ∀ i k, i < T.toks.length → (s.pv i).ownBlock = some k → s.va.ownBlock ≠ some k ∧ s.vo.ownBlock ≠ some k
  dom : ∀ k, X k → 3 ≤ k ∧ k < w.heap.size
  xb : X b
  xc : X s.c
  xm : X s.m
  xg : ∀ i, i < T.toks.length → X (s.gg i)
  xa : ∀ k, s.va.ownBlock = some k → X k
  xo : ∀ k, s.vo.ownBlock = some k → X k
  xp : ∀ i k, i < T.toks.length → (s.pv i).ownBlock = some k → X k
theorem map_move {w w' : World} {m n : Nat} {D : DataW Unit} (h : w.ownsMap Tryd.prog 9 ptrElem m n D) (hm : w'.heap[m]? = w.heap[m]?) : w'.ownsMap Tryd.prog 9 ptrElem m n D := by
  obtain ⟨es, clock, hb, r⟩ := h
  exact ⟨es, clock, hm.trans hb, r⟩
section
variable {X : Nat → Prop} {w w' : World} {b : Nat} {T : Tree} {s : Sh}
/-- What is untouched stays. -/
theorem Tm.move (h : Tm X w b T s) (hm : ∀ k, X k → w'.heap[k]? = w.heap[k]?) (hz : w.heap.size ≤ w'.heap.size) : Tm X w' b T s where
  tree := (hm _ h.xb).trans h.tree
  clock := (hm _ h.xc).trans h.clock
  len := h.len
  all := own_move h.all (fun k hk => hm k (h.xa k hk))
  ord := own_move h.ord (fun k hk => hm k (h.xo k hk))
  tok := fun i hi => (hm _ (h.xg i hi)).trans (h.tok i hi)
  par := fun i hi => own_move (h.par i hi) (fun k hk => hm k (h.xp i k hi hk))
  why := fun i hi => Kd.R_move (h.why i hi) (fun k hk => hm k hk)
  nodup := h.nodup
  map := by
    obtain ⟨n, D, h1, h2, h3⟩ := h.map
    exact ⟨n, D, h1, map_move h2 (hm _ h.xm), h3⟩
  ao := h.ao
  pa := h.pa
  dom := fun k hk => ⟨(h.dom k hk).1, Nat.lt_of_lt_of_le (h.dom k hk).2 hz⟩
  xb := h.xb
  xc := h.xc
  xm := h.xm
  xg := h.xg
  xa := h.xa
  xo := h.xo
  xp := h.xp
theorem Tm.chg {S : Nat → Prop} (h : Tm X w b T s) (k : Chg S w w') (hs : ∀ i, X i → ¬ S i) : Tm X w' b T s := h.move (fun i hi => k.block i (h.dom i hi).2 (hs i hi)) k.size
theorem Tm.below (h : Tm X w b T s) (k : Below w.heap.size w w') : Tm X w' b T s := h.move (fun i hi => k.block i (h.dom i hi).2) k.size
theorem Tm.drewN (h : Tm X w b T s) (n : Nat) : Tm X (w.drewN n) b T s := h.move (fun _ _ => rfl) (Nat.le_refl _)
/-- More blocks may be the tree's. -/
theorem Tm.more {X' : Nat → Prop} (h : Tm X w b T s) (h1 : ∀ k, X k → X' k) (h2 : ∀ k, X' k → 3 ≤ k ∧ k < w.heap.size) : Tm X' w b T s :=
  { h with why := fun i hi => Kd.R_mono (h.why i hi) h1, dom := h2, xb := h1 _ h.xb, xc := h1 _ h.xc, xm := h1 _ h.xm, xg := fun i hi => h1 _ (h.xg i hi), xa := fun k hk => h1 _ (h.xa k hk), xo := fun k hk => h1 _ (h.xo k hk), xp := fun i k hi hk => h1 _ (h.xp i k hi hk) }
/-- The blocks of a tree, and those that came since. -/
def Upto (X : Nat → Prop) (w w' : World) (k : Nat) : Prop := X k ∨ (w.heap.size ≤ k ∧ k < w'.heap.size)
theorem Tm.upto (h : Tm X w b T s) (hb : Below w.heap.size w w') (hw : LaidF w) : Tm (Upto X w w') w' b T s :=
  (h.below hb).more (fun k hk => Or.inl hk) (fun k hk => hk.elim (fun h1 => ⟨(h.dom k h1).1, Nat.lt_of_lt_of_le (h.dom k h1).2 hb.size⟩) (fun h1 => ⟨Nat.le_trans hw.size h1.1, h1.2⟩))
/-- Two blocks of unlike types are two. -/
theorem ne_type {w : World} {p q : Nat} {cs ds : Array Value} {t u : TypeId} (h : w.heap[p]? = some (.cells cs t (0, 0))) (k : w.heap[q]? = some (.cells ds u (0, 0))) (htu : t ≠ u) : p ≠ q := by
  rintro rfl
  rw [h] at k
  simp at k
  exact htu k.2
theorem ne_row {w : World} {p : Nat} {cs : Array Value} {t e : TypeId} {size n base : Nat} {v : Value} {xs : List Value} (h : w.heap[p]? = some (.cells cs t (0, 0))) (k : w.ownsRow base e size v n xs) (hte : t ≠ e) : v.ownBlock ≠ some p := fun hv => by
  obtain ⟨ds, hd⟩ := own_typed k p hv
  exact ne_type h hd hte rfl
theorem ne_map {w : World} {p m n : Nat} {cs : Array Value} {t : TypeId} {D : DataW Unit} (h : w.heap[p]? = some (.cells cs t (0, 0))) (k : w.ownsMap Tryd.prog 9 ptrElem m n D) : m ≠ p := by
  rintro rfl
  obtain ⟨es, clock, hb, _⟩ := k
  rw [h] at hb
  simp at hb
theorem row_ne_map {w : World} {e : TypeId} {size n base m n2 : Nat} {v : Value} {xs : List Value} {D : DataW Unit} (h : w.ownsRow base e size v n xs) (k : w.ownsMap Tryd.prog 9 ptrElem m n2 D) : v.ownBlock ≠ some m := fun hv => by
  obtain ⟨ds, hd⟩ := own_typed h m hv
  exact ne_map hd k rfl
theorem Tm.gg_inj (h : Tm X w b T s) {i j : Nat} (hi : i < T.toks.length) (hj : j < T.toks.length) (e : s.gg i = s.gg j) : i = j := by
  rw [← h.len] at hi hj
  unfold Sh.gg at e
  rw [List.getD_eq_getElem?_getD, List.getD_eq_getElem?_getD, List.getElem?_eq_getElem hi, List.getElem?_eq_getElem hj] at e
  exact (List.getElem_inj h.nodup).1 (by simpa using e)
/-- A row of failure is not in a block that holds something else. -/
theorem why_ne {w : World} {ok : Nat → Prop} {v : Value} {l : List S56} {p : Nat} {cs : Array Value} {t : TypeId} (h : k56.R 56 w 3 ok v l) (hp : w.heap[p]? = some (.cells cs t (0, 0))) (ht : t ≠ 56) : k56.R 56 w 3 (fun k => ok k ∧ k ≠ p) v l :=
  Kd.R_types h hp (fun q hq => by
    have : q = 56 := by simpa [k56, Kd.iso, Kd.pair, Kd.int, Kd.string, Kd.scalar] using hq
    rw [this]; exact fun e => ht e.symm)
end
end Go.Proofs.YtdnkedifjaccoaaDoor.Ce
namespace Go.Proofs.YtdnkedifjaccoaaDoor.Ce
open Go.RowKit Go.Maps Go.Shelf Go.Lib Go.Proofs Go.Proofs.YtdnkedifjaccoaaDoor Go.Proofs.YtdnkedifjaccoaaDoorW.PrintWords Go.Proofs.YtdnkedifjaccoaaDoorW.PrintLast Go.Proofs.YtdnkedifjaccoaaDoorW.PrintMore PToken
set_option linter.unusedVariables false
set_option linter.unusedSimpArgs false
def lay41Ren : Go.Shelf.Ren := ⟨fun | 41 => 28 | n => n, fun | 22 => 58 | 23 => 63 | n => n, fun n => n⟩
theorem lay41 : SlLaysE0.n41 Tryd.prog lay41Ren := {
  mixed := by kernel_rfl
  f41 := ⟨Tryd.f28.name, by decide, by kernel_rfl⟩
  t4 := by kernel_rfl
  a4 := fun _ => by kernel_rfl
  z4 := fun _ => by kernel_rfl
  v4 := fun _ => by kernel_rfl
  t22 := by kernel_rfl
  a22 := fun _ => by kernel_rfl
  z22 := fun _ => by kernel_rfl
  v22 := fun _ => by kernel_rfl }
theorem info65 : (Tryd.prog.info? 65).map (fun i => decide (i.size = 0)) = some false := by kernel_rfl
theorem under63 : Tryd.prog.underlying 63 = some (.pointer 65) := by kernel_rfl
/-- Block b holds a token. -/
def IsTok (w : World) (b : Nat) : Prop := ∃ cs, w.heap[b]? = some (.cells cs 65 (0, 0))
theorem eql_pt {w : World} {x y : Nat} (hx : IsTok w x) (hy : IsTok w y) : (binOp .eql 63 (.pointer (some ⟨x, 0, none⟩)) (.pointer (some ⟨y, 0, none⟩))).run Tryd.prog w = .ok (.bool (decide (x = y))) w := by
  have hi := info65
  cases hj : Tryd.prog.info? 65 with
  | none => rw [hj] at hi; cases hi
  | some j =>
    rw [hj] at hi
    have hs : j.size ≠ 0 := by simpa using hi
    by_cases h : x = y
    · subst h
      rw [run_eql_ptr_same w _ under63 hj]; simp
    · obtain ⟨ca, ha⟩ := hx
      obtain ⟨cb, hb⟩ := hy
      rw [run_eql_ptr_other w under63 hj hs (fun e => h (congrArg Addr.block e)) ha hb, decide_eq_false h]
/-- A row of tokens, by their blocks. -/
def RowB (w : World) (v : Value) (l : List Nat) : Prop := w.ownsRow 3 63 1 v l.length (l.map pt)
theorem RowB.open {w : World} {v : Value} {l : List Nat} (h : RowB w v l) : ∃ A c, v = .slice A l.length c ∧ l.length ≤ c ∧ c ≤ maxLen ∧ ∀ j, j < l.length → ∃ g, A = some ⟨g, 0, none⟩ ∧ w.cell? ⟨g, j, none⟩ = some (.pointer (some ⟨l.getD j 0, 0, none⟩)) ∧ 3 ≤ g := by
  obtain ⟨h0, ⟨rfl, h1⟩ | ⟨g, cap, cur, rfl, hg, hb, hcap, hm, hs, ht⟩⟩ := h
  · exact ⟨none, 0, by rw [h1], by omega, by decide, fun j hj => by omega⟩
  · refine ⟨_, cap, rfl, hcap, hm, fun j hj => ⟨g, rfl, ?_, hg⟩⟩
    rw [blk_cell hb]
    have h2 : (cur.toList.take (l.length * 1))[j]? = (l.map pt)[j]? := by rw [ht]
    rw [List.getElem?_take, if_pos (by omega), List.getElem?_map, List.getElem?_eq_getElem hj] at h2
    rw [List.getD_eq_getElem?_getD, List.getElem?_eq_getElem hj]
    simpa [pt] using h2
theorem drop_cons {l : List Nat} {i : Nat} (hi : i < l.length) : l.drop i = l.getD i 0 :: l.drop (i + 1) := by
  rw [List.drop_eq_getElem_cons hi, List.getD_eq_getElem?_getD, List.getElem?_eq_getElem hi]; rfl
theorem index_pt (w : World) (v : Value) (l : List Nat) (x : Nat) (hR : RowB w v l) (hl : l.length ≤ 1000000) (hb : ∀ y ∈ l, IsTok w y) (hx : IsTok w x) :
    Calls Tryd.prog 61 #[v, .pointer (some ⟨x, 0, none⟩)] w fun e w' => (∃ r : Int, e = .returned (.int .i64 r) ∧ (0 ≤ r ↔ x ∈ l)) ∧ w' = w := by
  obtain ⟨A, c, rfl, hc, hm, hcell⟩ := hR.open
  have HR := Lib.hid (And.intro hcell (And.intro hb hx))
  clear hR hcell hb hx
  go_enter Tryd.func61, Tryd.ntmps61
  go_wp2
  go_loopg [8] l.length (fun gk vi wr => ∃ i : Nat, vi = .int .i64 i ∧ i ≤ l.length ∧ l.length ≤ i + gk ∧ wr = w ∧ Hid (x ∈ l ↔ x ∈ l.drop i))
  case atStart => exact ⟨0, rfl, Nat.zero_le _, by omega, rfl, Lib.hid Iff.rfl⟩
  case round =>
    obtain ⟨i, rfl, hi, hg, rfl, HI⟩ := hrel
    by_cases hlt : i < l.length
    · have hltz : (i : Int) < (l.length : Int) := by omega
      obtain ⟨g, rfl, hce, -⟩ := HR.out.1 i hlt
      have hd := drop_cons hlt
      obtain ⟨y, hy⟩ : ∃ y, l.getD i 0 = y := ⟨_, rfl⟩
      rw [hy] at hce hd
      have hym : y ∈ l := List.mem_of_mem_drop (by rw [hd]; exact List.mem_cons_self)
      have hq := eql_pt HR.out.2.2 (HR.out.2.1 y hym)
      have hi0 : (0 : Int) ≤ (i : Int) := Int.natCast_nonneg i
      have HW := Lib.hid (wsucc i (by omega))
      have HD := Lib.hid hd
      have HL := Lib.hid (And.intro (Nat.succ_le_of_lt hlt) (show l.length - (i + 1) < gk by omega))
      by_cases hxy : x = y
      · have hq2 := decide_eq_true hxy
        rw [hq2] at hq
        have HXY := Lib.hid hxy
        clear hxy hd hy hym hq2
        go_wp2
        go_ret
        refine ⟨⟨_, rfl, ?_⟩, rfl⟩
        rw [HI.out, HD.out, HXY.out]
        simp
      · have hq2 := decide_eq_false hxy
        rw [hq2] at hq
        have HXY := Lib.hid hxy
        clear hxy hd hy hym hq2 hg hi hlt
        go_wp2
        go_roundg (l.length - (i + 1))
        case measure => exact HL.out.2
        case rel =>
          refine ⟨i + 1, (by first | exact congrArg _ HW.out | rfl), HL.out.1, by omega, rfl, Lib.hid ?_⟩
          rw [HI.out, HD.out, List.mem_cons]
          exact ⟨fun h => h.resolve_left HXY.out, Or.inr⟩
    · have hltz : ¬ (i : Int) < (l.length : Int) := by omega
      have HL := Lib.hid (show l.length ≤ i by omega)
      clear hi hg hlt
      go_wp2
      go_ret
      refine ⟨⟨_, rfl, ?_⟩, rfl⟩
      rw [HI.out, List.drop_eq_nil_of_le HL.out]
      simp
theorem contains_pt (w : World) (v : Value) (l : List Nat) (x : Nat) (hR : RowB w v l) (hl : l.length ≤ 1000000) (hb : ∀ y ∈ l, IsTok w y) (hx : IsTok w x) :
    Calls Tryd.prog 51 #[v, .pointer (some ⟨x, 0, none⟩)] w fun e w' => e = .returned (.bool (decide (x ∈ l))) ∧ w' = w := by
  have HC := Lib.hid (index_pt w v l x hR hl hb hx)
  clear hR hl hb hx
  go_enter Tryd.func51, Tryd.ntmps51
  go_wp2_with (first | (go_at_call 61; refine HC.out.mono ?_; rintro _ w1 ⟨⟨r, rfl, hr⟩, rfl⟩; have HR := Lib.hid hr; clear hr))
  go_ret
  exact ⟨by rw [show decide (x ∈ l) = decide (0 ≤ r) from decide_eq_decide.2 HR.out.symm]; rfl, rfl⟩
end Go.Proofs.YtdnkedifjaccoaaDoor.Ce
namespace Go.Proofs.YtdnkedifjaccoaaDoor.Ce
open Go.RowKit Go.Maps Go.Shelf Go.Lib Go.Proofs Go.Proofs.YtdnkedifjaccoaaDoor Go.Proofs.YtdnkedifjaccoaaDoorW.PrintWords Go.Proofs.YtdnkedifjaccoaaDoorW.PrintLast Go.Proofs.YtdnkedifjaccoaaDoorW.PrintMore PToken
set_option linter.unusedVariables false
set_option linter.unusedSimpArgs false
section
variable {X : Nat → Prop} {w : World} {b : Nat} {T : Tree} {s : Sh}
theorem Tm.cells (h : Tm X w b T s) : w.cell? ⟨b, 0, none⟩ = some (.pointer (some ⟨s.c, 0, none⟩)) ∧ w.cell? ⟨b, 1, none⟩ = some s.va ∧ w.cell? ⟨b, 2, none⟩ = some (.map (some s.m)) ∧ w.cell? ⟨b, 3, none⟩ = some s.vo ∧ ∀ k, w.frozen? ⟨b, k, none⟩ = false :=
  ⟨(blk_cell h.tree 0).trans rfl, (blk_cell h.tree 1).trans rfl, (blk_cell h.tree 2).trans rfl, (blk_cell h.tree 3).trans rfl, fun k => blk_frozen h.tree k⟩
theorem Tm.tcells (h : Tm X w b T s) (i : Nat) (hi : i < T.toks.length) : w.cell? ⟨s.gg i, 0, none⟩ = some (.string (T.tk i).name) ∧ w.cell? ⟨s.gg i, 1, none⟩ = some (s.pv i) ∧ w.cell? ⟨s.gg i, 2, none⟩ = some (.int .i64 (T.tk i).dl) ∧ w.cell? ⟨s.gg i, 3, none⟩ = some (.bool (T.tk i).done) ∧ w.cell? ⟨s.gg i, 4, none⟩ = some (s.wv i) ∧ ∀ k, w.frozen? ⟨s.gg i, k, none⟩ = false :=
  ⟨(blk_cell (h.tok i hi) 0).trans rfl, (blk_cell (h.tok i hi) 1).trans rfl, (blk_cell (h.tok i hi) 2).trans rfl, (blk_cell (h.tok i hi) 3).trans rfl, (blk_cell (h.tok i hi) 4).trans rfl, fun k => blk_frozen (h.tok i hi) k⟩
theorem Tm.isTok (h : Tm X w b T s) (i : Nat) (hi : i < T.toks.length) : IsTok w (s.gg i) := ⟨_, h.tok i hi⟩
theorem Tm.ordB (h : Tm X w b T s) : RowB w s.vo (T.ord.map s.gg) := by
  have := h.ord
  unfold RowB
  rw [List.length_map, List.map_map]
  exact this
theorem Tm.allB (h : Tm X w b T s) : RowB w s.va s.g := h.all
theorem Tm.parB (h : Tm X w b T s) (i : Nat) (hi : i < T.toks.length) : RowB w (s.pv i) ((T.tk i).par.map s.gg) := by
  have := h.par i hi
  unfold RowB
  rw [List.length_map, List.map_map]
  exact this
theorem Tm.all_gg (h : Tm X w b T s) : s.g = (List.range T.toks.length).map s.gg := by
  rw [← h.len]
  apply List.ext_getElem
  · simp
  · intro i h1 h2
    simp [Sh.gg, List.getD_eq_getElem?_getD, List.getElem?_eq_getElem h1]
theorem nodup_len : ∀ (a b : List Nat), a.Nodup → (∀ x ∈ a, x ∈ b) → a.length ≤ b.length
 | [], b, _, _ => Nat.zero_le _
 | x :: r, b, hn, hs => by
  rw [List.nodup_cons] at hn
  have hx : x ∈ b := hs x List.mem_cons_self
  have ih := nodup_len r (b.erase x) hn.2 (fun y hy => (List.mem_erase_of_ne (fun (e : y = x) => hn.1 (e ▸ hy))).2 (hs y (List.mem_cons_of_mem _ hy)))
  rw [List.length_erase_of_mem hx] at ih
  have := List.length_pos_of_mem hx
  simp
  omega
/-- A pointer to a token, or none. -/
def optP (s : Sh) : Option Nat → Option Addr
  | some i => some ⟨s.gg i, 0, none⟩
  | none => none
theorem getD_map_lt {l : List Nat} {f : Nat → Nat} {k : Nat} (hk : k < l.length) : (l.map f).getD k 0 = f (l.getD k 0) := by
  simp [List.getD_eq_getElem?_getD, List.getElem?_eq_getElem hk]
theorem getD_mem {l : List Nat} {k : Nat} (hk : k < l.length) : l.getD k 0 ∈ l := by
  rw [List.getD_eq_getElem?_getD, List.getElem?_eq_getElem hk]; exact List.getElem_mem hk
theorem first_is (h : Tm X w b T s) (W : Tree.WF T) (hsm : T.toks.length ≤ 256) (v : Value) (l : List Nat) (hv : RowB w v (l.map s.gg)) (hl : ∀ i ∈ l, i < T.toks.length) (hn : l.length ≤ 1000) :
    Calls Tryd.prog 37 #[.pointer (some ⟨b, 0, none⟩), v] w fun e w' => e = .returned (.pointer (optP s (T.first l))) ∧ w' = w := by
  obtain ⟨c0, c1, c2, c3, cf⟩ := h.cells
  obtain ⟨A, c, hvo, hc, hm, hcell⟩ := h.ordB.open
  rw [hvo] at c3
  have hord : ∀ i ∈ T.ord, i < T.toks.length := fun i hi => ((W.ord i).1 hi).1
  have hlen : T.ord.length ≤ 1000 := by
    have h1 := hsm
    have h2 : T.ord.length ≤ (List.range T.toks.length).length := nodup_len _ _ W.nodup (fun i hi => List.mem_range.2 (hord i hi))
    rw [List.length_range] at h2
    omega
  rw [List.length_map] at hcell hc
  have HC := Lib.hid (fun (i : Nat) (hi : i < T.toks.length) => (contains_pt w v (l.map s.gg) (s.gg i) hv (by rw [List.length_map]; omega) (fun y hy => by obtain ⟨j, hj, rfl⟩ := List.mem_map.1 hy; exact h.isTok j (hl j hj)) (h.isTok i hi)))
  have HM := Lib.hid (fun (i : Nat) (hi : i < T.toks.length) => (show (s.gg i ∈ l.map s.gg ↔ i ∈ l) from ⟨fun hm => by obtain ⟨j, hj, e⟩ := List.mem_map.1 hm; rw [← h.gg_inj (hl j hj) hi e]; exact hj, fun hm => List.mem_map_of_mem hm⟩))
  have HE := Lib.hid (And.intro hord hcell)
  obtain ⟨no, hno⟩ : ∃ no, no = T.ord.length := ⟨_, rfl⟩
  rw [List.length_map, ← hno] at c3
  rw [← hno] at hlen
  have HN := Lib.hid hno
  clear h W hsm hv hl hn hvo hc hm hcell hord c0 c1 c2 hno
  go_enter Tryd.func37, Tryd.ntmps37
  go_wp2
  go_loopg [12] no (fun gk vi wr => ∃ i : Nat, vi = .int .i64 i ∧ i ≤ no ∧ no ≤ i + gk ∧ wr = w ∧ Hid (T.first l = (T.ord.drop i).find? fun i => l.contains i))
  case atStart => exact ⟨0, rfl, Nat.zero_le _, by omega, rfl, Lib.hid rfl⟩
  case round =>
    obtain ⟨i, rfl, hi, hg, rfl, HI⟩ := hrel
    by_cases hlt : i < no
    · have hltz : (i : Int) < (no : Int) := by omega
      have hlt' : i < T.ord.length := HN.out ▸ hlt
      obtain ⟨g, rfl, hce, -⟩ := HE.out.2 i hlt'
      have hd := drop_cons hlt'
      rw [getD_map_lt hlt'] at hce
      have hmem := HE.out.1 _ (getD_mem hlt')
      obtain ⟨y, hy⟩ : ∃ y, T.ord.getD i 0 = y := ⟨_, rfl⟩
      rw [hy] at hce hd hmem
      have HCY := Lib.hid (HC.out y hmem)
      have HMY := Lib.hid (HM.out y hmem)
      have hi0 : (0 : Int) ≤ (i : Int) := Int.natCast_nonneg i
      have HW := Lib.hid (wsucc i (by omega))
      have HD := Lib.hid hd
      have HL := Lib.hid (And.intro (Nat.succ_le_of_lt hlt) (show no - (i + 1) < gk by omega))
      have HL2 := Lib.hid (show no ≤ i + 1 + (no - (i + 1)) by omega)
      clear hd hy hmem hg hi hlt hlt'
      by_cases hm : y ∈ l
      · have hq := decide_eq_true (HMY.out.2 hm)
        have HY := Lib.hid hm
        rw [hq] at HCY
        clear hm hq
        go_wp2_with (first | (go_at_call 51; refine HCY.out.mono ?_; rintro _ w1 ⟨rfl, rfl⟩))
        go_ret
        refine ⟨?_, rfl⟩
        rw [HI.out, HD.out, List.find?_cons_of_pos (by simpa using HY.out)]
        rfl
      · have hq := decide_eq_false (fun k => hm (HMY.out.1 k))
        have HY := Lib.hid hm
        rw [hq] at HCY
        clear hm hq
        go_wp2_with (first | (go_at_call 51; refine HCY.out.mono ?_; rintro _ w1 ⟨rfl, rfl⟩))
        go_roundg (no - (i + 1))
        case measure => exact HL.out.2
        case rel => exact ⟨i + 1, (by first | exact congrArg _ HW.out | rfl), HL.out.1, HL2.out, rfl, Lib.hid (by rw [HI.out, HD.out, List.find?_cons_of_neg (by simpa using HY.out)])⟩
    · have hltz : ¬ (i : Int) < (no : Int) := by omega
      have HL := Lib.hid (show T.ord.length ≤ i by have := HN.out; omega)
      clear hi hg hlt
      go_wp2
      go_ret
      refine ⟨?_, rfl⟩
      rw [HI.out, List.drop_eq_nil_of_le HL.out]
      rfl
end
end Go.Proofs.YtdnkedifjaccoaaDoor.Ce
namespace Go.Proofs.YtdnkedifjaccoaaDoor.Ce
open Go.RowKit Go.Maps Go.Shelf Go.Lib Go.Proofs Go.Proofs.YtdnkedifjaccoaaDoor Go.Proofs.YtdnkedifjaccoaaDoorW.PrintWords Go.Proofs.YtdnkedifjaccoaaDoorW.PrintLast Go.Proofs.YtdnkedifjaccoaaDoorW.PrintMore PToken
set_option linter.unusedVariables false
set_option linter.unusedSimpArgs false
theorem info63 : (Tryd.prog.info? 63).map (fun i => (i.zero, i.size, i.bytes)) = some (some (.pointer none), 1, 8) := by kernel_rfl
theorem info63e : ∃ i0, Tryd.prog.info? 63 = some i0 ∧ i0.zero = some (.pointer none) ∧ i0.size = 1 ∧ i0.bytes = 8 := by
  have h := info63
  cases hj : Tryd.prog.info? 63 with
  | none => rw [hj] at h; cases h
  | some j =>
    rw [hj] at h
    simp at h
    exact ⟨j, rfl, h.1, h.2.1, h.2.2⟩
theorem own_slice {w : World} {base e size n : Nat} {v : Value} {xs : List Value} (h : w.ownsRow base e size v n xs) : ∃ A c, v = .slice A n c ∧ n ≤ c := by
  obtain ⟨h0, ⟨rfl, h1⟩ | ⟨g, cap, cur, rfl, hg, hb, hcap, hm, hs, ht⟩⟩ := h
  · exact ⟨none, 0, by rw [h1], by omega⟩
  · exact ⟨_, cap, rfl, hcap⟩
theorem own_lt {w : World} {base e size n : Nat} {v : Value} {xs : List Value} (h : w.ownsRow base e size v n xs) (k : Nat) (hk : v.ownBlock = some k) : k < w.heap.size := by
  obtain ⟨ds, hd⟩ := own_typed h k hk
  exact blk_lt hd
section
variable {X : Nat → Prop} {w w' : World} {b : Nat} {T : Tree} {s : Sh}
def Sh.turned (s : Sh) (i : Nat) (vo wv : Value) : Sh := { s with vo := vo, wv := fun j => if j = i then wv else s.wv j }
theorem Tm.turned (h : Tm X w b T s) (hla : LaidF w) {i : Nat} (hi : i < T.toks.length) {why : List S56} {wv vo : Value} (hw : k56.R 56 w 3 X wv why)
    (htok : w'.heap[s.gg i]? = some (.cells (tokC { T.tk i with done := true, why := why } (s.pv i) wv) 65 (0, 0))) (htree : w'.heap[b]? = some (.cells (s.turned i vo wv).treeC 61 (0, 0)))
    (hord : w'.ownsRow 3 63 1 vo (T.ord.length + 1) ((T.ord.map fun i => pt (s.gg i)) ++ [pt (s.gg i)]))
    (hvo : ∀ k, vo.ownBlock = some k → s.vo.ownBlock = some k ∨ w.heap.size ≤ k) (hz : w.heap.size ≤ w'.heap.size)
    (hblk : ∀ k, k < w.heap.size → k ≠ s.gg i → k ≠ b → s.vo.ownBlock ≠ some k → w'.heap[k]? = w.heap[k]?) : Tm (Upto X w w') w' b (T.turn i why) (s.turned i vo wv) := by
  have hlt : ∀ k, X k → k < w.heap.size := fun k hk => (h.dom k hk).2
  have hbg : b ≠ s.gg i := ne_type h.tree (h.tok i hi) (by decide)
  have hrow : ∀ {k : Nat} {cs : Array Value} {t : TypeId}, w.heap[k]? = some (.cells cs t (0, 0)) → t ≠ 63 → s.vo.ownBlock ≠ some k := fun hk ht => ne_row hk h.ord ht
  have hlen : (T.turn i why).toks.length = T.toks.length := Tree.turn_len T i why
  have htk : ∀ j, (T.turn i why).tk j = if j = i then { T.tk i with done := true, why := why } else T.tk j := fun j => Tree.tk_turn T i j why hi
  have hpar : ∀ j, ((T.turn i why).tk j).par = (T.tk j).par := fun j => by
    rw [htk]; by_cases e : j = i
    · subst e; rw [if_pos rfl]
    · rw [if_neg e]
  have hname : ∀ j, ((T.turn i why).tk j).name = (T.tk j).name := fun j => by
    rw [htk]; by_cases e : j = i
    · subst e; rw [if_pos rfl]
    · rw [if_neg e]
  have hfind : ∀ nm, (T.turn i why).find nm = T.find nm := fun nm => by
    unfold Tree.find
    rw [hlen]
    simp only [hname]
  have hup : ∀ k, X k → Upto X w w' k := fun k hk => Or.inl hk
  have hnew : ∀ k, vo.ownBlock = some k → Upto X w w' k ∧ (s.vo.ownBlock = some k ∨ w.heap.size ≤ k) := fun k hk => by
    have h1 := own_lt hord k hk
    rcases hvo k hk with h2 | h2
    · exact ⟨Or.inl (h.xo k h2), Or.inl h2⟩
    · exact ⟨Or.inr ⟨h2, h1⟩, Or.inr h2⟩
  have rowfar : ∀ {n : Nat} {v : Value} {xs : List Value}, w.ownsRow 3 63 1 v n xs → (∀ k, v.ownBlock = some k → s.vo.ownBlock ≠ some k) → w'.ownsRow 3 63 1 v n xs := fun hr hne => own_move hr (fun k hk => hblk k (own_lt hr k hk) (fun e => ne_row (h.tok i hi) hr (by decide) (e ▸ hk)) (fun e => ne_row h.tree hr (by decide) (e ▸ hk)) (hne k hk))
  refine ⟨htree, ?_, h.len.trans hlen.symm, ?_, ?_, fun j hj => ?_, fun j hj => ?_, fun j hj => ?_, h.nodup, ?_, fun k hk hk2 => ?_, fun j k hj hk => ?_, fun k hk => ?_, hup _ h.xb, hup _ h.xc, hup _ h.xm, fun j hj => hup _ (h.xg j (hlen ▸ hj)), fun k hk => hup _ (h.xa k hk), fun k hk => (hnew k hk).1, fun j k hj hk => hup _ (h.xp j k (hlen ▸ hj) hk)⟩
  · exact (hblk s.c (hlt _ h.xc) (ne_type h.clock (h.tok i hi) (by decide)) (ne_type h.clock h.tree (by decide)) (hrow h.clock (by decide))).trans h.clock
  · exact rowfar h.all h.ao
  · show w'.ownsRow 3 63 1 vo (T.ord ++ [i]).length ((T.ord ++ [i]).map fun j => pt (s.gg j))
    rw [List.length_append, List.map_append]
    exact hord
  · rw [hlen] at hj
    rw [htk]
    show w'.heap[s.gg j]? = some (.cells (tokC _ (s.pv j) (if j = i then wv else s.wv j)) 65 (0, 0))
    by_cases e : j = i
    · subst e; rw [if_pos rfl, if_pos rfl]; exact htok
    · rw [if_neg e, if_neg e]
      exact (hblk _ (hlt _ (h.xg j hj)) (fun e2 => e (h.gg_inj hj hi e2)) (ne_type (h.tok j hj) h.tree (by decide)) (hrow (h.tok j hj) (by decide))).trans (h.tok j hj)
  · rw [hlen] at hj
    rw [hpar]
    exact rowfar (h.par j hj) (fun k hk => (h.pa j k hj hk).2)
  · rw [hlen] at hj
    have hold : ∀ (v : Value) (l : List S56), k56.R 56 w 3 X v l → k56.R 56 w' 3 (Upto X w w') v l := fun v l hr => by
      have h1 := why_ne (why_ne hr (h.tok i hi) (by decide)) h.tree (by decide)
      have h2 : k56.R 56 w 3 (fun k => X k ∧ k ≠ s.gg i ∧ k ≠ b ∧ s.vo.ownBlock ≠ some k) v l := by
        by_cases hv : ∃ g, s.vo.ownBlock = some g
        · obtain ⟨g, hg⟩ := hv
          obtain ⟨ds, hd⟩ := own_typed h.ord g hg
          exact Kd.R_mono (why_ne h1 hd (by decide)) (fun k hk => ⟨hk.1.1.1, hk.1.1.2, hk.1.2, fun e => hk.2 (by rw [hg] at e; exact (Option.some.inj e).symm)⟩)
        · exact Kd.R_mono h1 (fun k hk => ⟨hk.1.1, hk.1.2, hk.2, fun e => hv ⟨k, e⟩⟩)
      exact Kd.R_mono (Kd.R_move h2 (fun k hk => hblk k (hlt k hk.1) hk.2.1 hk.2.2.1 hk.2.2.2)) (fun k hk => Or.inl hk.1)
    rw [htk]
    show k56.R 56 w' 3 _ (if j = i then wv else s.wv j) _
    by_cases e : j = i
    · subst e; rw [if_pos rfl, if_pos rfl]; exact hold _ _ hw
    · rw [if_neg e, if_neg e]; exact hold _ _ (h.why j hj)
  · obtain ⟨n, D, h1, h2, h3⟩ := h.map
    refine ⟨n, D, hlen ▸ h1, map_move h2 (hblk s.m (hlt _ h.xm) (fun e => ne_map (h.tok i hi) h2 e) (fun e => ne_map h.tree h2 e) (row_ne_map h.ord h2)), fun nm => ?_⟩
    rw [h3]
    unfold Tree.nameN
    rw [hfind]
    rfl
  · rcases (hnew k hk2).2 with h1 | h1
    · exact h.ao k hk h1
    · have := own_lt h.all k hk; omega
  · rw [hlen] at hj
    refine ⟨(h.pa j k hj hk).1, fun hk2 => ?_⟩
    rcases (hnew k hk2).2 with h1 | h1
    · exact (h.pa j k hj hk).2 h1
    · have := own_lt (h.par j hj) k hk; omega
  · rcases hk with h1 | h1
    · exact ⟨(h.dom k h1).1, Nat.lt_of_lt_of_le (h.dom k h1).2 hz⟩
    · exact ⟨Nat.le_trans hla.size h1.1, h1.2⟩
end
end Go.Proofs.YtdnkedifjaccoaaDoor.Ce
namespace Go.Proofs.YtdnkedifjaccoaaDoor.Ce
open Go.RowKit Go.Maps Go.Shelf Go.Lib Go.Proofs Go.Proofs.YtdnkedifjaccoaaDoor Go.Proofs.YtdnkedifjaccoaaDoorW.PrintWords Go.Proofs.YtdnkedifjaccoaaDoorW.PrintLast Go.Proofs.YtdnkedifjaccoaaDoorW.PrintMore PToken
set_option linter.unusedVariables false
set_option linter.unusedSimpArgs false
section
variable {X : Nat → Prop} {w w' : World} {b : Nat} {T : Tree} {s : Sh}
theorem ord_len (W : Tree.WF T) : T.ord.length ≤ T.toks.length := by
  have h2 : T.ord.length ≤ (List.range T.toks.length).length := nodup_len _ _ W.nodup (fun i hi => List.mem_range.2 ((W.ord i).1 hi).1)
  rwa [List.length_range] at h2
theorem far_set {w : World} {p q : Nat} (i : Nat) (u : Value) (h : p ≠ q) : (w.setCell ⟨q, i, none⟩ u).heap[p]? = w.heap[p]? := Below.heap_setCell _ ⟨q, i, none⟩ u p h
/-- What a call that turns the tree leaves. -/
structure Trn (X : Nat → Prop) (w : World) (b : Nat) (s : Sh) (T' : Tree) (w' : World) (s' : Sh) : Prop where
  tm : Tm (Upto X w w') w' b T' s'
  chg : Chg X w w'
  laid : LaidF w'
  g : s'.g = s.g
  c : s'.c = s.c
  m : s'.m = s.m
  va : s'.va = s.va
theorem laid_chg {S : Nat → Prop} (h : LaidF w) (k : Chg S w w') (hS : ∀ i, S i → 3 ≤ i) : LaidF w' := by
  have hb : ∀ i, i < 3 → w'.heap[i]? = w.heap[i]? := fun i hi => k.block i (by have := h.size; omega) (fun hs => by have := hS i hs; omega)
  exact ⟨h.keys.to k.size (fun i hi => hb i (by omega)), fun j hj => (cell_blk (hb 1 (by omega))).trans (h.sorts j hj), fun j hj => (cell_blk (hb 2 (by omega))).trans (h.values j hj), Nat.le_trans h.size k.size⟩
set_option maxRecDepth 100000 in
theorem turn_is (h : Tm X w b T s) (W : Tree.WF T) (hsm : T.toks.length ≤ 256) (hla : LaidF w) {i : Nat} (hi : i < T.toks.length) {why : List S56} {wv : Value} (hw : k56.R 56 w 3 X wv why) :
    Calls Tryd.prog 38 #[.pointer (some ⟨b, 0, none⟩), .pointer (some ⟨s.gg i, 0, none⟩), wv] w fun e w' => e = .returned (.tuple #[]) ∧ ∃ s', Trn X w b s (T.turn i why) w' s' := by
  obtain ⟨A, c, rfl, hc, hwr⟩ := Kd.R_reads hw
  obtain ⟨i0, hi0⟩ := info63e
  obtain ⟨-, -, -, c3, cf⟩ := h.cells
  obtain ⟨-, -, -, t3, t4, tf⟩ := h.tcells i hi
  have htok := h.tok i hi
  have htree := h.tree
  have hne : b ≠ s.gg i := ne_type htree htok (by decide)
  have hlen := ord_len W
  have hrg := ne_row htok h.ord (by decide)
  have hrb := ne_row htree h.ord (by decide)
  obtain ⟨W1, hW1⟩ : ∃ W1, W1 = (w.setCell ⟨s.gg i, 3, none⟩ (.bool true)).setCell ⟨s.gg i, 4, none⟩ (.slice A why.length c) := ⟨_, rfl⟩
  have hblk1 : ∀ k, k ≠ s.gg i → W1.heap[k]? = w.heap[k]? := fun k hk => by rw [hW1, far_set 4 _ hk, far_set 3 _ hk]
  have htok1 : W1.heap[s.gg i]? = some (.cells (tokC { T.tk i with done := true, why := why } (s.pv i) (.slice A why.length c)) 65 (0, 0)) := by
    rw [hW1]; exact (blk_set (blk_set htok 3 _) 4 _).trans rfl
  have hz1 : W1.heap.size = w.heap.size := by rw [hW1]; simp [World.setCell]
  have hown1 : W1.ownsRow 3 63 1 s.vo T.ord.length (T.ord.map fun i => pt (s.gg i)) := own_move h.ord (fun k hk => hblk1 k (fun e => hrg (e ▸ hk)))
  have hown2 := own_move (w1 := W1.alloc (.cells #[.pointer (some ⟨s.gg i, 0, none⟩)] 63)) hown1 (fun k hk => Below.heap_alloc _ _ _ (own_lt hown1 k hk))
  have HO := Lib.hid hown2
  have HNW := Lib.hid (show ∀ j u, [pt (s.gg i)][j]? = some u → (W1.alloc (.cells #[.pointer (some ⟨s.gg i, 0, none⟩)] 63)).cell? ((⟨w.heap.size, 0, none⟩ : Addr).add j) = some u from by rw [← hz1]; exact cell_one_new W1 (pt (s.gg i)) 63)
  have HI := Lib.hid hi0
  have hchg1 : Chg X w W1 := by rw [hW1]; exact ((Chg.refl X w).setCell (h.xg i hi) _).setCell (h.xg i hi) _
  have HT := Lib.hid (And.intro h (And.intro hla (And.intro hi hw)))
  have H1 := Lib.hid (And.intro hblk1 (And.intro htok1 (And.intro hz1 hchg1)))
  have HN := Lib.hid (And.intro hne (And.intro hlen hsm))
  have HW := Lib.hid hW1
  obtain ⟨Ao, co, hvo, hco⟩ := own_slice h.ord
  rw [hvo] at c3
  have HVO := Lib.hid hvo
  have HTR := Lib.hid htree
  have HB := Lib.hid (And.intro (blk_lt htree) (And.intro (blk_lt htok) (And.intro hrb hrg)))
  clear hown1 hown2 hi0 hblk1 htok1 hz1 hchg1 h W hla hw hlen hsm hrg hrb htok htree hW1 cf hwr hc hvo hco
  go_enter Tryd.func38, Tryd.ntmps38
  have HZ := Lib.hid (show T.ord.length + 1 ≤ maxLen ∧ (T.ord.length + 1) * 8 ≤ 140737488355328 ∧ 3 ≤ (W1.alloc (.cells #[.pointer (some ⟨s.gg i, 0, none⟩)] 63)).heap.size from by
    have h1 := HN.out
    have h2 := HT.out.2.1.size
    have h3 := H1.out.2.2.1
    refine ⟨by unfold maxLen; omega, by omega, by rw [World.size_alloc]; omega⟩)
  have HG := Lib.hid (fun (w3 : World) (hg : (W1.alloc (.cells #[.pointer (some ⟨s.gg i, 0, none⟩)] 63)).grownBy w3 s.vo.ownBlock) (k : Nat) (hk : k < w.heap.size) (hv : s.vo.ownBlock ≠ some k) => show w3.heap[k]? = W1.heap[k]? from by
    rw [hg.block k (by rw [World.size_alloc]; have := H1.out.2.2.1; omega) (fun e => hv e.symm), Below.heap_alloc _ _ _ (by have := H1.out.2.2.1; omega)])
  go_wp2_with (at_builtin; rw [← HW.out]; refine wpList_append_own_at _ rfl _ _ 58 rfl 3 63 i0 (.pointer none) 1 8 (by kernel_rfl) HI.out.1 HI.out.2.1 HI.out.2.2.1 HI.out.2.2.2 rfl (by decide) s.vo _ _ (by rw [HVO.out]; rfl) HO.out ⟨w.heap.size, 0, none⟩ 1 1 [pt (s.gg i)] rfl rfl HNW.out (by intro u hu; rw [List.mem_singleton.1 hu]; rfl) HZ.out.1 HZ.out.2.1 HZ.out.2.2 ?_; intro v3 w3 hown3 hgrow3 hnil3 hat3; have HV := Lib.hid (And.intro hown3 (And.intro hgrow3 hat3)); obtain ⟨A3, k3, rfl, hk3⟩ := own_slice hown3; have hb3 : w3.heap[b]? = some (.cells s.treeC 61 (0, 0)) := (HG.out w3 hgrow3 b HB.out.1 HB.out.2.2.1).trans ((H1.out.1 b HN.out.1).trans HTR.out); have hc3 : w3.cell? ⟨b, 3, none⟩ = some (.slice Ao T.ord.length co) := (blk_cell hb3 3).trans (by rw [← HVO.out]; rfl); have hf3 : w3.frozen? ⟨b, 3, none⟩ = false := blk_frozen hb3 3; have HB3 := Lib.hid hb3; clear hb3; clear hown3 hgrow3 hnil3 hat3 hk3)
  go_end0
  refine ⟨rfl, s.turned i (.slice A3 (T.ord.length + 1) k3) (.slice A why.length c), ?_⟩
  obtain ⟨h, hla, hi, hw⟩ := HT.out
  obtain ⟨hown, hgrow, hat⟩ := HV.out
  obtain ⟨hblk1, htok1, hz1, hchg1⟩ := H1.out
  obtain ⟨hlb, hlg, hrb, hrg⟩ := HB.out
  have hne := HN.out.1
  have hz3 : w.heap.size ≤ w3.heap.size := by have := hgrow.size; rw [World.size_alloc, hz1] at this; omega
  have hz4 : w.heap.size ≤ (w3.setCell ⟨b, 3, none⟩ (.slice A3 (T.ord.length + 1) k3)).heap.size := by simpa [World.setCell] using hz3
  have hvo : ∀ k, (Value.slice A3 (T.ord.length + 1) k3).ownBlock = some k → s.vo.ownBlock = some k ∨ w.heap.size ≤ k := fun k hk => by
    rcases hat with e | e
    · exact Or.inl (e ▸ hk)
    · rw [e] at hk
      have := Option.some.inj hk
      rw [World.size_alloc, hz1] at this
      exact Or.inr (by omega)
  have hrow : (w3.setCell ⟨b, 3, none⟩ (.slice A3 (T.ord.length + 1) k3)).ownsRow 3 63 1 (.slice A3 (T.ord.length + 1) k3) (T.ord.length + 1) ((T.ord.map fun i => pt (s.gg i)) ++ [pt (s.gg i)]) :=
    own_move hown (fun k hk => far_set 3 _ (fun e => by
      subst e
      obtain ⟨ds, hd⟩ := own_typed hown k hk
      exact ne_type HB3.out hd (by decide) rfl))
  have hblk : ∀ k, k < w.heap.size → k ≠ s.gg i → k ≠ b → s.vo.ownBlock ≠ some k → (w3.setCell ⟨b, 3, none⟩ (.slice A3 (T.ord.length + 1) k3)).heap[k]? = w.heap[k]? := fun k k1 k2 k3 k4 => by
    rw [far_set 3 _ k3, HG.out w3 hgrow k k1 k4, hblk1 k k2]
  have hchg : Chg X w (w3.setCell ⟨b, 3, none⟩ (.slice A3 (T.ord.length + 1) k3)) :=
    ⟨hgrow.os.trans hchg1.os, hgrow.tape.trans hchg1.tape, hgrow.output.trans hchg1.output, hz4, fun k k1 k2 => hblk k k1 (fun e => k2 (e ▸ h.xg i hi)) (fun e => k2 (e ▸ h.xb)) (fun e => k2 (h.xo k e))⟩
  exact ⟨h.turned hla hi hw (by rw [far_set 3 _ (Ne.symm hne), HG.out w3 hgrow _ hlg hrg]; exact htok1) (blk_set HB3.out 3 _) hrow hvo hz4 hblk, hchg, laid_chg hla hchg (fun k hk => (h.dom k hk).1), rfl, rfl, rfl, rfl⟩
end
end Go.Proofs.YtdnkedifjaccoaaDoor.Ce
namespace Go.Proofs.YtdnkedifjaccoaaDoor.Ce
open Go.RowKit Go.Maps Go.Shelf Go.Lib Go.Proofs Go.Proofs.YtdnkedifjaccoaaDoor Go.Proofs.YtdnkedifjaccoaaDoorW.PrintWords Go.Proofs.YtdnkedifjaccoaaDoorW.PrintLast Go.Proofs.YtdnkedifjaccoaaDoorW.PrintMore PToken
set_option linter.unusedVariables false
set_option linter.unusedSimpArgs false
section
variable {X : Nat → Prop} {w w' : World} {b : Nat} {T : Tree} {s : Sh}
theorem Trn.refl (h : Tm X w b T s) (hla : LaidF w) : Trn X w b s T w s :=
  ⟨h.upto (Below.refl _ _) hla, Chg.refl X w, hla, rfl, rfl, rfl, rfl⟩
theorem Trn.below (h : Tm X w b T s) (hla : LaidF w) (hb : Below w.heap.size w w') : Trn X w b s T w' s :=
  ⟨h.upto hb hla, Chg.of_below hb, hla.below hb, rfl, rfl, rfl, rfl⟩
theorem Trn.trans {T1 T2 : Tree} {w1 w2 : World} {s1 s2 : Sh} (hl : LaidF w) (h : Trn X w b s T1 w1 s1) (k : Trn (Upto X w w1) w1 b s1 T2 w2 s2) : Trn X w b s T2 w2 s2 := by
  have hz1 := h.chg.size
  have hz2 := k.chg.size
  refine ⟨k.tm.more (fun q hq => ?_) (fun q hq => ?_), ?_, k.laid, k.g.trans h.g, k.c.trans h.c, k.m.trans h.m, k.va.trans h.va⟩
  · rcases hq with (h1 | h1) | h1
    · exact Or.inl h1
    · exact Or.inr ⟨h1.1, Nat.lt_of_lt_of_le h1.2 hz2⟩
    · exact Or.inr ⟨Nat.le_trans hz1 h1.1, h1.2⟩
  · rcases hq with h1 | h1
    · have := h.tm.dom q (Or.inl h1); exact ⟨this.1, Nat.lt_of_lt_of_le this.2 hz2⟩
    · exact ⟨Nat.le_trans hl.size h1.1, h1.2⟩
  · exact ⟨k.chg.os.trans h.chg.os, k.chg.tape.trans h.chg.tape, k.chg.output.trans h.chg.output, Nat.le_trans hz1 hz2, fun q q1 q2 => (k.chg.block q (Nat.lt_of_lt_of_le q1 hz1) (fun e => e.elim q2 (fun e2 => absurd e2.1 (by omega)))).trans (h.chg.block q q1 q2)⟩
/-- What a value reads as, a row of tokens wherever it begins. -/
def ReadP (w : World) (v : Value) (l : List Nat) : Prop := ∃ A c, v = .slice A l.length c ∧ l.length ≤ c ∧ ∀ j, j < l.length → ∃ g o, A = some ⟨g, o, none⟩ ∧ w.cell? ⟨g, o + j, none⟩ = some (.pointer (some ⟨l.getD j 0, 0, none⟩))
theorem RowB.read {v : Value} {l : List Nat} (h : RowB w v l) : ReadP w v l := by
  obtain ⟨A, c, hv, hc, _, hj⟩ := h.open
  refine ⟨A, c, hv, hc, fun j hlt => ?_⟩
  obtain ⟨g, hA, hce, _⟩ := hj j hlt
  exact ⟨g, 0, hA, by rw [Nat.zero_add]; exact hce⟩
theorem ReadP.nil (w : World) : ReadP w (.slice none 0 0) [] := ⟨none, 0, rfl, Nat.le_refl _, fun j hj => absurd hj (by simp)⟩
theorem info56e : ∃ i0, Tryd.prog.info? 56 = some i0 := by
  have h := info56
  cases hj : Tryd.prog.info? 56 with
  | none => rw [hj] at h; cases h
  | some j => exact ⟨j, rfl⟩
theorem RowB.cut {g c m : Nat} {l : List Nat} (h : RowB w (.slice (some ⟨g, 0, none⟩) l.length c) l) (hm : m ≤ l.length) : ReadP w (.slice (some ⟨g, m, none⟩) (l.length - m) (c - m)) (l.drop m) := by
  obtain ⟨A', c', hv, hc, hm2, hj⟩ := h.open
  injection hv with e1 e2 e3
  subst e1 e3
  refine ⟨_, c - m, by rw [List.length_drop], by rw [List.length_drop]; omega, fun j hlt => ?_⟩
  rw [List.length_drop] at hlt
  obtain ⟨g', hg, hce, _⟩ := hj (m + j) (by omega)
  injection hg with hg
  injection hg with hg
  subst hg
  exact ⟨g, m, rfl, by rw [hce]; simp [List.getD_eq_getElem?_getD]⟩
theorem Sh.gg_congr {s s' : Sh} (h : s'.g = s.g) : s'.gg = s.gg := by funext i; unfold Sh.gg; rw [h]
theorem lateL_f : token_late.f = some Tree.lateL := rfl
/-- Names are short. -/
def NS (T : Tree) : Prop := ∀ i, i < T.toks.length → (T.tk i).name.size ≤ 24 ∧ (T.tk i).par.length ≤ 8 ∧ (T.tk i).why.length ≤ 1024

/-- Where the sweep has come. -/
structure Swp (X : Nat → Prop) (w : World) (b : Nat) (s : Sh) (T : Tree) (Tc : Tree) (j : Nat) (Tj : Tree) (wr : World) (s' : Sh) : Prop where
  trn : Trn X w b s Tj wr s'
  wf : Tree.WF Tj
  len : Tj.toks.length = T.toks.length
  rest : Tc = Tj.sweep (List.range' j (T.toks.length - j))
  ext : Tree.Ext T Tj
  ne : Tj.ord ≠ []
theorem Swp.next {Tc Tj : Tree} {wr w2 : World} {s' s2 : Sh} {j : Nat} (hla : LaidF w) (S : Swp X w b s T Tc j Tj wr s') (hj : j < T.toks.length) (k : Trn (Upto X w wr) wr b s' (Tj.take j) w2 s2) : Swp X w b s T Tc (j + 1) (Tj.take j) w2 s2 :=
  ⟨S.trn.trans hla k, S.wf.take j (by rw [S.len]; exact hj), by rw [Tree.take_len]; exact S.len, by
    rw [S.rest, show T.toks.length - j = (T.toks.length - (j + 1)) + 1 from by omega, List.range'_succ]; rfl, S.ext.trans (Tree.Ext.take _ _ (by rw [S.len]; exact hj)), fun e => S.ne (List.prefix_nil.1 (e ▸ (Tree.Ext.take Tj j (by rw [S.len]; exact hj)).ord))⟩
theorem Swp.fin {Tc Tj : Tree} {wr : World} {s' : Sh} {j : Nat} (S : Swp X w b s T Tc j Tj wr s') (hj : T.toks.length ≤ j) : Tc = Tj := by
  rw [S.rest, Nat.sub_eq_zero_of_le hj]; rfl
set_option maxHeartbeats 4000000 in
set_option maxRecDepth 100000 in
theorem cancel_is (h : Tm X w b T s) (W : Tree.WF T) (hsm : T.toks.length ≤ 256) (hns : NS T) (hla : LaidF w) {i : Nat} (hi : i < T.toks.length) (A : Option Addr) (c : Nat) (f : List S56) (hf : Kd.C k56 w A f.length f) :
    Calls Tryd.prog 33 #[.pointer (some ⟨b, 0, none⟩), .pointer (some ⟨s.gg i, 0, none⟩), .slice A f.length c] w fun e w' => ∃ v s', e = .returned v ∧ Trn X w b s (T.cancel i f) w' s' ∧ ReadP w' v (((T.cancel i f).ord.drop T.ord.length).map s.gg) := by
  obtain ⟨t0, t1, t2, t3, t4, tf⟩ := h.tcells i hi
  by_cases hd : (T.tk i).done = true
  · rw [hd] at t3
    have hc : T.cancel i f = T := by unfold Tree.cancel; rw [if_pos hd]
    have HT := Lib.hid (And.intro h (And.intro hla hc))
    clear h W hsm hns hla hi hf t0 t1 t2 t4 tf hd hc
    go_enter Tryd.func33, Tryd.ntmps33
    go_wp2_with fail
    go_ret
    rw [HT.out.2.2, List.drop_length]
    exact ⟨_, s, rfl, Trn.refl HT.out.1 HT.out.2.1, ReadP.nil w⟩
  · have hd' : (T.tk i).done = false := by simpa using hd
    rw [hd'] at t3
    have HF := Lib.hid (ftoken_is w (T.tk i).name A c f hla hf (by have := (hns i hi).1; omega))
    by_cases he : tokE f ≠ 0
    · have hc : T.cancel i f = T := by unfold Tree.cancel; rw [if_neg hd, if_pos he]
      have HT := Lib.hid (And.intro h (And.intro hla hc))
      have hen : (tokE f == 0) = false := by simpa using he
      obtain ⟨te, hte⟩ : ∃ te, te = tokE f := ⟨_, rfl⟩
      rw [← hte] at hen
      have HE := Lib.hid hte
      clear h W hsm hns hla hi hf t1 t2 t4 tf hd hc hd' he hte
      go_enter Tryd.func33, Tryd.ntmps33
      go_wp2_with (first | (go_at_call 48; refine HF.out.mono ?_; rintro _ w1 ⟨v1, rfl, hr1, hb1⟩; have HB := Lib.hid hb1; rw [← HE.out]; clear hr1 hb1))
      go_ret
      rw [HT.out.2.2, List.drop_length]
      exact ⟨_, s, rfl, Trn.below HT.out.1 HT.out.2.1 HB.out, ReadP.nil _⟩
    · have he0 : tokE f = 0 := Classical.not_not.1 he
      have hc : T.cancel i f = (T.turn i (tokL (T.tk i).name f)).sweep (List.range' 0 T.toks.length) := by unfold Tree.cancel; rw [if_neg hd, if_neg he, List.range_eq_range']
      have hf0 := HF.out
      unfold TokPost at hf0
      rw [he0] at hf0
      replace HF := Lib.hid hf0
      clear hf0
      obtain ⟨Aa, ca, hva, hca⟩ := own_slice h.all
      rw [h.len] at hva
      obtain ⟨n0, hn0⟩ : ∃ n0, n0 = T.toks.length := ⟨_, rfl⟩
      obtain ⟨m0, hm0⟩ : ∃ m0, m0 = T.ord.length := ⟨_, rfl⟩
      have HT := Lib.hid (And.intro h (And.intro hla (And.intro W (And.intro hi (And.intro hsm hd')))))
      have hwhy : tokL (T.tk i).name f ≠ [] := Tree.tokL_ne he0
      have HY := Lib.hid hwhy
      have HNS := Lib.hid hns
      have HC := Lib.hid hc
      have HVA := Lib.hid hva
      have HNM := Lib.hid (And.intro hn0 hm0)
      clear h W hns hla hf t1 t2 t4 tf hd hc hd' he he0 hva hca hi hwhy hsm hn0 hm0
      go_enter Tryd.func33, Tryd.ntmps33
      go_wp2_with (first | (go_at_call 48; refine HF.out.mono ?_; rintro _ w1 ⟨v1, rfl, hr1, hb1⟩; have HB := Lib.hid hb1; have HR1 := Lib.hid hr1; have hcells := (HT.out.1.below hb1).cells; obtain ⟨A1, c1, hv1, -, -⟩ := Kd.R_reads hr1; obtain ⟨Ao, co, hvo, -⟩ := own_slice (HT.out.1.below hb1).ord; rw [hvo, ← HNM.out.2] at hcells; obtain ⟨-, -, -, c3, -⟩ := hcells; subst hv1; clear hr1 hb1 hvo HF) | fail)
      have hU := HT.out.1.upto HB.out HT.out.2.1
      have hR := Kd.R_mono (Kd.R_lower (Kd.R_bound HR1.out) HT.out.2.1.size) (ok' := Upto X w w1) (fun k hk => Or.inr ⟨hk.2.1, hk.2.2.1⟩)
      refine (turn_is hU HT.out.2.2.1 HT.out.2.2.2.2.1 (HT.out.2.1.below HB.out) HT.out.2.2.2.1 hR).mono ?_
      rintro _ w2 ⟨rfl, s2, hs2⟩
      have h0 := Trn.trans HT.out.2.1 (Trn.below HT.out.1 HT.out.2.1 HB.out) hs2
      have HS := Lib.hid (show Swp X w b s T (T.cancel i f) 0 (T.turn i (tokL (T.tk i).name f)) w2 s2 from ⟨h0, HT.out.2.2.1.turn i _ HT.out.2.2.2.1 HT.out.2.2.2.2.2 HY.out, Tree.turn_len _ _ _, HC.out, Tree.Ext.turn _ _ _ HT.out.2.2.2.1 HT.out.2.2.2.2.2, by show T.ord ++ [i] ≠ []; simp⟩)
      obtain ⟨-, c1', -, -, -⟩ := hs2.tm.cells
      rw [h0.va, HVA.out, ← HNM.out.1] at c1'
      clear hU hR hs2 h0 c3 t3 HR1 HB
      go_wp2_with fail
      clear c1'
      go_loopg [42] n0 (fun gk vi wr => ∃ (j : Nat) (Tj : Tree) (s' : Sh), vi = .int .i64 j ∧ j ≤ n0 ∧ n0 ≤ j + gk ∧ Hid (Swp X w b s T (T.cancel i f) j Tj wr s'))
      case atStart => exact ⟨0, _, s2, rfl, Nat.zero_le _, by omega, HS⟩
      case round =>
        obtain ⟨j, Tj, s', rfl, hj, hg, HSJ⟩ := hrel
        have HH := HSJ.out.trn.tm
        have hlj := HSJ.out.len
        by_cases hlt : j < n0
        · have hltz : (j : Int) < (n0 : Int) := Int.ofNat_lt.2 hlt
          have hj' : j < Tj.toks.length := by rw [hlj, ← HNM.out.1]; exact hlt
          have hj0 : (0 : Int) ≤ (j : Int) := Int.natCast_nonneg j
          obtain ⟨A', c', hv', -, -, hcell⟩ := HH.allB.open
          rw [HSJ.out.trn.va, HVA.out] at hv'
          injection hv' with e1 e2 e3
          subst e1
          obtain ⟨ga, rfl, hca, -⟩ := hcell j (by rw [HH.len]; exact hj')
          rw [show s'.g.getD j 0 = s'.gg j from rfl] at hca
          obtain ⟨-, q1, -, q3, -, -⟩ := HH.tcells j hj'
          have HW := Lib.hid (wsucc j (by have := HT.out.2.2.2.2.1; have := HNM.out.1; omega))
          have HL := Lib.hid (And.intro (Nat.succ_le_of_lt hlt) (And.intro (show n0 - (j + 1) < gk by omega) (show n0 ≤ j + 1 + (n0 - (j + 1)) by omega)))
          have HJ := Lib.hid hj'
          clear hcell e2 e3 HH hlj hg hj hlt hj'
          by_cases hd : (Tj.tk j).done = true
          · rw [hd] at q3
            have HTK := Lib.hid (show Tj.take j = Tj by unfold Tree.take; rw [if_pos hd])
            clear hd q1
            go_wp2_with fail
            go_roundg (n0 - (j + 1))
            case measure => exact HL.out.2.1
            case rel => exact ⟨j + 1, Tj.take j, s', (by first | exact congrArg _ HW.out | rfl), HL.out.1, HL.out.2.2, Lib.hid (HSJ.out.next HT.out.2.1 (HSJ.out.len ▸ HJ.out) (HTK.out.symm ▸ Trn.refl HSJ.out.trn.tm HSJ.out.trn.laid))⟩
          · have hd' : (Tj.tk j).done = false := by simpa using hd
            rw [hd'] at q3
            have hpl : ((Tj.tk j).par).length ≤ 8 := by rw [(HSJ.out.ext.same j (HSJ.out.len ▸ HJ.out)).2]; exact (HNS.out j (HSJ.out.len ▸ HJ.out)).2.1
            have hpj : ∀ p ∈ (Tj.tk j).par, p < Tj.toks.length := fun p hp => Nat.lt_trans (HSJ.out.wf.par j HJ.out p hp) HJ.out
            have HFI := Lib.hid (first_is HSJ.out.trn.tm HSJ.out.wf (by rw [HSJ.out.len]; exact HT.out.2.2.2.2.1) (s'.pv j) (Tj.tk j).par (HSJ.out.trn.tm.parB j HJ.out) hpj (by omega))
            obtain ⟨Ap, cp, hpv, -⟩ := own_slice (HSJ.out.trn.tm.par j HJ.out)
            rw [hpv] at q1 HFI
            cases hfi : Tj.first (Tj.tk j).par with
            | none =>
              rw [hfi, show optP s' none = none from rfl] at HFI
              have HTK := Lib.hid (show Tj.take j = Tj by unfold Tree.take; rw [if_neg hd, hfi])
              clear hd hd' hpl hpj hpv hfi
              go_wp2_with (first | (go_at_call 37; refine HFI.out.mono ?_; rintro _ w3 ⟨rfl, rfl⟩))
              go_roundg (n0 - (j + 1))
              case measure => exact HL.out.2.1
              case rel => exact ⟨j + 1, Tj.take j, s', (by first | exact congrArg _ HW.out | rfl), HL.out.1, HL.out.2.2, Lib.hid (HSJ.out.next HT.out.2.1 (HSJ.out.len ▸ HJ.out) (HTK.out.symm ▸ Trn.refl HSJ.out.trn.tm HSJ.out.trn.laid))⟩
            | some p =>
              rw [hfi, show optP s' (some p) = some ⟨s'.gg p, 0, none⟩ from rfl] at HFI
              have hp : p < Tj.toks.length := hpj p (Tree.first_some hfi).2
              have HTK := Lib.hid (show Tj.take j = Tj.turn j (Tj.tk p).why by unfold Tree.take; rw [if_neg hd, hfi])
              obtain ⟨-, -, -, -, r4, -⟩ := HSJ.out.trn.tm.tcells p hp
              obtain ⟨Aw, cw, hwv, -, -⟩ := Kd.R_reads (HSJ.out.trn.tm.why p hp)
              have HTU := Lib.hid (turn_is HSJ.out.trn.tm HSJ.out.wf (by rw [HSJ.out.len]; exact HT.out.2.2.2.2.1) HSJ.out.trn.laid HJ.out (HSJ.out.trn.tm.why p hp))
              rw [hwv] at r4 HTU
              clear hd hd' hpl hpj hpv hfi hp hwv
              go_wp2_with (first | (go_at_call 37; refine HFI.out.mono ?_; rintro _ w3 ⟨rfl, rfl⟩) | (go_at_call 38; refine HTU.out.mono ?_; rintro _ w4 ⟨rfl, s4, hs4⟩; have H4 := Lib.hid hs4; clear hs4))
              go_roundg (n0 - (j + 1))
              case measure => exact HL.out.2.1
              case rel => exact ⟨j + 1, Tj.take j, s4, (by first | exact congrArg _ HW.out | rfl), HL.out.1, HL.out.2.2, Lib.hid (HSJ.out.next HT.out.2.1 (HSJ.out.len ▸ HJ.out) (HTK.out.symm ▸ H4.out))⟩
        · have hltz : ¬ (j : Int) < (n0 : Int) := fun e => hlt (Int.ofNat_lt.1 e)
          have hfin := HSJ.out.fin (by rw [← HNM.out.1]; omega)
          obtain ⟨-, -, -, p3, -⟩ := HH.cells
          have hpos := List.length_pos_iff.2 HSJ.out.ne
          have hle : m0 ≤ Tj.ord.length := by rw [HNM.out.2]; exact HSJ.out.ext.ord.length_le
          have hrow := HH.ordB
          have hrw := HH.ord
          obtain ⟨h1, h2 | ⟨gv, cv, cur, hvo, hgv, hb, hcv, hm, hs, ht⟩⟩ := hrw
          · omega
          rw [hvo] at p3 hrow
          have hrl : (Tj.ord.map s'.gg).length = Tj.ord.length := List.length_map _
          obtain ⟨nl, hnl⟩ : ∃ nl, nl = Tj.ord.length := ⟨_, rfl⟩
          rw [← hnl] at hle p3 hrow hrl hcv
          rw [← hrl] at hrow
          have hcut := hrow.cut (m := m0) (by rw [hrl]; exact hle)
          rw [hrl] at hcut
          have HCUT := Lib.hid hcut
          have HF2 := Lib.hid hfin
          have hz1 : (m0 : Int) ≤ (nl : Int) := Int.ofNat_le.2 hle
          have hz2 : (m0 : Int) ≤ (cv : Int) := Int.ofNat_le.2 (Nat.le_trans hle hcv)
          have hz3 : (nl : Int) ≤ (cv : Int) := Int.ofNat_le.2 hcv
          have hz0 : (0 : Int) ≤ (m0 : Int) := Int.natCast_nonneg m0
          clear HH hlj hg hj hlt hpos hrow h1 hvo hgv hb hcut hfin hrl hm hs ht cur
          have HLE := Lib.hid (And.intro hle hcv)
          have HNL := Lib.hid hnl
          clear hle hcv hnl
          go_wp2_with fail
          all_goals
            go_ret
            refine ⟨_, rfl, ⟨s', HF2.out ▸ HSJ.out.trn⟩, ?_⟩
            rw [HF2.out, ← HNM.out.2, ← List.map_drop, ← Sh.gg_congr HSJ.out.trn.g, List.map_drop]
          · rename_i hcase
            have h1 := HLE.out
            have h2 := HNL.out
            have h3 : (Tj.ord.map s'.gg).drop m0 = [] := List.drop_eq_nil_of_le (by rw [List.length_map]; omega)
            rw [h3]
            exact ⟨_, 0, by show Value.slice _ (nl - m0) 0 = .slice _ 0 0; rw [show nl - m0 = 0 from by omega], Nat.le_refl _, fun j hj => absurd hj (by simp)⟩
          · exact HCUT.out
end
end Go.Proofs.YtdnkedifjaccoaaDoor.Ce
namespace Go.Proofs.YtdnkedifjaccoaaDoor.Ce
open Go.RowKit Go.Maps Go.Shelf Go.Lib Go.Proofs Go.Proofs.YtdnkedifjaccoaaDoor Go.Proofs.YtdnkedifjaccoaaDoorW.PrintWords Go.Proofs.YtdnkedifjaccoaaDoorW.PrintLast Go.Proofs.YtdnkedifjaccoaaDoorW.PrintMore PToken
set_option linter.unusedVariables false
set_option linter.unusedSimpArgs false
theorem info9s : (Tryd.prog.info? 9).map (fun i => (i.zero, i.size, i.bytes)) = some (some (.string ⟨#[]⟩), 1, 16) := by kernel_rfl
section
variable {X : Nat → Prop} {w w' : World} {b : Nat} {T : Tree} {s : Sh}
/-- A row of texts of one's own. -/
def StrR (w : World) (base : Nat) (v : Value) (N : List ByteArray) : Prop := Kd.R Kd.string 9 w base (fun _ => True) v N
theorem take_next {N : List ByteArray} {i : Nat} (h : i < N.length) : N.take (i + 1) = N.take i ++ [N.getD i ⟨#[]⟩] := by
  rw [List.take_add_one, List.getD_eq_getElem?_getD, List.getElem?_eq_getElem h]; rfl
theorem cell_lt {w : World} {b o : Nat} {v : Value} (h : w.cell? ⟨b, o, none⟩ = some v) : b < w.heap.size := by
  rcases Nat.lt_or_ge b w.heap.size with k | k
  · exact k
  · simp [World.cell?, Array.getElem?_eq_none k] at h
set_option maxRecDepth 100000 in
theorem named_is (w : World) (v : Value) (g : List Nat) (N : List ByteArray) (hv : ReadP w v g) (hl : N.length = g.length) (hg : g.length ≤ 1000) (hn : ∀ j, j < g.length → w.cell? ⟨g.getD j 0, 0, none⟩ = some (.string (N.getD j ⟨#[]⟩))) :
    Calls Tryd.prog 32 #[v] w fun e w' => ∃ v', e = .returned v' ∧ StrR w' w.heap.size v' N ∧ Below w.heap.size w w' := by
  obtain ⟨A, c, rfl, hc, hcell⟩ := hv
  obtain ⟨m, hm⟩ : ∃ m, m = g.length := ⟨_, rfl⟩
  have HE := Lib.hid (And.intro hcell (And.intro hn hl))
  have HM := Lib.hid hm
  have hg' : m ≤ 1000 := hm ▸ hg
  have HG := Lib.hid hg'
  rw [← hm]
  clear hcell hn hl hc hg hm hg'
  go_enter Tryd.func32, Tryd.ntmps32
  go_wp2
  go_loopg [3, 8] m (fun gk vo vi wr => ∃ i : Nat, vi = .int .i64 i ∧ i ≤ m ∧ m ≤ i + gk ∧ Hid (StrR wr w.heap.size vo (N.take i)) ∧ Hid (Below w.heap.size w wr))
  case atStart => exact ⟨0, rfl, Nat.zero_le _, by omega, Lib.hid (Kd.R_nil _ _ _ _ _), Lib.hid (Below.refl _ _)⟩
  case round =>
    obtain ⟨i, rfl, hi, hgk, HR, HB⟩ := hrel
    by_cases hlt : i < m
    · have hltz : (i : Int) < (m : Int) := Int.ofNat_lt.2 hlt
      have hlg : i < g.length := HM.out ▸ hlt
      obtain ⟨ga, o, rfl, hce⟩ := HE.out.1 i hlg
      have hnm := HE.out.2.1 i hlg
      have hlo := cell_lt hce
      have hlo2 := cell_lt hnm
      have hce2 : wr.cell? ⟨ga, o + i, none⟩ = some (.pointer (some ⟨g.getD i 0, 0, none⟩)) := (HB.out.cell (p := ⟨ga, o + i, none⟩) hlo).trans hce
      have hnm2 : wr.cell? ⟨g.getD i 0, 0, none⟩ = some (.string (N.getD i ⟨#[]⟩)) := (HB.out.cell (p := ⟨g.getD i 0, 0, none⟩) hlo2).trans hnm
      obtain ⟨gi, hgi⟩ : ∃ gi, g.getD i 0 = gi := ⟨_, rfl⟩
      rw [hgi] at hce2 hnm2
      have hlen : (N.take i).length = i := by rw [List.length_take, HE.out.2.2, ← HM.out]; omega
      have HN := Lib.hid (take_next (N := N) (i := i) (by rw [HE.out.2.2]; exact hlg))
      have HLN := Lib.hid (show ((N.take i).length + 1) * 16 ≤ 140737488355328 by rw [hlen]; have := HG.out; omega)
      obtain ⟨x, hx⟩ : ∃ x, N.getD i ⟨#[]⟩ = x := ⟨_, rfl⟩
      rw [hx] at hnm2 HN
      have hi0 : (0 : Int) ≤ (i : Int) := Int.natCast_nonneg i
      have HW := Lib.hid (wsucc i (by have := HG.out; omega))
      have HL := Lib.hid (And.intro (Nat.succ_le_of_lt hlt) (And.intro (show m - (i + 1) < gk by omega) (show m ≤ i + 1 + (m - (i + 1)) by omega)))
      obtain ⟨Ao, co, rfl⟩ := Kd.R_slice HR.out
      rw [hlen] at HLN
      clear hgi hx hce hnm hlo hlo2 hi hgk hlt hlg
      have HLE := Lib.hid hlen
      clear hlen
      go_wp2_with (first | ((with_reducible refine gate_builtin (b := .append) (xs := #[.tmp 12, .tmp 17]) rfl ?_); (try (refine gate_guard (by rfl) ?_; dsimp only)); at_builtin; refine Kd.R_append Kd.string (w0 := w) w.heap.size rfl (.tmp 12) (.tmp 17) 28 9 (.string ⟨#[]⟩) 16 rfl Tryd.underlying28 info9s rfl (by decide) (by decide) (.slice Ao (N.take i).length co) (N.take i) x [.string x] (fun _ => True) (fun _ => False) rfl rfl rfl (fun _ hk => hk.elim) (fun _ _ => trivial) HR.out HB.out HB.out.size (by rw [HLE.out]; exact HLN.out) ?_; intro v7 w7 ho hb hg hat; have HO := Lib.hid ho; have HB7 := Lib.hid hb; clear ho hb hg hat) | fail)
      go_roundg (m - (i + 1))
      case measure => exact HL.out.2.1
      case rel => exact ⟨i + 1, (by first | exact congrArg _ HW.out | rfl), HL.out.1, HL.out.2.2, Lib.hid (by unfold StrR; rw [HN.out]; exact HO.out), HB7⟩
    · have hltz : ¬ (i : Int) < (m : Int) := fun e => hlt (Int.ofNat_lt.1 e)
      have HT := Lib.hid (show N.take i = N from List.take_of_length_le (by rw [HE.out.2.2, ← HM.out]; omega))
      rw [HT.out] at HR
      clear hi hgk hlt
      go_wp2
      go_ret
      exact ⟨_, rfl, HR.out, HB.out⟩
end
end Go.Proofs.YtdnkedifjaccoaaDoor.Ce
namespace Go.Proofs.YtdnkedifjaccoaaDoor.Ce
open Go.RowKit Go.Maps Go.Shelf Go.Lib Go.Proofs Go.Proofs.YtdnkedifjaccoaaDoor Go.Proofs.YtdnkedifjaccoaaDoorW.PrintWords Go.Proofs.YtdnkedifjaccoaaDoorW.PrintLast Go.Proofs.YtdnkedifjaccoaaDoorW.PrintMore PToken
set_option linter.unusedVariables false
set_option linter.unusedSimpArgs false
section
variable {X : Nat → Prop} {w w' : World} {b : Nat} {T : Tree} {s : Sh}
theorem law9 : Keyed Tryd.prog 9 := string_keyed (by kernel_rfl)
theorem zero63 (w : World) : (zeroValue 63).run Tryd.prog w = .ok (.pointer none) w := by kernel_rfl
theorem under59 : Tryd.prog.underlying 59 = some (.map 9 63) := by kernel_rfl
theorem key9 {nm : ByteArray} (h : nm.size ≤ maxLen) : keyOf Tryd.prog 9 (.string nm) = some (.string nm.data.toList) := Go.WideMaps.keyOf_string_mk (by kernel_rfl) h
theorem optP_val (h : Tm X w b T s) (nm : ByteArray) {v : Value} {ps : List MemPlace} (hv : ptrElem v = some (.lit (.int .i64 (T.nameN s nm : Nat)), ps)) : v = .pointer (optP s (T.find nm)) := by
  unfold Tree.nameN at hv
  cases hf : T.find nm with
  | none =>
    rw [hf] at hv
    rcases ptrElem_inv hv with ⟨e, -⟩ | ⟨c, e, e2, h0⟩
    · exact e
    · have : (0 : Int) = (c : Int) := e2
      omega
  | some i =>
    rw [hf] at hv
    have h3 := (h.dom _ (h.xg i (Tree.find_some hf).1)).1
    rcases ptrElem_inv hv with ⟨e, e2⟩ | ⟨c, e, e2, h0⟩
    · have : ((s.gg i : Nat) : Int) = 0 := e2
      omega
    · have : ((s.gg i : Nat) : Int) = (c : Int) := e2
      have hc : c = s.gg i := by omega
      rw [e, hc]; rfl
/-- A look into the names. -/
theorem wpList_name {ops : Array Oper} {rest : List Oper} {o : Oper} {a : Act} {Q : Exit → Act → World → Prop} (h : Tm X w b T s) (hg : o.guard = none) (m x : Operand) (hop : o.op = Op.lookup 59 m x false)
    (hm : a.eval m = .map (some s.m)) (nm : ByteArray) (hx : a.eval x = .string nm) (hn : nm.size ≤ maxLen)
    (hK : wpList Tryd.prog ops Q rest (a.put o.dst (.pointer (optP s (T.find nm)))) w) : wpList Tryd.prog ops Q (o :: rest) a w := by
  refine wpList_plain hg fun K' hK' => ?_
  obtain ⟨n, D, -, hown, hD⟩ := h.map
  obtain ⟨v, ps, hrun, hv⟩ := hown.lookup law9 under59 (zero63 w) ptrElem_nil (key9 hn)
  rw [hD nm] at hv
  rw [optP_val h nm hv] at hrun
  unfold Oper.wp
  simp [execOp, hop, hm, hx, hrun, Result.andThen]
  exact hK' _ _ hK
theorem cnow_is (c : Nat) (n : Int) (hb : w.heap[c]? = some (.cells #[.int .i64 n, .int .i64 0, .slice none 0 0] 87 (0, 0))) : Calls Tryd.prog 35 #[.pointer (some ⟨c, 0, none⟩)] w fun e w' => e = .returned (.int .i64 n) ∧ w' = w := by
  have c0 : w.cell? ⟨c, 0, none⟩ = some (.int .i64 n) := (blk_cell hb 0).trans rfl
  clear hb
  go_enter Tryd.func35, Tryd.ntmps35
  go_wp2
  go_ret
  exact ⟨rfl, rfl⟩
theorem now_is (h : Tm X w b T s) : Calls Tryd.prog 14 #[.pointer (some ⟨b, 0, none⟩)] w fun e w' => e = .returned (.int .i64 T.now) ∧ w' = w := by
  obtain ⟨c0, -, -, -, -⟩ := h.cells
  have HC := Lib.hid (cnow_is (w := w) s.c T.now h.clock)
  clear h
  go_enter Tryd.func14, Tryd.ntmps14
  go_wp2_with (first | (go_at_call 35; refine HC.out.mono ?_; rintro _ w1 ⟨rfl, rfl⟩))
  go_ret
  exact ⟨rfl, rfl⟩
/-- The names of some tokens. -/
def Tree.namesOf (T : Tree) (l : List Nat) : List ByteArray := l.map fun i => (T.tk i).name
theorem named_of (h : Tm X w b T s) (v : Value) (l : List Nat) (hv : ReadP w v (l.map s.gg)) (hl : ∀ i ∈ l, i < T.toks.length) (hn : l.length ≤ 1000) :
    Calls Tryd.prog 32 #[v] w fun e w' => ∃ v', e = .returned v' ∧ StrR w' w.heap.size v' (T.namesOf l) ∧ Below w.heap.size w w' :=
  named_is w v (l.map s.gg) (T.namesOf l) hv (by simp [Tree.namesOf]) (by simpa using hn) (fun j hj => by
    rw [List.length_map] at hj
    rw [getD_map_lt hj, (h.tcells _ (hl _ (getD_mem hj))).1]
    simp [Tree.namesOf, List.getD_eq_getElem?_getD, List.getElem?_eq_getElem hj])
theorem names_is (h : Tm X w b T s) (hsm : T.toks.length ≤ 256) : Calls Tryd.prog 21 #[.pointer (some ⟨b, 0, none⟩)] w fun e w' => ∃ v', e = .returned v' ∧ StrR w' w.heap.size v' (T.namesOf (List.range T.toks.length)) ∧ Below w.heap.size w w' := by
  obtain ⟨-, c1, -, -, -⟩ := h.cells
  have hr := h.allB.read
  rw [h.all_gg] at hr
  have HC := Lib.hid (named_of h s.va (List.range T.toks.length) hr (fun i hi => List.mem_range.1 hi) (by rw [List.length_range]; omega))
  obtain ⟨A, c, hva, -⟩ := own_slice h.all
  rw [hva] at c1 HC
  clear h hr hva
  go_enter Tryd.func21, Tryd.ntmps21
  go_wp2_with (first | (go_at_call 32; refine HC.out.mono ?_; rintro _ w1 ⟨v, rfl, hr, hb⟩; have HR := Lib.hid hr; have HB := Lib.hid hb; clear hr hb))
  go_ret
  exact ⟨_, rfl, HR.out, HB.out⟩
theorem order_is (h : Tm X w b T s) (W : Tree.WF T) (hsm : T.toks.length ≤ 256) : Calls Tryd.prog 13 #[.pointer (some ⟨b, 0, none⟩)] w fun e w' => ∃ v', e = .returned v' ∧ StrR w' w.heap.size v' (T.namesOf T.ord) ∧ Below w.heap.size w w' := by
  obtain ⟨-, -, -, c3, -⟩ := h.cells
  have HC := Lib.hid (named_of h s.vo T.ord h.ordB.read (fun i hi => ((W.ord i).1 hi).1) (by have := ord_len W; omega))
  obtain ⟨A, c, hva, -⟩ := own_slice h.ord
  rw [hva] at c3 HC
  clear h hva W
  go_enter Tryd.func13, Tryd.ntmps13
  go_wp2_with (first | (go_at_call 32; refine HC.out.mono ?_; rintro _ w1 ⟨v, rfl, hr, hb⟩; have HR := Lib.hid hr; have HB := Lib.hid hb; clear hr hb))
  go_ret
  exact ⟨_, rfl, HR.out, HB.out⟩
theorem done_is (h : Tm X w b T s) (nm : ByteArray) (hn : nm.size ≤ maxLen) :
    Calls Tryd.prog 19 #[.pointer (some ⟨b, 0, none⟩), .string nm] w fun e w' => e = .returned (.tuple #[.bool (match T.find nm with | some i => (T.tk i).done | none => false), .int .i64 (match T.find nm with | some _ => 0 | none => 4)]) ∧ w' = w := by
  obtain ⟨-, -, c2, -, -⟩ := h.cells
  have HT := Lib.hid h
  cases hf : T.find nm with
  | none =>
    have HF := Lib.hid (show optP s (T.find nm) = none by rw [hf]; rfl)
    clear h hf
    go_enter Tryd.func19, Tryd.ntmps19
    go_wp2_with (first | (at_lookup; refine wpList_name HT.out rfl _ _ rfl rfl nm rfl hn ?_; rw [HF.out]))
    go_ret2
    exact ⟨rfl, rfl⟩
  | some i =>
    have HF := Lib.hid (show optP s (T.find nm) = some ⟨s.gg i, 0, none⟩ by rw [hf]; rfl)
    obtain ⟨-, -, -, t3, -, -⟩ := h.tcells i (Tree.find_some hf).1
    clear h hf
    go_enter Tryd.func19, Tryd.ntmps19
    go_wp2_with (first | (at_lookup; refine wpList_name HT.out rfl _ _ rfl rfl nm rfl hn ?_; rw [HF.out]))
    go_ret2
    exact ⟨rfl, rfl⟩
end
end Go.Proofs.YtdnkedifjaccoaaDoor.Ce
namespace Go.Proofs.YtdnkedifjaccoaaDoor.Ce
open Go.RowKit Go.Maps Go.Shelf Go.Lib Go.Proofs Go.Proofs.YtdnkedifjaccoaaDoor Go.Proofs.YtdnkedifjaccoaaDoorW.PrintWords Go.Proofs.YtdnkedifjaccoaaDoorW.PrintLast Go.Proofs.YtdnkedifjaccoaaDoorW.PrintMore PToken
set_option linter.unusedVariables false
set_option linter.unusedSimpArgs false
section
variable {X : Nat → Prop} {w w' : World} {b : Nat} {T : Tree} {s : Sh}
/-! ### names stay short -/
theorem NS.of {T U : Tree} (h : NS T) (hl : U.toks.length = T.toks.length) (hs : ∀ i, i < T.toks.length → (U.tk i).name = (T.tk i).name ∧ (U.tk i).par = (T.tk i).par) (hw : ∀ i, i < T.toks.length → (U.tk i).why.length ≤ 1024) : NS U := fun i hi => by
  rw [hl] at hi
  rw [(hs i hi).1, (hs i hi).2]
  exact ⟨(h i hi).1, (h i hi).2.1, hw i hi⟩
theorem NS.turn (h : NS T) {i : Nat} (hi : i < T.toks.length) {y : List S56} (hy : y.length ≤ 1024) : NS (T.turn i y) := by
  refine h.of (Tree.turn_len _ _ _) (fun j hj => ?_) (fun j hj => ?_) <;> rw [Tree.tk_turn T i j y hi] <;> by_cases e : j = i
  · subst e; rw [if_pos rfl]; exact ⟨rfl, rfl⟩
  · rw [if_neg e]; exact ⟨rfl, rfl⟩
  · subst e; rw [if_pos rfl]; exact hy
  · rw [if_neg e]; exact (h j hj).2.2
theorem why_len (h : NS T) (W : Tree.WF T) (p : Nat) : p < T.toks.length → (T.tk p).why.length ≤ 1024 := fun hp => (h p hp).2.2
theorem NS.take (h : NS T) (W : Tree.WF T) {j : Nat} (hj : j < T.toks.length) : NS (T.take j) := by
  unfold Tree.take
  by_cases hd : (T.tk j).done = true
  · rw [if_pos hd]; exact h
  · rw [if_neg hd]
    cases hf : T.first (T.tk j).par with
    | none => exact h
    | some p => exact h.turn hj (h p (Nat.lt_trans (W.par j hj p (Tree.first_some hf).2) hj)).2.2
theorem NS.sweep : ∀ (l : List Nat) {T : Tree}, NS T → Tree.WF T → (∀ j ∈ l, j < T.toks.length) → NS (T.sweep l)
  | [], T, h, _, _ => h
  | j :: r, T, h, W, hl => NS.sweep r (h.take W (hl j List.mem_cons_self)) (W.take j (hl j List.mem_cons_self)) (fun k hk => by rw [Tree.take_len]; exact hl k (List.mem_cons_of_mem _ hk))
theorem tokL_len (n : ByteArray) (c : List S56) : (tokL n c).length ≤ 1024 := by
  unfold tokL bndL
  split
  · simp
  · split
    · simp
    · split
      · simp
      · omega
theorem NS.cancel (h : NS T) (W : Tree.WF T) {i : Nat} (hi : i < T.toks.length) (c : List S56) : NS (T.cancel i c) := by
  unfold Tree.cancel
  by_cases hd : (T.tk i).done = true
  · rw [if_pos hd]; exact h
  · rw [if_neg hd]
    by_cases he : tokE c ≠ 0
    · rw [if_pos he]; exact h
    · rw [if_neg he]
      exact NS.sweep _ (h.turn hi (tokL_len _ _)) (W.turn i _ hi (by simpa using hd) (Tree.tokL_ne (Classical.not_not.1 he))) (fun j hj => by rw [Tree.turn_len]; exact List.mem_range.1 hj)
theorem NS.lates : ∀ (l : List Nat) {T : Tree}, NS T → Tree.WF T → (∀ j ∈ l, j < T.toks.length) → NS (T.lates l)
  | [], T, h, _, _ => h
  | j :: r, T, h, W, hl => NS.lates r (h.cancel W (hl j List.mem_cons_self) _) (W.cancel j _ (hl j List.mem_cons_self)) (fun k hk => by rw [Tree.cancel_len]; exact hl k (List.mem_cons_of_mem _ hk))
/-- What a call of the tree leaves: its blocks X', the others as they were. -/
structure Api (X : Nat → Prop) (w : World) (b : Nat) (T' : Tree) (X' : Nat → Prop) (w' : World) (s' : Sh) : Prop where
  sub : ∀ k, X' k → X k ∨ w.heap.size ≤ k
  tm : Tm X' w' b T' s'
  chg : Chg X w w'
  laid : LaidF w'
theorem Api.refl (h : Tm X w b T s) (hla : LaidF w) : Api X w b T X w s := ⟨fun _ h => Or.inl h, h, Chg.refl X w, hla⟩
theorem Trn.api {T' : Tree} {s' : Sh} (h : Trn X w b s T' w' s') : Api X w b T' (Upto X w w') w' s' := ⟨fun k hk => hk.elim Or.inl (fun h => Or.inr h.1), h.tm, h.chg, h.laid⟩
theorem Api.below {T' : Tree} {X' : Nat → Prop} {s' : Sh} {w2 : World} (h : Api X w b T' X' w' s') (hb : Below w'.heap.size w' w2) : Api X w b T' X' w2 s' :=
  ⟨h.sub, h.tm.below hb, h.chg.trans (Chg.of_below hb), h.laid.below hb⟩
theorem Api.trans {T1 T2 : Tree} {X1 X2 : Nat → Prop} {w1 w2 : World} {s1 s2 : Sh} (h : Api X w b T1 X1 w1 s1) (k : Api X1 w1 b T2 X2 w2 s2) : Api X w b T2 X2 w2 s2 :=
  ⟨fun q hq => (k.sub q hq).elim (h.sub q) (fun h1 => Or.inr (Nat.le_trans h.chg.size h1)), k.tm,
    ⟨k.chg.os.trans h.chg.os, k.chg.tape.trans h.chg.tape, k.chg.output.trans h.chg.output, Nat.le_trans h.chg.size k.chg.size, fun q q1 q2 => (k.chg.block q (Nat.lt_of_lt_of_le q1 h.chg.size) (fun e => (h.sub q e).elim q2 (fun h1 => absurd h1 (by omega)))).trans (h.chg.block q q1 q2)⟩, k.laid⟩
/-- A row of texts of one's own, not the tree's. -/
def StrO (X : Nat → Prop) (w : World) (base : Nat) (v : Value) (N : List ByteArray) : Prop := Kd.R Kd.string 9 w base (fun k => ¬ X k ∧ k < w.heap.size) v N
theorem StrR.out {X' : Nat → Prop} {w1 w2 : World} {v : Value} {N : List ByteArray} {base : Nat} (h : StrR w2 w1.heap.size v N) (hd : ∀ k, X' k → k < w1.heap.size) (hb : base ≤ w1.heap.size) : StrO X' w2 base v N :=
  Kd.R_lower (Kd.R_mono (Kd.R_bound h) (fun k hk => ⟨fun hx => absurd (hd k hx) (by omega), hk.2.2.1⟩)) hb
theorem StrO.nil (X' : Nat → Prop) (w : World) (base : Nat) : StrO X' w base (.slice none 0 0) [] := Kd.R_nil _ _ _ _ _
/-- The names of those cancelled since. -/
def newN (T T' : Tree) : List ByteArray := T'.namesOf (T'.ord.drop T.ord.length)
theorem newN_self (T : Tree) : newN T T = [] := by unfold newN; rw [List.drop_length]; rfl
/-- Of a call that tells whom it cancelled. -/
def Ans (X : Nat → Prop) (w : World) (b : Nat) (T T' : Tree) (er : Int) (e : Ending) (w' : World) : Prop :=
  ∃ v X' s', e = .returned (.tuple #[v, .int .i64 er]) ∧ Api X w b T' X' w' s' ∧ StrO X' w' w.heap.size v (newN T T')
def Tree.failE (T : Tree) (nm : ByteArray) : Int := match T.find nm with
  | some i => if (T.tk i).done = true then 0 else 7
  | none => 4
def Tree.failL (T : Tree) (nm : ByteArray) : List S56 := match T.find nm with
  | some i => if (T.tk i).done = true then (T.tk i).why else []
  | none => []
/-- A row of cracks of one's own. -/
def CrkR (w : World) (base : Nat) (v : Value) (l : List S56) : Prop := Kd.R k56 56 w base (fun _ => True) v l
theorem fail_is (h : Tm X w b T s) (hns : NS T) (nm : ByteArray) (hn : nm.size ≤ maxLen) :
    Calls Tryd.prog 15 #[.pointer (some ⟨b, 0, none⟩), .string nm] w fun e w' => ∃ v, e = .returned (.tuple #[v, .int .i64 (T.failE nm)]) ∧ CrkR w' w.heap.size v (T.failL nm) ∧ Below w.heap.size w w' := by
  obtain ⟨-, -, c2, -, -⟩ := h.cells
  have HT := Lib.hid h
  cases hf : T.find nm with
  | none =>
    have HF := Lib.hid (show optP s (T.find nm) = none by rw [hf]; rfl)
    rw [show T.failE nm = 4 by unfold Tree.failE; rw [hf], show T.failL nm = [] by unfold Tree.failL; rw [hf]]
    clear h hf hns
    go_enter Tryd.func15, Tryd.ntmps15
    go_wp2_with (first | (at_lookup; refine wpList_name HT.out rfl _ _ rfl rfl nm rfl hn ?_; rw [HF.out]))
    go_ret2
    exact ⟨_, rfl, Kd.R_nil _ _ _ _ _, Below.refl _ _⟩
  | some i =>
    have HF := Lib.hid (show optP s (T.find nm) = some ⟨s.gg i, 0, none⟩ by rw [hf]; rfl)
    have hi := (Tree.find_some hf).1
    obtain ⟨-, -, -, t3, t4, -⟩ := h.tcells i hi
    by_cases hd : (T.tk i).done = true
    · obtain ⟨A, c, hwv, hc, hr⟩ := Kd.R_reads (h.why i hi)
      have HC := Lib.hid (fclone_is w A c (T.tk i).why hr (by have := (hns i hi).2.2; omega))
      rw [show T.failE nm = 0 by unfold Tree.failE; rw [hf]; exact if_pos hd, show T.failL nm = (T.tk i).why by unfold Tree.failL; rw [hf]; exact if_pos hd]
      rw [hd] at t3
      rw [hwv] at t4
      clear h hf hns hi hwv hc hr hd
      go_enter Tryd.func15, Tryd.ntmps15
      go_wp2_with (first | (at_lookup; refine wpList_name HT.out rfl _ _ rfl rfl nm rfl hn ?_; rw [HF.out]) | (go_at_call 25; refine HC.out.mono ?_; rintro _ w1 ⟨v, rfl, hr, hb⟩; have HR := Lib.hid hr; have HB := Lib.hid hb; clear hr hb))
      go_ret2
      exact ⟨_, rfl, HR.out, HB.out⟩
    · rw [show T.failE nm = 7 by unfold Tree.failE; rw [hf]; exact if_neg hd, show T.failL nm = [] by unfold Tree.failL; rw [hf]; exact if_neg hd]
      have hd' : (T.tk i).done = false := by simpa using hd
      rw [hd'] at t3
      clear h hf hns hi hd hd' t4
      go_enter Tryd.func15, Tryd.ntmps15
      go_wp2_with (first | (at_lookup; refine wpList_name HT.out rfl _ _ rfl rfl nm rfl hn ?_; rw [HF.out]))
      go_ret2
      exact ⟨_, rfl, Kd.R_nil _ _ _ _ _, Below.refl _ _⟩
end
end Go.Proofs.YtdnkedifjaccoaaDoor.Ce
namespace Go.Proofs.YtdnkedifjaccoaaDoor.Ce
open Go.RowKit Go.Maps Go.Shelf Go.Lib Go.Proofs Go.Proofs.YtdnkedifjaccoaaDoor Go.Proofs.YtdnkedifjaccoaaDoorW.PrintWords Go.Proofs.YtdnkedifjaccoaaDoorW.PrintLast Go.Proofs.YtdnkedifjaccoaaDoorW.PrintMore PToken
set_option linter.unusedVariables false
set_option linter.unusedSimpArgs false
section
variable {X : Nat → Prop} {w w' : World} {b : Nat} {T : Tree} {s : Sh}
/-- cancel, and the names of those that it cancels. -/
theorem cancel_namedG (h : Tm X w b T s) (G : Tree.Good T) (hns : NS T) (hla : LaidF w) {i : Nat} (hi : i < T.toks.length) (A : Option Addr) (c : Nat) (f : List S56) (hf : Kd.C k56 w A f.length f) :
    Calls Tryd.prog 33 #[.pointer (some ⟨b, 0, none⟩), .pointer (some ⟨s.gg i, 0, none⟩), .slice A f.length c] w fun e w' => ∃ v, e = .returned v ∧ (∃ s' X', Api X w b (T.cancel i f) X' w' s') ∧
      Calls Tryd.prog 32 #[v] w' fun e w2 => ∃ v2 X' s', e = .returned v2 ∧ Api X w b (T.cancel i f) X' w2 s' ∧ StrO X' w2 w.heap.size v2 (newN T (T.cancel i f)) ∧ s'.g = s.g := by
  refine (cancel_is h G.wf G.small hns hla hi A c f hf).mono ?_
  rintro _ w1 ⟨v, s', rfl, ht, hr⟩
  refine ⟨v, rfl, ⟨s', _, ht.api⟩, ?_⟩
  have hW := G.wf.cancel i f hi
  have hlen := Tree.cancel_len T i f
  have hord : ∀ j ∈ (T.cancel i f).ord.drop T.ord.length, j < (T.cancel i f).toks.length := fun j hj => ((hW.ord j).1 (List.mem_of_mem_drop hj)).1
  have hol : ((T.cancel i f).ord.drop T.ord.length).length ≤ 1000 := by
    have h1 := ord_len hW
    have h2 := G.small
    rw [List.length_drop]
    omega
  rw [← Sh.gg_congr ht.g] at hr
  refine (named_of ht.tm v _ hr hord hol).mono ?_
  rintro _ w2 ⟨v2, rfl, hv2, hb2⟩
  exact ⟨v2, _, s', rfl, ht.api.below hb2, hv2.out (fun k hk => (ht.tm.dom k hk).2) ht.chg.size, ht.g⟩
theorem cancel_named (h : Tm X w b T s) (G : Tree.Good T) (hns : NS T) (hla : LaidF w) {i : Nat} (hi : i < T.toks.length) (A : Option Addr) (c : Nat) (f : List S56) (hf : Kd.C k56 w A f.length f) :
    Calls Tryd.prog 33 #[.pointer (some ⟨b, 0, none⟩), .pointer (some ⟨s.gg i, 0, none⟩), .slice A f.length c] w fun e w' => ∃ v, e = .returned v ∧ (∃ s' X', Api X w b (T.cancel i f) X' w' s') ∧
      Calls Tryd.prog 32 #[v] w' fun e w2 => ∃ v2 X' s', e = .returned v2 ∧ Api X w b (T.cancel i f) X' w2 s' ∧ StrO X' w2 w.heap.size v2 (newN T (T.cancel i f)) :=
  (cancel_namedG h G hns hla hi A c f hf).mono (by
    rintro _ w1 ⟨v, rfl, h1, h2⟩
    exact ⟨v, rfl, h1, h2.mono (by
      rintro _ w2 ⟨v2, X', s', rfl, h3, h4, -⟩
      exact ⟨v2, X', s', rfl, h3, h4⟩)⟩)
def Tree.cancelE (T : Tree) (nm : ByteArray) (f : List S56) : Int := match T.find nm with
  | none => 4
  | some _ => if f.length ≠ 0 ∧ checkF f ≠ 0 then 5 else 0
theorem cancelC_err {i : Nat} {f : List S56} (hc : f.length ≠ 0 ∧ checkF f ≠ 0) : T.cancel i f = T := by
  unfold Tree.cancel
  by_cases hd : (T.tk i).done = true
  · rw [if_pos hd]
  · rw [if_neg hd, if_pos (by unfold tokE; rw [if_neg hc.1]; exact hc.2)]
set_option maxRecDepth 100000 in
set_option maxHeartbeats 1000000 in
theorem Cancel_is (h : Tm X w b T s) (G : Tree.Good T) (hns : NS T) (hla : LaidF w) (nm : ByteArray) (hn : nm.size ≤ maxLen) (A : Option Addr) (c : Nat) (f : List S56) (hf : Kd.C k56 w A f.length f) :
    Calls Tryd.prog 17 #[.pointer (some ⟨b, 0, none⟩), .string nm, .slice A f.length c] w fun e w' => Ans X w b T (T.cancelC nm f) (T.cancelE nm f) e w' := by
  obtain ⟨-, -, c2, -, -⟩ := h.cells
  have HT := Lib.hid (And.intro h hla)
  cases hfi : T.find nm with
  | none =>
    have HF := Lib.hid (show optP s (T.find nm) = none by rw [hfi]; rfl)
    rw [show T.cancelC nm f = T by unfold Tree.cancelC; rw [hfi], show T.cancelE nm f = 4 by unfold Tree.cancelE; rw [hfi]]
    clear h hfi hns G hf hla
    go_enter Tryd.func17, Tryd.ntmps17
    go_wp2_with (first | (at_lookup; refine wpList_name HT.out.1 rfl _ _ rfl rfl nm rfl hn ?_; rw [HF.out]))
    go_ret2
    exact ⟨_, X, s, rfl, Api.refl HT.out.1 HT.out.2, by rw [newN_self]; exact StrO.nil _ _ _⟩
  | some i =>
    have HF := Lib.hid (show optP s (T.find nm) = some ⟨s.gg i, 0, none⟩ by rw [hfi]; rfl)
    have hi := (Tree.find_some hfi).1
    rw [show T.cancelC nm f = T.cancel i f by unfold Tree.cancelC; rw [hfi]]
    have hce : T.cancelE nm f = if f.length ≠ 0 ∧ checkF f ≠ 0 then 5 else 0 := by unfold Tree.cancelE; rw [hfi]
    by_cases h0 : f.length = 0
    · rw [hce, if_neg (fun k => k.1 h0)]
      have h0z : ¬ (0 : Int) < (f.length : Int) := by omega
      clear h0
      have HC := Lib.hid (cancel_named h G hns hla hi A c f hf)
      clear h hfi hns G hf hla hi hce
      go_enter Tryd.func17, Tryd.ntmps17
      go_wp2_with (first | (at_lookup; refine wpList_name HT.out.1 rfl _ _ rfl rfl nm rfl hn ?_; rw [HF.out]) | (go_at_call 33; refine HC.out.mono ?_; rintro _ w1 ⟨v, rfl, -, hq⟩; have HQ := Lib.hid hq; clear hq) | (go_at_call 32; refine HQ.out.mono ?_; rintro _ w2 ⟨v2, X', s', rfl, ha, hv⟩; have HA := Lib.hid (And.intro ha hv); clear ha hv))
      go_ret2
      exact ⟨_, X', s', rfl, HA.out.1, HA.out.2⟩
    · have h0z : (0 : Int) < (f.length : Int) := by omega
      have HCK := Lib.hid (fcheck_is w A c f hla hf)
      by_cases hc : checkF f = 0
      · rw [hce, if_neg (fun k => k.2 hc)]
        have HC := Lib.hid (fun w1 (hb : Below w.heap.size w w1) => cancel_named (h.below hb) G hns (hla.below hb) hi A c f (Kd.C_below hf hb))
        rw [hc] at HCK
        clear h hfi hns G hf hla hi hce h0 hc
        go_enter Tryd.func17, Tryd.ntmps17
        go_wp2_with (first | (at_lookup; refine wpList_name HT.out.1 rfl _ _ rfl rfl nm rfl hn ?_; rw [HF.out]) | (go_at_call 39; refine HCK.out.mono ?_; rintro _ w0 ⟨rfl, hb0⟩; have HB0 := Lib.hid hb0; clear hb0) | (go_at_call 33; refine (HC.out _ HB0.out).mono ?_; rintro _ w1 ⟨v, rfl, -, hq⟩; have HQ := Lib.hid hq; clear hq) | (go_at_call 32; refine HQ.out.mono ?_; rintro _ w2 ⟨v2, X', s', rfl, ha, hv⟩; have HA := Lib.hid (And.intro ha hv); clear ha hv))
        go_ret2
        exact ⟨_, X', s', rfl, (Api.below (Api.refl HT.out.1 HT.out.2) HB0.out).trans HA.out.1, Kd.R_lower HA.out.2 HB0.out.size⟩
      · rw [hce, if_pos ⟨h0, hc⟩, cancelC_err ⟨h0, hc⟩]
        have hcb : (checkF f == 0) = false := by simpa using hc
        obtain ⟨ck, hck⟩ : ∃ ck, ck = checkF f := ⟨_, rfl⟩
        rw [← hck] at hcb HCK
        clear h hfi hns G hf hla hi hce h0 hc hck
        go_enter Tryd.func17, Tryd.ntmps17
        go_wp2_with (first | (at_lookup; refine wpList_name HT.out.1 rfl _ _ rfl rfl nm rfl hn ?_; rw [HF.out]) | (go_at_call 39; refine HCK.out.mono ?_; rintro _ w0 ⟨rfl, hb0⟩; have HB0 := Lib.hid hb0; clear hb0))
        go_ret2
        exact ⟨_, X, s, rfl, Api.below (Api.refl HT.out.1 HT.out.2) HB0.out, by rw [newN_self]; exact StrO.nil _ _ _⟩
end
end Go.Proofs.YtdnkedifjaccoaaDoor.Ce
