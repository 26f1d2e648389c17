/- What stands beside a tree while it goes on: rows of one's own. -/
import Derived.Test.YtdnkedifjaccoaaDoorPh
namespace Go.Proofs.YtdnkedifjaccoaaDoor.Ce
open Go.RowKit Go.Maps Go.Shelf Go.Lib Go.Proofs Go.Proofs.YtdnkedifjaccoaaDoor Go.Proofs.YtdnkedifjaccoaaDoorW.PrintWords Go.Proofs.YtdnkedifjaccoaaDoorW.PrintLast Go.Proofs.YtdnkedifjaccoaaDoorW.PrintMore PToken
set_option linter.unusedVariables false
set_option linter.unusedSimpArgs false
section
variable {X X' : Nat → Prop} {w w' w0 : World} {b : Nat} {T T' U : Tree}
/-! ### plain -/
theorem rdOf_getD {α : Type} (d : α) (l : List α) (j : Nat) : rdOf d l (j : Int) = l.getD j d := by unfold rdOf; rw [Int.toNat_natCast]
theorem ord_mem (G : Tree.Good T) {n : ByteArray} (h : n ∈ T.namesOf T.ord) : ∃ i, T.find n = some i ∧ i < T.toks.length ∧ (T.tk i).done = true ∧ (T.tk i).name = n := by
  unfold Tree.namesOf at h
  obtain ⟨i, hi, rfl⟩ := List.mem_map.1 h
  have h1 := (G.wf.ord i).1 hi
  exact ⟨i, G.find h1.1 rfl, h1.1, h1.2, rfl⟩
theorem stays_at (G : Tree.Good T) (GU : Tree.Good U) (E : Tree.Ext T U) {n : ByteArray} (h : n ∈ T.namesOf T.ord) :
    (match U.find n with | some i => (U.tk i).done | none => false) = true ∧ (match U.find n with | some _ => (0 : Int) | none => 4) = 0 ∧ U.failE n = 0 ∧ U.failL n = T.failL n ∧ T.failE n = 0 := by
  obtain ⟨i, hf, hi, hd, hn⟩ := ord_mem G h
  have h2 := E.done i hi hd
  have hu : U.find n = some i := GU.find (Nat.lt_of_lt_of_le hi E.len) (by rw [(E.same i hi).1, hn])
  refine ⟨by rw [hu]; exact h2.1, by rw [hu], ?_, ?_, ?_⟩
  · unfold Tree.failE; rw [hu]; exact if_pos h2.1
  · unfold Tree.failL; rw [hu, hf]
    show (if (U.tk i).done = true then (U.tk i).why else []) = (if (T.tk i).done = true then (T.tk i).why else [])
    rw [if_pos h2.1, if_pos hd, h2.2]
  · unfold Tree.failE; rw [hf]; exact if_pos hd
theorem ord_prefix (G : Tree.Good T) (E : Tree.Ext T U) : (T.namesOf T.ord).length ≤ (U.namesOf U.ord).length ∧ (U.namesOf U.ord).take (T.namesOf T.ord).length = T.namesOf T.ord := by
  obtain ⟨m, hm⟩ := E.ord
  have e : U.namesOf U.ord = T.namesOf T.ord ++ U.namesOf m := by
    unfold Tree.namesOf
    rw [← hm, List.map_append]
    congr 1
    exact List.map_congr_left (fun i hi => (E.same i ((G.wf.ord i).1 hi).1).1)
  rw [e]
  exact ⟨by rw [List.length_append]; omega, List.take_left⟩
theorem failL_len (h : NS T) (n : ByteArray) : (T.failL n).length ≤ 1024 := by
  unfold Tree.failL
  cases hf : T.find n with
  | none => simp
  | some i =>
    show (if (T.tk i).done = true then (T.tk i).why else []).length ≤ 1024
    split
    · exact (h i (Tree.find_some hf).1).2.2
    · simp
theorem ord_short (h : NS T) (W : Tree.WF T) {n : ByteArray} (hn : n ∈ T.namesOf T.ord) : n.size ≤ maxLen := by
  unfold Tree.namesOf at hn
  obtain ⟨i, hi, rfl⟩ := List.mem_map.1 hn
  exact Nat.le_trans (h i ((W.ord i).1 hi).1).1 (by decide)
/-! ### rows beside the tree -/
def RowX {α : Type} (d : Kd α) (e : TypeId) (X : Nat → Prop) (w : World) (v : Value) (N : List α) : Prop := Kd.R d e w 0 (fun q => ¬ X q ∧ q < w.heap.size) v N
theorem RowX.below {α : Type} {d : Kd α} {e : TypeId} {v : Value} {N : List α} (h : RowX d e X w v N) (hb : Below w.heap.size w w') : RowX d e X w' v N :=
  Kd.R_mono (Kd.R_below h hb) (fun q hq => ⟨hq.1, Nat.lt_of_lt_of_le hq.2 hb.size⟩)
theorem RowX.api {α : Type} {d : Kd α} {e : TypeId} {v : Value} {N : List α} {s' : Sh} (h : RowX d e X w v N) (a : Api X w b T' X' w' s') : RowX d e X' w' v N :=
  Kd.R_mono (Kd.R_move h (fun q hq => a.chg.block q hq.2 hq.1)) (fun q hq => ⟨fun e => (a.sub q e).elim hq.1 (fun h3 => by have := hq.2; omega), Nat.lt_of_lt_of_le hq.2 a.chg.size⟩)
theorem RowX.of {α : Type} {d : Kd α} {e : TypeId} {v : Value} {N : List α} {base : Nat} {ok : Nat → Prop} (h : Kd.R d e w base ok v N) (hd : ∀ k, X k → k < base) : RowX d e X w v N :=
  Kd.R_lower (Kd.R_mono (Kd.R_bound h) (fun q hq => ⟨fun e => by have := hd q e; have := hq.2.1; omega, hq.2.2.1⟩)) (Nat.zero_le _)
/-- A tree that goes on, and two rows beside it. -/
structure Live (w0 w : World) (b : Nat) (X : Nat → Prop) (T : Tree) (vn : Value) (N : List ByteArray) (vl : Value) (L : List (List S56)) : Prop where
  l : ∃ s, Liv X w b T s w0.heap.size
  bel : Below w0.heap.size w0 w
  n : RowX Kd.string 9 X w vn N
  f : RowX (Kd.slice 56 k56) 38 X w vl L
variable {vn vl : Value} {N : List ByteArray} {L : List (List S56)}
theorem Live.below (h : Live w0 w b X T vn N vl L) (hb : Below w.heap.size w w') : Live w0 w' b X T vn N vl L :=
  ⟨h.l.elim fun s k => ⟨s, k.below hb⟩, h.bel.trans (hb.mono h.bel.size), h.n.below hb, h.f.below hb⟩
theorem Live.api {s' : Sh} (h : Live w0 w b X T vn N vl L) (a : Api X w b T' X' w' s') (g : Tree.Good T') (n : NS T') : Live w0 w' b X' T' vn N vl L := by
  obtain ⟨s, k⟩ := h.l
  exact ⟨⟨s', k.api a g n h.bel.size⟩, h.bel.trans (a.new_below k.new h.bel.size), h.n.api a, h.f.api a⟩
theorem Live.make (h : Live w0 w b X T vn N vl L) (nm : ByteArray) (hn : nm.size ≤ maxLen) (A : Option Addr) (c : Nat) (ps : List ByteArray) (hr : Kd.C Kd.string w A ps.length ps) (hps : ∀ p ∈ ps, p.size ≤ maxLen) :
    Calls Tryd.prog 16 #[.pointer (some ⟨b, 0, none⟩), .string nm, .slice A ps.length c] w fun e w' => e = .returned (.tuple #[.bool (T.makeB nm ps), .int .i64 (T.makeE nm ps)]) ∧ ∃ X', Live w0 w' b X' (T.makeC nm ps) vn N vl L ∧ ∀ q, q < w.heap.size → ¬ X q → w'.heap[q]? = w.heap[q]? := by
  obtain ⟨s, k⟩ := h.l
  refine (Make_is k.tm k.good k.ns k.laid nm hn A c ps hr hps).mono ?_
  rintro e w' ⟨X', s', rfl, ha⟩
  exact ⟨rfl, X', h.api ha (Tree.makeC_good k.good nm ps).1 (k.ns.makeC k.good.wf nm ps), ha.chg.block⟩
theorem Live.cancel (h : Live w0 w b X T vn N vl L) (nm : ByteArray) (hn : nm.size ≤ maxLen) (A : Option Addr) (c : Nat) (f : List S56) (hf : Kd.C k56 w A f.length f) :
    Calls Tryd.prog 17 #[.pointer (some ⟨b, 0, none⟩), .string nm, .slice A f.length c] w fun e w' => (∃ v, e = .returned (.tuple #[v, .int .i64 (T.cancelE nm f)])) ∧ ∃ X', Live w0 w' b X' (T.cancelC nm f) vn N vl L ∧ ∀ q, q < w.heap.size → ¬ X q → w'.heap[q]? = w.heap[q]? := by
  obtain ⟨s, k⟩ := h.l
  refine (Cancel_is k.tm k.good k.ns k.laid nm hn A c f hf).mono ?_
  rintro e w' ⟨v, X', s', rfl, ha, hv⟩
  exact ⟨⟨v, rfl⟩, X', h.api ha (Tree.cancelC_good k.good nm f).1 (k.ns.cancelC k.good.wf nm f), ha.chg.block⟩
theorem Live.until (h : Live w0 w b X T vn N vl L) (nm : ByteArray) (hn : nm.size ≤ maxLen) (d : Int) :
    Calls Tryd.prog 18 #[.pointer (some ⟨b, 0, none⟩), .string nm, .int .i64 d] w fun e w' => (∃ v, e = .returned (.tuple #[v, .int .i64 (T.untilE nm d)])) ∧ ∃ X', Live w0 w' b X' (T.untilC nm d) vn N vl L := by
  obtain ⟨s, k⟩ := h.l
  refine (Until_is k.tm k.good k.ns k.laid nm hn d).mono ?_
  rintro e w' ⟨v, X', s', rfl, ha, hv⟩
  exact ⟨⟨v, rfl⟩, X', h.api ha (Tree.untilC_good k.good nm d).1 (k.ns.untilC k.good.wf nm d)⟩
theorem Live.advance (h : Live w0 w b X T vn N vl L) (d : Int) :
    Calls Tryd.prog 11 #[.pointer (some ⟨b, 0, none⟩), .int .i64 d] w fun e w' => (∃ v, e = .returned (.tuple #[v, .int .i64 (T.advE d)])) ∧ ∃ X', Live w0 w' b X' (T.advC d) vn N vl L := by
  obtain ⟨s, k⟩ := h.l
  refine (Advance_is k.tm k.good k.ns k.laid d).mono ?_
  rintro e w' ⟨v, X', s', rfl, ha, hv⟩
  exact ⟨⟨v, rfl⟩, X', h.api ha (Tree.advC_good k.good d).1 (k.ns.advC k.good.wf d)⟩
theorem Live.order (h : Live w0 w b X T vn N vl L) :
    Calls Tryd.prog 13 #[.pointer (some ⟨b, 0, none⟩)] w fun e w' => ∃ A c, e = .returned (.slice A (T.namesOf T.ord).length c) ∧ (Kd.C Kd.string w' A (T.namesOf T.ord).length (T.namesOf T.ord) ∧ (T.namesOf T.ord).length ≤ c) ∧ Live w0 w' b X T vn N vl L ∧ Below w.heap.size w w' := by
  obtain ⟨s, k⟩ := h.l
  refine (order_is k.tm k.good.wf k.good.small).mono ?_
  rintro e w' ⟨v, rfl, hr, hb⟩
  obtain ⟨A, c, rfl, q1, q2⟩ := Kd.R_reads hr
  exact ⟨A, c, rfl, ⟨q2, q1⟩, h.below hb, hb⟩
theorem Live.fail (h : Live w0 w b X T vn N vl L) (nm : ByteArray) (hn : nm.size ≤ maxLen) :
    Calls Tryd.prog 15 #[.pointer (some ⟨b, 0, none⟩), .string nm] w fun e w' => ∃ A c, e = .returned (.tuple #[.slice A (T.failL nm).length c, .int .i64 (T.failE nm)]) ∧ (Kd.C k56 w' A (T.failL nm).length (T.failL nm) ∧ (T.failL nm).length ≤ c) ∧ Live w0 w' b X T vn N vl L ∧ Below w.heap.size w w' := by
  obtain ⟨s, k⟩ := h.l
  refine (fail_is k.tm k.ns nm hn).mono ?_
  rintro e w' ⟨v, rfl, hr, hb⟩
  obtain ⟨A, c, rfl, q1, q2⟩ := Kd.R_reads hr
  exact ⟨A, c, rfl, ⟨q2, q1⟩, h.below hb, hb⟩
theorem Live.done (h : Live w0 w b X T vn N vl L) (nm : ByteArray) (hn : nm.size ≤ maxLen) :
    Calls Tryd.prog 19 #[.pointer (some ⟨b, 0, none⟩), .string nm] w fun e w' => e = .returned (.tuple #[.bool (match T.find nm with | some i => (T.tk i).done | none => false), .int .i64 (match T.find nm with | some _ => 0 | none => 4)]) ∧ w' = w := by
  obtain ⟨s, k⟩ := h.l
  exact done_is k.tm nm hn
end
end Go.Proofs.YtdnkedifjaccoaaDoor.Ce
