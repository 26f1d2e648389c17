/- What the law's small words answer: texts, fails, among. The law's trial of a tree: works. The tree's invariants along its calls; rows as they are written out. The law's trial of a tree, walked. works, walked. Rows of calls, as they come in. The calls of a live tree, together. -/
import Derived.Test.YtdnkedifjaccoaaDoorMh
import Derived.Test.YtdnkedifjaccoaaDoorQ4
namespace Go.Proofs.YtdnkedifjaccoaaDoor.Ce
open Go.RowKit Go.Maps Go.Shelf Go.Lib Go.Proofs Go.Proofs.YtdnkedifjaccoaaDoor Go.Proofs.YtdnkedifjaccoaaDoorW.PrintWords Go.Proofs.YtdnkedifjaccoaaDoorW.PrintLast Go.Proofs.YtdnkedifjaccoaaDoorW.PrintMore PToken
set_option linter.unusedVariables false
set_option linter.unusedSimpArgs false
section
instance : DecidableEq S56 := fun a b => decidable_of_iff (a.f0 = b.f0 ∧ a.f1 = b.f1 ∧ a.f2 = b.f2) (by cases a; cases b; simp)
theorem bytes_eq {a b : ByteArray} (h : a.toList = b.toList) : a = b := by
  rw [ByteArray.toList_eq, ByteArray.toList_eq] at h
  cases a; cases b
  simp only [ByteArray.mk.injEq]
  exact Array.toList_inj.1 h
theorem rdOf_get {α : Type} (d : α) (l : List α) {j : Nat} (hj : j < l.length) : rdOf d l (j : Int) = l[j] := by
  unfold rdOf
  rw [Int.toNat_natCast, List.getD_eq_getElem?_getD, List.getElem?_eq_getElem hj]; rfl
theorem texts_l0 (a b : List ByteArray) (hl : a.length = b.length) (hz : a.length ≤ 1000000) : ∀ (d j : Nat), j + d = a.length → onceweblaw04_texts.l0 (d + 1) a b (a.length : Int) (j : Int) = some (decide (a.drop j = b.drop j))
  | 0, j, h => by
    unfold onceweblaw04_texts.l0
    rw [if_neg (by omega), List.drop_of_length_le (by omega), List.drop_of_length_le (by omega)]; rfl
  | d + 1, j, h => by
    have hj : j < a.length := by omega
    have hj2 : j < b.length := by omega
    unfold onceweblaw04_texts.l0
    rw [if_pos (by omega), if_pos (by omega), if_pos (by omega), if_pos (by omega), rdOf_get _ _ hj, rdOf_get _ _ hj2, List.drop_eq_getElem_cons hj, List.drop_eq_getElem_cons hj2]
    by_cases e : a[j] = b[j]
    · rw [if_pos (by rw [e]), show wrap64 ((j : Int) + 1) = ((j + 1 : Nat) : Int) from wsucc j (by omega), texts_l0 a b hl hz d (j + 1) (by omega), e]
      simp only [List.cons.injEq, true_and]
    · rw [if_neg (fun k => e (bytes_eq k))]
      simp only [List.cons.injEq, e, false_and, decide_false]
theorem texts_f (a b : List ByteArray) (hz : a.length ≤ 1000000) : onceweblaw04_texts.f (a.length + 1) a b = some (decide (a = b)) := by
  unfold onceweblaw04_texts.f
  by_cases h : a.length = b.length
  · rw [if_pos (by omega)]
    have := texts_l0 a b h hz a.length 0 (by omega)
    simpa using this
  · rw [if_neg (by omega)]
    have : a ≠ b := fun e => h (e ▸ rfl)
    simp [this]
theorem texts_is (w : World) (A B : Option Addr) (c d : Nat) (a b : List ByteArray) (ha : Kd.C Kd.string w A a.length a) (hc : a.length ≤ c) (hb : Kd.C Kd.string w B b.length b) (hd : b.length ≤ d) (hz : a.length ≤ 1000000) :
    Calls Tryd.prog 12 #[.slice A a.length c, .slice B b.length d] w fun e w' => e = .returned (.bool (decide (a = b))) ∧ Drawn0 w w' := onceweblaw04_texts.calls _ A c a B d b _ w ha hc hb hd (texts_f a b hz)
theorem fails_l0 (a b : List S56) (hl : a.length = b.length) (hz : a.length ≤ 1000000) : ∀ (d j : Nat), j + d = a.length → onceweblaw04_fails.l0 (d + 1) a b (a.length : Int) (j : Int) = some (decide (a.drop j = b.drop j))
  | 0, j, h => by
    unfold onceweblaw04_fails.l0
    rw [if_neg (by omega), List.drop_of_length_le (by omega), List.drop_of_length_le (by omega)]; rfl
  | d + 1, j, h => by
    have hj : j < a.length := by omega
    have hj2 : j < b.length := by omega
    have r1 : rd_T56 a (j : Int) = a[j] := rdOf_get _ _ hj
    have r2 : rd_T56 b (j : Int) = b[j] := rdOf_get _ _ hj2
    unfold onceweblaw04_fails.l0
    rw [if_pos (by omega), if_pos (by omega), if_pos (by omega), if_pos (by omega), r1, r2, List.drop_eq_getElem_cons hj, List.drop_eq_getElem_cons hj2]
    by_cases e : a[j] = b[j]
    · rw [if_neg (by rw [e]; simp), show wrap64 ((j : Int) + 1) = ((j + 1 : Nat) : Int) from wsucc j (by omega), fails_l0 a b hl hz d (j + 1) (by omega), e]
      simp only [List.cons.injEq, true_and]
    · rw [if_pos (by
        cases ha : a[j] with
        | mk x y z =>
        cases hb : b[j] with
        | mk x' y' z' =>
        rw [ha, hb] at e
        simp only [S56.mk.injEq] at e
        by_cases e1 : x = x'
        · by_cases e2 : y = y'
          · have e3 : z.toList ≠ z'.toList := fun k => e ⟨e1, e2, bytes_eq k⟩
            simp [e3]
          · simp [e2]
        · simp [e1])]
      simp only [List.cons.injEq, e, false_and, decide_false]
theorem fails_f (a b : List S56) (hz : a.length ≤ 1000000) : onceweblaw04_fails.f (a.length + 1) a b = some (decide (a = b)) := by
  unfold onceweblaw04_fails.f
  by_cases h : a.length = b.length
  · rw [if_pos (by omega)]
    have := fails_l0 a b h hz a.length 0 (by omega)
    simpa using this
  · rw [if_neg (by omega)]
    have : a ≠ b := fun e => h (e ▸ rfl)
    simp [this]
theorem fails_is (w : World) (A B : Option Addr) (c d : Nat) (a b : List S56) (ha : Kd.C k56 w A a.length a) (hc : a.length ≤ c) (hb : Kd.C k56 w B b.length b) (hd : b.length ≤ d) (hz : a.length ≤ 1000000) :
    Calls Tryd.prog 20 #[.slice A a.length c, .slice B b.length d] w fun e w' => e = .returned (.bool (decide (a = b))) ∧ Drawn0 w w' := onceweblaw04_fails.calls _ A c a B d b _ w ha hc hb hd (fails_f a b hz)
end
end Go.Proofs.YtdnkedifjaccoaaDoor.Ce
namespace Go.Proofs.YtdnkedifjaccoaaDoor.Ce
open Go.RowKit Go.Maps Go.Shelf Go.Lib Go.Proofs Go.Proofs.YtdnkedifjaccoaaDoor Go.Proofs.YtdnkedifjaccoaaDoorW.PrintWords Go.Proofs.YtdnkedifjaccoaaDoorW.PrintLast Go.Proofs.YtdnkedifjaccoaaDoorW.PrintMore PToken
set_option linter.unusedVariables false
set_option linter.unusedSimpArgs false
section
def wT1 : Tree := T0.makeC ⟨#[97]⟩ []
def wT2 : Tree := wT1.makeC ⟨#[98]⟩ [⟨#[97]⟩]
def wT3 : Tree := wT2.makeC ⟨#[99]⟩ [⟨#[98]⟩]
def wT4 : Tree := wT3.cancelC ⟨#[98]⟩ [⟨1, 0, ⟨#[120]⟩⟩]
theorem works_names : newN wT3 wT4 = [⟨#[98]⟩, ⟨#[99]⟩] := by decide +kernel
theorem works_e : wT3.cancelE ⟨#[98]⟩ [⟨1, 0, ⟨#[120]⟩⟩] = 0 := by decide +kernel
theorem works_fe : wT4.failE ⟨#[99]⟩ = 0 := by decide +kernel
theorem works_fl : wT4.failL ⟨#[99]⟩ = [⟨1, 0, ⟨#[120]⟩⟩, ⟨8, 1, ⟨#[98]⟩⟩] := by decide +kernel
end
end Go.Proofs.YtdnkedifjaccoaaDoor.Ce
namespace Go.Proofs.YtdnkedifjaccoaaDoor.Ce
open Go.RowKit Go.Maps Go.Shelf Go.Lib Go.Proofs Go.Proofs.YtdnkedifjaccoaaDoor Go.Proofs.YtdnkedifjaccoaaDoorW.PrintWords Go.Proofs.YtdnkedifjaccoaaDoorW.PrintLast Go.Proofs.YtdnkedifjaccoaaDoorW.PrintMore PToken
set_option linter.unusedVariables false
set_option linter.unusedSimpArgs false
section
variable {T : Tree}
theorem NS.zero : NS T0 := fun i hi => absurd hi (Nat.not_lt_zero _)
theorem NS.made (h : NS T) (W : Tree.WF T) {nm : ByteArray} {l : List Nat} (hn : nm.size ≤ 24) (hl : l.length ≤ 8) (hp : ∀ p ∈ l, p < T.toks.length) : NS (T.made nm l) := by
  have hlen : (T.add nm l).toks.length = T.toks.length + 1 := by simp [Tree.add]
  have ha : NS (T.add nm l) := fun i hi => by
    rw [Tree.tk_add]
    by_cases e : i = T.toks.length
    · rw [if_pos e]; exact ⟨hn, hl, Nat.zero_le _⟩
    · rw [if_neg e]; exact h i (by omega)
  exact ha.take (W.add nm l hp) (by omega)
theorem NS.makeC (h : NS T) (W : Tree.WF T) (nm : ByteArray) (ps : List ByteArray) : NS (T.makeC nm ps) := by
  unfold Tree.makeC
  by_cases hc : nameB nm = true ∧ T.find nm = none ∧ ps.length ≤ 8 ∧ T.toks.length < 256
  · rw [if_pos hc]
    cases hf : T.finds ps with
    | none => exact h
    | some l =>
      have hs := Tree.finds_some hf
      have hn : nm.size ≤ 24 := by
        have := hc.1
        unfold nameB at this
        simp only [Bool.and_eq_true, decide_eq_true_eq] at this
        exact this.1.1.2
      exact h.made W hn (by rw [hs.1]; exact hc.2.2.1) hs.2
  · rw [if_neg hc]; exact h
theorem NS.cancelC (h : NS T) (W : Tree.WF T) (nm : ByteArray) (c : List S56) : NS (T.cancelC nm c) := by
  unfold Tree.cancelC
  cases hf : T.find nm with
  | none => exact h
  | some i => exact h.cancel W (Tree.find_some hf).1 c
theorem NS.untilT (h : NS T) {i : Nat} (hi : i < T.toks.length) (d : Int) : NS (T.untilT i d) := by
  unfold Tree.untilT
  by_cases hc : (T.tk i).dl < 0 ∨ d < (T.tk i).dl
  · rw [if_pos hc]; exact h.setDl hi d
  · rw [if_neg hc]; exact h
theorem row_crk {w : World} {b : Nat} {l : List S56} (hm : l.length ≤ maxLen) (h : ∀ j : Nat, j < l.length → w.cell? ⟨b, j * 3, none⟩ = some (.int .i64 (rd_T56 l j).f0) ∧ w.cell? ⟨b, j * 3 + 1, none⟩ = some (.int .i64 (rd_T56 l j).f1) ∧ w.cell? ⟨b, j * 3 + 2, none⟩ = some (.string (rd_T56 l j).f2)) : Kd.C k56 w (some ⟨b, 0, none⟩) l.length l := by
  refine ⟨rfl, hm, fun _ => ⟨⟨b, 0, none⟩, rfl, fun j x hj => ?_⟩⟩
  have hlt : j < l.length := by
    rcases Nat.lt_or_ge j l.length with k | k
    · exact k
    · rw [List.getElem?_eq_none k] at hj; exact absurd hj (by simp)
  have hx : rd_T56 l j = x := by
    unfold rd_T56
    rw [Int.toNat_natCast, List.getD_eq_getElem?_getD, hj]; rfl
  obtain ⟨h0, h1, h2⟩ := h j hlt
  rw [hx] at h0 h1 h2
  refine ⟨[.int .i64 x.f0, .int .i64 x.f1, .string x.f2], rfl, k56_mk w x, fun i u hu => ?_⟩
  have ha : ∀ q, (⟨b, 0, none⟩ : Addr).add q = ⟨b, q, none⟩ := fun q => by
    by_cases e : q = 0
    · subst e; rfl
    · simp [Addr.add, e]
  show w.cell? ((⟨b, 0, none⟩ : Addr).add (j * 3 + i)) = some u
  rw [ha]
  match i, hu with
  | 0, hu => rw [← Option.some.inj hu]; exact h0
  | 1, hu => rw [← Option.some.inj hu]; exact h1
  | 2, hu => rw [← Option.some.inj hu]; exact h2
end
end Go.Proofs.YtdnkedifjaccoaaDoor.Ce
namespace Go.Proofs.YtdnkedifjaccoaaDoor.Ce
open Go.RowKit Go.Maps Go.Shelf Go.Lib Go.Proofs Go.Proofs.YtdnkedifjaccoaaDoor Go.Proofs.YtdnkedifjaccoaaDoorW.PrintWords Go.Proofs.YtdnkedifjaccoaaDoorW.PrintLast Go.Proofs.YtdnkedifjaccoaaDoorW.PrintMore PToken
set_option linter.unusedVariables false
set_option linter.unusedSimpArgs false
section
/-- A tree that is wholly there. -/
structure Liv (X : Nat → Prop) (w : World) (b : Nat) (T : Tree) (s : Sh) (B : Nat) : Prop where
  tm : Tm X w b T s
  laid : LaidF w
  good : Tree.Good T
  ns : NS T
  new : ∀ k, X k → B ≤ k
theorem Liv.api {X X' : Nat → Prop} {w w' : World} {b B : Nat} {T T' : Tree} {s s' : Sh} (h : Liv X w b T s B) (a : Api X w b T' X' w' s') (g : Tree.Good T') (n : NS T') (hB : B ≤ w.heap.size) : Liv X' w' b T' s' B :=
  ⟨a.tm, a.laid, g, n, fun k hk => (a.sub k hk).elim (h.new k) (fun e => Nat.le_trans hB e)⟩
theorem Liv.below {X : Nat → Prop} {w w' : World} {b B : Nat} {T : Tree} {s : Sh} (h : Liv X w b T s B) (hb : Below w.heap.size w w') : Liv X w' b T s B := ⟨h.tm.below hb, h.laid.below hb, h.good, h.ns, h.new⟩
/-- One text, written out. -/
theorem lit1 (W : World) (x : ByteArray) (t : TypeId) : Kd.C Kd.string (W.alloc (.cells #[.string x] t)) (some ⟨W.heap.size, 0, none⟩) [x].length [x] := by
  refine row_str (by simp [maxLen]) (fun j hj => ?_)
  have h0 : j = 0 := by simp at hj; omega
  subst h0
  exact (blk_cell (blk_new W (.cells #[.string x] t)) 0).trans rfl
theorem lit2 (W : World) (x y : ByteArray) (t : TypeId) : Kd.C Kd.string (W.alloc (.cells #[.string x, .string y] t)) (some ⟨W.heap.size, 0, none⟩) [x, y].length [x, y] := by
  refine row_str (by simp [maxLen]) (fun j hj => ?_)
  have hb := blk_new W (.cells #[.string x, .string y] t)
  match j, hj with
  | 0, _ => exact (blk_cell hb 0).trans rfl
  | 1, _ => exact (blk_cell hb 1).trans rfl
theorem crk1 (W : World) (x : S56) (t : TypeId) : Kd.C k56 (W.alloc (.cells #[.int .i64 x.f0, .int .i64 x.f1, .string x.f2] t)) (some ⟨W.heap.size, 0, none⟩) [x].length [x] := by
  refine row_crk (by simp [maxLen]) (fun j hj => ?_)
  have hb := blk_new W (.cells #[.int .i64 x.f0, .int .i64 x.f1, .string x.f2] t)
  match j, hj with
  | 0, _ => exact ⟨(blk_cell hb 0).trans rfl, (blk_cell hb 1).trans rfl, (blk_cell hb 2).trans rfl⟩
theorem crk2 (W : World) (x y : S56) (t : TypeId) : Kd.C k56 (W.alloc (.cells #[.int .i64 x.f0, .int .i64 x.f1, .string x.f2, .int .i64 y.f0, .int .i64 y.f1, .string y.f2] t)) (some ⟨W.heap.size, 0, none⟩) [x, y].length [x, y] := by
  refine row_crk (by simp [maxLen]) (fun j hj => ?_)
  have hb := blk_new W (.cells #[.int .i64 x.f0, .int .i64 x.f1, .string x.f2, .int .i64 y.f0, .int .i64 y.f1, .string y.f2] t)
  match j, hj with
  | 0, _ => exact ⟨(blk_cell hb 0).trans rfl, (blk_cell hb 1).trans rfl, (blk_cell hb 2).trans rfl⟩
  | 1, _ => exact ⟨(blk_cell hb 3).trans rfl, (blk_cell hb 4).trans rfl, (blk_cell hb 5).trans rfl⟩
theorem crkNil (W : World) : Kd.C k56 W none ([] : List S56).length [] := Kd.C_nil _ _
theorem strNil (W : World) : Kd.C Kd.string W none ([] : List ByteArray).length [] := Kd.C_nil _ _
/-- The calls, of a live tree. -/
theorem Liv.make {X : Nat → Prop} {w : World} {b B : Nat} {T : Tree} {s : Sh} (h : Liv X w b T s B) (hB : B ≤ w.heap.size) (nm : ByteArray) (hn : nm.size ≤ maxLen) (A : Option Addr) (c : Nat) (ps : List ByteArray) (hr : Kd.C Kd.string w A ps.length ps) (hps : ∀ p ∈ ps, p.size ≤ maxLen) :
    Calls Tryd.prog 16 #[.pointer (some ⟨b, 0, none⟩), .string nm, .slice A ps.length c] w fun e w' => e = .returned (.tuple #[.bool (T.makeB nm ps), .int .i64 (T.makeE nm ps)]) ∧ (∃ X' s', Liv X' w' b (T.makeC nm ps) s' B) ∧ Below B w w' := by
  refine (Make_is h.tm h.good h.ns h.laid nm hn A c ps hr hps).mono ?_
  rintro e w' ⟨X', s', rfl, ha⟩
  exact ⟨rfl, ⟨X', s', h.api ha (Tree.makeC_good h.good nm ps).1 (h.ns.makeC h.good.wf nm ps) hB⟩, ha.new_below h.new hB⟩
theorem Liv.cancel {X : Nat → Prop} {w : World} {b B : Nat} {T : Tree} {s : Sh} (h : Liv X w b T s B) (hB : B ≤ w.heap.size) (nm : ByteArray) (hn : nm.size ≤ maxLen) (A : Option Addr) (c : Nat) (f : List S56) (hf : Kd.C k56 w A f.length f) :
    Calls Tryd.prog 17 #[.pointer (some ⟨b, 0, none⟩), .string nm, .slice A f.length c] w fun e w' => ∃ v, e = .returned (.tuple #[v, .int .i64 (T.cancelE nm f)]) ∧ (∃ X' s', Liv X' w' b (T.cancelC nm f) s' B ∧ StrO X' w' w.heap.size v (newN T (T.cancelC nm f))) ∧ Below B w w' := by
  refine (Cancel_is h.tm h.good h.ns h.laid nm hn A c f hf).mono ?_
  rintro e w' ⟨v, X', s', rfl, ha, hv⟩
  exact ⟨v, rfl, ⟨X', s', h.api ha (Tree.cancelC_good h.good nm f).1 (h.ns.cancelC h.good.wf nm f) hB, hv⟩, ha.new_below h.new hB⟩
end
end Go.Proofs.YtdnkedifjaccoaaDoor.Ce
namespace Go.Proofs.YtdnkedifjaccoaaDoor.Ce
open Go.RowKit Go.Maps Go.Shelf Go.Lib Go.Proofs Go.Proofs.YtdnkedifjaccoaaDoor Go.Proofs.YtdnkedifjaccoaaDoorW.PrintWords Go.Proofs.YtdnkedifjaccoaaDoorW.PrintLast Go.Proofs.YtdnkedifjaccoaaDoorW.PrintMore PToken
set_option linter.unusedVariables false
set_option linter.unusedSimpArgs false
section
theorem size1 (x : UInt8) : (⟨#[x]⟩ : ByteArray).size ≤ maxLen := by show 1 ≤ maxLen; unfold maxLen; omega
theorem in1 {x : UInt8} : ∀ p ∈ [(⟨#[x]⟩ : ByteArray)], p.size ≤ maxLen := fun p hp => by rw [List.mem_singleton.1 hp]; exact size1 x
set_option maxHeartbeats 4000000 in
set_option maxRecDepth 100000 in
theorem works_is (w : World) (hla : LaidF w) : Calls Tryd.prog 7 #[] w fun e w' => e = .returned (.bool true) ∧ Below w.heap.size w w' := by
  have HN := Lib.hid (New_is w hla)
  have HLA := Lib.hid hla
  clear hla
  go_enter Tryd.func7, Tryd.ntmps7
  go_upto_region 4 with (first | (go_at_call 23; refine HN.out.mono ?_; rintro _ w0 ⟨b, X0, s0, rfl, hn0, ht0, hb0, hl0⟩; have H0 := Lib.hid (And.intro (show Liv X0 w0 b T0 s0 w.heap.size from ⟨ht0, hl0, Tree.Good.new, NS.zero, hn0⟩) hb0); clear hn0 ht0 hb0 hl0) | fail)
  go_upto_region 5 with (first | (go_at_call 16; refine (H0.out.1.make H0.out.2.size ⟨#[97]⟩ (size1 97) none 0 [] (strNil _) (fun p hp => by simp at hp)).mono ?_; rintro _ w1 ⟨rfl, ⟨X1, s1, h1⟩, hb1⟩; have H1 := Lib.hid (And.intro (show Liv X1 w1 b wT1 s1 w.heap.size from h1) (H0.out.2.trans hb1)); clear h1 hb1) | fail)
  have HA1 := Lib.hid (fun (x : ByteArray) (t : TypeId) => (Below.refl w1.heap.size w1).alloc (Nat.le_refl _) (.cells #[.string x] t))
  go_upto_region 6 with (first | (go_at_call 16; refine ((H1.out.1.below (HA1.out _ _)).make (Nat.le_trans H1.out.2.size (HA1.out _ _).size) ⟨#[98]⟩ (size1 98) _ _ [⟨#[97]⟩] (lit1 w1 ⟨#[97]⟩ _) in1).mono ?_; rintro _ w2 ⟨rfl, ⟨X2, s2, h2⟩, hb2⟩; have H2 := Lib.hid (And.intro (show Liv X2 w2 b wT2 s2 w.heap.size from h2) ((H1.out.2.trans ((HA1.out _ _).mono H1.out.2.size)).trans hb2)); clear h2 hb2) | fail)
  have HA2 := Lib.hid (fun (x : ByteArray) (t : TypeId) => (Below.refl w2.heap.size w2).alloc (Nat.le_refl _) (.cells #[.string x] t))
  go_upto_region 7 with (first | (go_at_call 16; refine ((H2.out.1.below (HA2.out _ _)).make (Nat.le_trans H2.out.2.size (HA2.out _ _).size) ⟨#[99]⟩ (size1 99) _ _ [⟨#[98]⟩] (lit1 w2 ⟨#[98]⟩ _) in1).mono ?_; rintro _ w3 ⟨rfl, ⟨X3, s3, h3⟩, hb3⟩; have H3 := Lib.hid (And.intro (show Liv X3 w3 b wT3 s3 w.heap.size from h3) ((H2.out.2.trans ((HA2.out _ _).mono H2.out.2.size)).trans hb3)); clear h3 hb3) | fail)
  have HA3 := Lib.hid (fun (t : TypeId) => (Below.refl w3.heap.size w3).alloc (Nat.le_refl _) (.cells #[.int .i64 1, .int .i64 0, .string ⟨#[120]⟩] t))
  go_upto_region 8 with (first | (go_at_call 17; refine ((H3.out.1.below (HA3.out _)).cancel (Nat.le_trans H3.out.2.size (HA3.out _).size) ⟨#[98]⟩ (size1 98) _ _ [⟨1, 0, ⟨#[120]⟩⟩] (crk1 w3 ⟨1, 0, ⟨#[120]⟩⟩ _)).mono ?_; rintro _ w4 ⟨v4, rfl, ⟨X4, s4, h4, hv4⟩, hb4⟩; have H4 := Lib.hid (And.intro (show Liv X4 w4 b wT4 s4 w.heap.size from h4) ((H3.out.2.trans ((HA3.out _).mono H3.out.2.size)).trans hb4)); have hv4' := hv4; rw [show newN wT3 (wT3.cancelC ⟨#[98]⟩ [⟨1, 0, ⟨#[120]⟩⟩]) = [⟨#[98]⟩, ⟨#[99]⟩] from works_names] at hv4'; obtain ⟨A4, c4, rfl, hc4, hr4⟩ := Kd.R_reads hv4'; have HR4 := Lib.hid (And.intro hc4 hr4); rw [show wT3.cancelE ⟨#[98]⟩ [⟨1, 0, ⟨#[120]⟩⟩] = 0 from works_e]; clear h4 hb4 hv4 hv4' hc4 hr4) | fail)
  go_upto_region 9 with (first | (go_at_call 15; refine (fail_is H4.out.1.tm H4.out.1.ns ⟨#[99]⟩ (size1 99)).mono ?_; rintro _ w5 ⟨v5, rfl, hv5, hb5⟩; have hv5' := hv5; rw [works_fl] at hv5'; obtain ⟨A5, c5, rfl, hc5, hr5⟩ := Kd.R_reads hv5'; have HR5 := Lib.hid (And.intro hc5 (And.intro hr5 (And.intro (H4.out.2.trans (hb5.mono H4.out.2.size)) (Kd.C_below HR4.out.2 hb5)))); rw [works_fe]; clear hv5 hv5' hb5 hc5 hr5) | fail)
  have HA5 := Lib.hid (fun (t : TypeId) => (Below.refl w5.heap.size w5).alloc (Nat.le_refl _) (.cells #[.string ⟨#[98]⟩, .string ⟨#[99]⟩] t))
  go_wp2_with (first | (go_at_call 12; refine (texts_is _ A4 (some ⟨w5.heap.size, 0, none⟩) c4 2 [⟨#[98]⟩, ⟨#[99]⟩] [⟨#[98]⟩, ⟨#[99]⟩] (Kd.C_below HR5.out.2.2.2 (HA5.out _)) HR4.out.1 (lit2 w5 _ _ _) (Nat.le_refl _) (by decide)).mono ?_; rintro _ w6 ⟨rfl, ⟨n6, hw6⟩⟩; rw [decide_eq_true (p := ([⟨#[98]⟩, ⟨#[99]⟩] : List ByteArray) = [⟨#[98]⟩, ⟨#[99]⟩]) rfl]; have H6 := Lib.hid (show Below w5.heap.size w5 w6 from by rw [hw6]; exact pw_below_drewN (HA5.out _) n6); clear hw6) | (go_at_call 20; refine (fails_is _ A5 (some ⟨w6.heap.size, 0, none⟩) c5 2 [⟨1, 0, ⟨#[120]⟩⟩, ⟨8, 1, ⟨#[98]⟩⟩] [⟨1, 0, ⟨#[120]⟩⟩, ⟨8, 1, ⟨#[98]⟩⟩] (Kd.C_below HR5.out.2.1 (H6.out.alloc H6.out.size _)) HR5.out.1 (crk2 w6 ⟨1, 0, ⟨#[120]⟩⟩ ⟨8, 1, ⟨#[98]⟩⟩ _) (Nat.le_refl _) (by decide)).mono ?_; rintro _ w7 ⟨rfl, ⟨n7, hw7⟩⟩; rw [decide_eq_true (p := ([⟨1, 0, ⟨#[120]⟩⟩, ⟨8, 1, ⟨#[98]⟩⟩] : List S56) = [⟨1, 0, ⟨#[120]⟩⟩, ⟨8, 1, ⟨#[98]⟩⟩]) rfl]; have H7 := Lib.hid (show Below w5.heap.size w5 w7 from by rw [hw7]; exact pw_below_drewN (H6.out.alloc H6.out.size _) n7); clear hw7) | fail)
  go_ret
  exact ⟨rfl, HR5.out.2.2.1.trans (H7.out.mono HR5.out.2.2.1.size)⟩
end
end Go.Proofs.YtdnkedifjaccoaaDoor.Ce
namespace Go.Proofs.YtdnkedifjaccoaaDoor.Ce
open Go.RowKit Go.Maps Go.Shelf Go.Lib Go.Proofs Go.Proofs.YtdnkedifjaccoaaDoor Go.Proofs.YtdnkedifjaccoaaDoorW.PrintWords Go.Proofs.YtdnkedifjaccoaaDoorW.PrintLast Go.Proofs.YtdnkedifjaccoaaDoorW.PrintMore PToken
set_option linter.unusedVariables false
set_option linter.unusedSimpArgs false
section
def zC : CallV := ⟨0, 0, ⟨#[]⟩, [], []⟩
def kC : Kd CallV := Kd.iso (Kd.pair (Kd.int .i64) (Kd.pair (Kd.int .i64) (Kd.pair Kd.string (Kd.pair (Kd.slice 9 Kd.string) (Kd.slice 56 k56))))) (fun x : CallV => (x.kind, x.n, x.name, x.names, x.cause))
theorem kC_open {w : World} {x : CallV} {cs : List Value} (h : kC.K w x cs) : ∃ A0 c0 A1 c1, cs = [.int .i64 x.kind, .int .i64 x.n, .string x.name, .slice A0 x.names.length c0, .slice A1 x.cause.length c1] ∧ x.names.length ≤ c0 ∧ Kd.string.C w A0 x.names.length x.names ∧ x.cause.length ≤ c1 ∧ k56.C w A1 x.cause.length x.cause := by
  obtain ⟨_, _, rfl, rfl, ⟨_, _, rfl, rfl, ⟨_, _, rfl, rfl, ⟨_, _, rfl, ⟨A0, c0, rfl, l0, g0⟩, ⟨A1, c1, rfl, l1, g1⟩⟩⟩⟩⟩ := h
  exact ⟨A0, c0, A1, c1, rfl, l0, g0, l1, g1⟩
def rdC (xs : List CallV) (i : Int) : CallV := xs.getD i.toNat zC
theorem at_C {w : World} {A : Option Addr} {n : Nat} {xs : List CallV} (h : Kd.C kC w A n xs) (i : Int) (h0 : 0 ≤ i) (h1 : i < n) : ∃ ad A0 c0 A1 c1, A = some ad ∧ w.cell? (ad.add (i.toNat * 5)) = some (.int .i64 (rdC xs i).kind) ∧ w.cell? ⟨(ad.add (i.toNat * 5)).block, (ad.add (i.toNat * 5)).off + 1, none⟩ = some (.int .i64 (rdC xs i).n) ∧ w.cell? ⟨(ad.add (i.toNat * 5)).block, (ad.add (i.toNat * 5)).off + 2, none⟩ = some (.string (rdC xs i).name)
    ∧ w.cell? ⟨(ad.add (i.toNat * 5)).block, (ad.add (i.toNat * 5)).off + 3, none⟩ = some (.slice A0 (rdC xs i).names.length c0) ∧ w.cell? ⟨(ad.add (i.toNat * 5)).block, (ad.add (i.toNat * 5)).off + 4, none⟩ = some (.slice A1 (rdC xs i).cause.length c1)
    ∧ (rdC xs i).names.length ≤ c0 ∧ Kd.string.C w A0 (rdC xs i).names.length (rdC xs i).names ∧ (rdC xs i).cause.length ≤ c1 ∧ k56.C w A1 (rdC xs i).cause.length (rdC xs i).cause := by
  obtain ⟨ad, c, e, _, hK, hc0⟩ := Kd.C_get h zC i h0 h1
  have hc : ∀ j u, c[j]? = some u → w.cell? (ad.add (i.toNat * 5 + j)) = some u := hc0
  obtain ⟨A0, c0, A1, c1, rfl, l0, g0, l1, g1⟩ := kC_open hK
  exact ⟨ad, A0, c0, A1, c1, e, hc 0 _ rfl, by rw [← add_field _ _ 1 (by omega)]; exact hc 1 _ rfl, by rw [← add_field _ _ 2 (by omega)]; exact hc 2 _ rfl, by rw [← add_field _ _ 3 (by omega)]; exact hc 3 _ rfl, by rw [← add_field _ _ 4 (by omega)]; exact hc 4 _ rfl, l0, g0, l1, g1⟩
end
end Go.Proofs.YtdnkedifjaccoaaDoor.Ce
namespace Go.Proofs.YtdnkedifjaccoaaDoor.Ce
open Go.RowKit Go.Maps Go.Shelf Go.Lib Go.Proofs Go.Proofs.YtdnkedifjaccoaaDoor Go.Proofs.YtdnkedifjaccoaaDoorW.PrintWords Go.Proofs.YtdnkedifjaccoaaDoorW.PrintLast Go.Proofs.YtdnkedifjaccoaaDoorW.PrintMore PToken
set_option linter.unusedVariables false
set_option linter.unusedSimpArgs false
section
variable {T : Tree}
theorem NS.tick (h : NS T) (W : Tree.WF T) (k : Int) : NS (T.tick k) :=
  show NS (T.lates (T.dueL (T.now + k))) from NS.lates _ h W (fun j hj => (Tree.dueL_is T (T.now + k)).lt j hj)
theorem NS.advC (h : NS T) (W : Tree.WF T) (k : Int) : NS (T.advC k) := by
  unfold Tree.advC
  by_cases hc : k < 0 ∨ k > 1099511627776 - T.now
  · rw [if_pos hc]; exact h
  · rw [if_neg hc]; exact h.tick W k
theorem untilT_wf (W : Tree.WF T) {i : Nat} (hi : i < T.toks.length) (d : Int) : Tree.WF (T.untilT i d) ∧ (T.untilT i d).toks.length = T.toks.length := by
  unfold Tree.untilT
  by_cases hc : (T.tk i).dl < 0 ∨ d < (T.tk i).dl
  · rw [if_pos hc]; exact ⟨W.setDl i d hi, Tree.setDl_len T i d⟩
  · rw [if_neg hc]; exact ⟨W, rfl⟩
theorem NS.untilC (h : NS T) (W : Tree.WF T) (nm : ByteArray) (d : Int) : NS (T.untilC nm d) := by
  unfold Tree.untilC
  cases hf : T.find nm with
  | none => exact h
  | some i =>
    have hi := (Tree.find_some hf).1
    simp only
    by_cases hc : d < 0 ∨ d > 1099511627776
    · rw [if_pos hc]; exact h
    · rw [if_neg hc]
      by_cases h2 : ((T.untilT i d).tk i).dl > T.now
      · rw [if_pos h2]; exact h.untilT hi d
      · rw [if_neg h2]
        have hw := untilT_wf W hi d
        exact (h.untilT hi d).cancel hw.1 (by rw [hw.2]; exact hi) _
theorem Liv.until {X : Nat → Prop} {w : World} {b B : Nat} {s : Sh} (h : Liv X w b T s B) (hB : B ≤ w.heap.size) (nm : ByteArray) (hn : nm.size ≤ maxLen) (d : Int) :
    Calls Tryd.prog 18 #[.pointer (some ⟨b, 0, none⟩), .string nm, .int .i64 d] w fun e w' => ∃ v, e = .returned (.tuple #[v, .int .i64 (T.untilE nm d)]) ∧ (∃ X' s', Liv X' w' b (T.untilC nm d) s' B ∧ StrO X' w' w.heap.size v (newN T (T.untilC nm d))) ∧ Below B w w' := by
  refine (Until_is h.tm h.good h.ns h.laid nm hn d).mono ?_
  rintro e w' ⟨v, X', s', rfl, ha, hv⟩
  exact ⟨v, rfl, ⟨X', s', h.api ha (Tree.untilC_good h.good nm d).1 (h.ns.untilC h.good.wf nm d) hB, hv⟩, ha.new_below h.new hB⟩
theorem Liv.advance {X : Nat → Prop} {w : World} {b B : Nat} {s : Sh} (h : Liv X w b T s B) (hB : B ≤ w.heap.size) (k : Int) :
    Calls Tryd.prog 11 #[.pointer (some ⟨b, 0, none⟩), .int .i64 k] w fun e w' => ∃ v, e = .returned (.tuple #[v, .int .i64 (T.advE k)]) ∧ (∃ X' s', Liv X' w' b (T.advC k) s' B ∧ StrO X' w' w.heap.size v (newN T (T.advC k))) ∧ Below B w w' := by
  refine (Advance_is h.tm h.good h.ns h.laid k).mono ?_
  rintro e w' ⟨v, X', s', rfl, ha, hv⟩
  exact ⟨v, rfl, ⟨X', s', h.api ha (Tree.advC_good h.good k).1 (h.ns.advC h.good.wf k) hB, hv⟩, ha.new_below h.new hB⟩
theorem Liv.clone {X : Nat → Prop} {w : World} {b B : Nat} {s : Sh} (h : Liv X w b T s B) (hB : B ≤ w.heap.size) :
    Calls Tryd.prog 9 #[.pointer (some ⟨b, 0, none⟩)] w fun e w' => ∃ b2 X2 s2, e = .returned (.pointer (some ⟨b2, 0, none⟩)) ∧ Liv X2 w' b2 T s2 w.heap.size ∧ Below w.heap.size w w' := by
  refine (Clone_is h.tm h.good h.ns h.laid).mono ?_
  rintro e w' ⟨b2, X2, s2, rfl, hn, ht, hb, hl⟩
  exact ⟨b2, X2, s2, rfl, ⟨ht, hl, h.good, h.ns, hn⟩, hb⟩
theorem Liv.lower {X : Nat → Prop} {w : World} {b B B' : Nat} {s : Sh} (h : Liv X w b T s B) (hB : B' ≤ B) : Liv X w b T s B' := ⟨h.tm, h.laid, h.good, h.ns, fun k hk => Nat.le_trans hB (h.new k hk)⟩
end
end Go.Proofs.YtdnkedifjaccoaaDoor.Ce
