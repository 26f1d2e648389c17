/- Limit, walked; what a limit says of the time that goes by; two rows that grow side by side. -/
import Derived.Test.YtdnkedifjaccoaaDoorLl
import Derived.Test.YtdnkedifjaccoaaDoorHq
namespace Go.Proofs.YtdnkedifjaccoaaDoor.Ce
open Go.RowKit Go.Maps Go.Shelf Go.Lib Go.Proofs Go.Proofs.YtdnkedifjaccoaaDoor Go.Proofs.YtdnkedifjaccoaaDoorW.PrintWords Go.Proofs.YtdnkedifjaccoaaDoorW.PrintLast Go.Proofs.YtdnkedifjaccoaaDoorW.PrintMore PToken
set_option linter.unusedVariables false
set_option linter.unusedSimpArgs false
section
variable {X : Nat → Prop} {w w' w0 : World} {b : Nat} {T : Tree} {s : Sh}
/-! ### plain -/
/-- A live token, and a limit of it: behind it, it is cancelled. -/
def LimOK (T : Tree) (x : ByteArray) (v : Int) : Prop := ∃ i, T.find x = some i ∧ (T.tk i).done = false ∧ ∀ now : Int, now ≤ 1099511627776 → (v ≤ now ↔ ∃ y, Tree.Anc T y i ∧ 0 ≤ (T.tk y).dl ∧ (T.tk y).dl ≤ now)
theorem lim_none {i : Nat} {x : ByteArray} {S : List Nat} {n : Int} (h : Tree.LimP T i [] (-1) S n) (hf : T.find x = some i) (hd : (T.tk i).done = false) (hn : n < 0) : LimOK T x 1099511627777 :=
  ⟨i, hf, hd, fun now hnow => by rw [← h.iff now]; omega⟩
theorem lim_some {i : Nat} {x : ByteArray} {S : List Nat} {n : Int} (h : Tree.LimP T i [] (-1) S n) (hf : T.find x = some i) (hd : (T.tk i).done = false) (hn : ¬ n < 0) : LimOK T x n :=
  ⟨i, hf, hd, fun now hnow => by rw [← h.iff now]; omega⟩
theorem lim_adv (G : Tree.Good T) {x : ByteArray} {v k : Int} (h : LimOK T x v) :
    ∃ i, (T.advC k).find x = some i ∧ ((T.advC k).tk i).done = (decide (T.advE k = 0) && decide (v ≤ (T.advC k).now)) := by
  obtain ⟨i, hf, hd, hl⟩ := h
  have hi := Tree.find_some hf
  have hA := Tree.advC_good G k
  have hfu : (T.advC k).find x = some i := hA.1.find (Nat.lt_of_lt_of_le hi.1 hA.2.len) (by rw [(hA.2.same i hi.1).1, hi.2])
  refine ⟨i, hfu, ?_⟩
  by_cases hc : k < 0 ∨ k > 1099511627776 - T.now
  · have e1 : T.advE k = 1 := by unfold Tree.advE; exact if_pos hc
    have e2 : T.advC k = T := by unfold Tree.advC; exact if_pos hc
    rw [e1, e2, hd]; rfl
  · have e1 : T.advE k = 0 := by unfold Tree.advE; exact if_neg hc
    have e2 : T.advC k = T.tick k := by unfold Tree.advC; exact if_neg hc
    have hL := Tree.lates_limits (l := T.dueL (T.now + k)) (now := T.now + k) G.wf G.cl (Tree.dueL_is T (T.now + k)) i hi.1 hd
    have hV := hl (T.now + k) (by omega)
    rw [e1, e2]
    have e3 : ((T.tick k).tk i).done = ((T.lates (T.dueL (T.now + k))).tk i).done := rfl
    have e4 : (T.tick k).now = T.now + k := rfl
    rw [e3, e4]
    by_cases hv : v ≤ T.now + k
    · rw [decide_eq_true hv, hL.2 (hV.1 hv)]; rfl
    · rw [decide_eq_false hv]
      cases hq : ((T.lates (T.dueL (T.now + k))).tk i).done with
      | false => rfl
      | true => exact absurd (hV.2 (hL.1 hq)) hv
/-! ### Limit -/
theorem seen_nil (w : World) : Seen (w.alloc (.map #[] 0)) w.heap.size [] := ⟨#[], 0, blk_new w _, rfl⟩
set_option maxHeartbeats 4000000 in
set_option maxRecDepth 100000 in
theorem Limit_is (h : Tm X w b T s) (G : Tree.Good T) (nm : ByteArray) (hn : nm.size ≤ maxLen) {i : Nat} (hf : T.find nm = some i) :
    Calls Tryd.prog 22 #[.pointer (some ⟨b, 0, none⟩), .string nm] w fun e w' => ∃ n : Int, e = .returned (.tuple #[.int .i64 (if n < 0 then 0 else n), .bool (decide (0 ≤ n)), .int .i64 0]) ∧ (∃ S, Tree.LimP T i [] (-1) S n) ∧ Below w.heap.size w w' := by
  have hi := (Tree.find_some hf).1
  obtain ⟨-, -, c2, -, -⟩ := h.cells
  have HT := Lib.hid h
  have HF := Lib.hid (show optP s (T.find nm) = some ⟨s.gg i, 0, none⟩ by rw [hf]; rfl)
  have hb : Below w.heap.size w (w.alloc (.map #[] 0)) := (Below.refl _ w).alloc (Nat.le_refl _) _
  have HC := Lib.hid (limits_is (b := b) G.wf G.pars w.heap.size i hi (w.alloc (.map #[] 0)) [] (-1) ⟨h.below hb, fun e => Nat.lt_irrefl _ (h.dom _ e).2, seen_nil w, fun y hy => absurd hy List.not_mem_nil⟩)
  have HB := Lib.hid hb
  clear hi h G hf hb
  have hmm := @run_makeMap Tryd.prog
  go_enter Tryd.func22, Tryd.ntmps22
  go_upto_region 5 with (first | (at_lookup; refine wpList_name HT.out rfl _ _ rfl rfl nm rfl hn ?_; rw [HF.out]) | (go_at_call 40; refine HC.out.mono ?_; rintro _ w1 ⟨S', n, rfl, hp, -, hc⟩; have H1 := Lib.hid (And.intro hp (Chg.below HB.out hc (fun k hk => Nat.le_of_eq hk.symm) HB.out.size)); clear hp hc) | fail)
  by_cases hn0 : n < 0
  · go_wp2_with fail
    go_ret3
    exact ⟨n, by rw [if_pos (by omega), decide_eq_false (by omega)]; rfl, ⟨S', H1.out.1⟩, H1.out.2⟩
  · go_wp2_with fail
    go_ret3
    exact ⟨n, by rw [if_neg (by omega), decide_eq_true (by omega)]; rfl, ⟨S', H1.out.1⟩, H1.out.2⟩
end
end Go.Proofs.YtdnkedifjaccoaaDoor.Ce
