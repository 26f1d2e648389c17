/- A map from tokens to how often they were seen: its look-up and its update. -/
import Derived.Test.YtdnkedifjaccoaaDoorPb
namespace Go.Proofs.YtdnkedifjaccoaaDoor.Ce
open Go.RowKit Go.Maps Go.Proofs.YtdnkedifjaccoaaDoor Go.Proofs.YtdnkedifjaccoaaDoorW.PrintWords Go.Proofs.YtdnkedifjaccoaaDoorW.PrintLast Go.Proofs.YtdnkedifjaccoaaDoorW.PrintMore PToken
set_option linter.unusedVariables false
set_option linter.unusedSimpArgs false
section
variable {w w' : World}
theorem under83 : Tryd.prog.underlying 83 = some (.map 63 3) := by kernel_rfl
theorem zero3 (w : World) : (zeroValue 3).run Tryd.prog w = .ok (.int .i64 0) w := by kernel_rfl
theorem equal_pt {x y : Nat} (hx : IsTok w x) (hy : IsTok w y) : (Op.equal 63 (pt x) (pt y)).run Tryd.prog w = .ok (decide (x = y)) w := by
  have h := eql_pt hx hy
  unfold pt
  simp only [binOp] at h
  cases hr : (Op.equal 63 (.pointer (some ⟨x, 0, none⟩)) (.pointer (some ⟨y, 0, none⟩))).run Tryd.prog w with
  | ok v w1 =>
    simp [hr, Result.andThen] at h
    rw [h.1, h.2]
  | _ => simp [hr, Result.andThen] at h
theorem find_pt {x : Nat} (hx : IsTok w x) : ∀ (l : List MapEntry) (S : List Nat) (i : Nat), l.map (fun e => (e.key, e.val)) = S.map (fun y => (pt y, Value.int .i64 1)) → (∀ y ∈ S, IsTok w y) →
    (x ∉ S → (Instr.findAsking 63 (pt x) l i).run Tryd.prog w = .ok none w) ∧ (x ∈ S → ∃ j, (Instr.findAsking 63 (pt x) l i).run Tryd.prog w = .ok (some (j, .int .i64 1)) w)
  | [], [], i, _, _ => ⟨fun _ => by simp [Instr.findAsking], fun h => by simp at h⟩
  | [], _ :: _, _, h, _ => by simp at h
  | _ :: _, [], _, h, _ => by simp at h
  | e :: l, y :: S, i, h, hS => by
    simp only [List.map_cons, List.cons.injEq, Prod.mk.injEq] at h
    obtain ⟨⟨h1, h2⟩, h3⟩ := h
    have ih := find_pt hx l S (i + 1) h3 (fun z hz => hS z (List.mem_cons_of_mem _ hz))
    have he := equal_pt hx (hS y List.mem_cons_self)
    by_cases hxy : x = y
    · refine ⟨fun k => absurd (by rw [hxy]; exact List.mem_cons_self) k, fun _ => ⟨i, ?_⟩⟩
      rw [decide_eq_true hxy] at he
      simp [Instr.findAsking, h1, h2, he, Result.andThen]
    · rw [decide_eq_false hxy] at he
      refine ⟨fun k => ?_, fun k => ?_⟩
      · simp [Instr.findAsking, h1, he, Result.andThen, ih.1 (fun hm => k (List.mem_cons_of_mem _ hm))]
      · obtain ⟨j, hj⟩ := ih.2 ((List.mem_cons.1 k).resolve_left hxy)
        exact ⟨j, by simp [Instr.findAsking, h1, he, Result.andThen, hj]⟩
theorem key_pt {x : Nat} (hx : IsTok w x) (l : List MapEntry) (S : List Nat) (h : l.map (fun e => (e.key, e.val)) = S.map (fun y => (pt y, Value.int .i64 1))) (hS : ∀ y ∈ S, IsTok w y) :
    (x ∉ S → (Instr.findKey 63 (pt x) l).run Tryd.prog w = .ok none w) ∧ (x ∈ S → ∃ j, (Instr.findKey 63 (pt x) l).run Tryd.prog w = .ok (some (j, .int .i64 1)) w) := by
  cases l with
  | nil =>
    have hS0 : S = [] := by cases S with
      | nil => rfl
      | cons a r => simp at h
    subst hS0
    exact ⟨fun _ => by simp [Instr.findKey, run_underlying under63, Instr.findNow, Result.andThen], fun k => by simp at k⟩
  | cons e r =>
    have hn : Instr.findNow (.pointer 65) (pt x) (e :: r) 0 = none := by
      have : Instr.sameNow (.pointer 65) (pt x) e.key = none := by unfold Instr.sameNow; split <;> simp_all
      simp [Instr.findNow, this]
    have hf := find_pt hx (e :: r) S 0 h hS
    have he : ∀ (a : Option (Nat × Value)), (Instr.findAsking 63 (pt x) (e :: r)).run Tryd.prog w = .ok a w → (Instr.findKey 63 (pt x) (e :: r)).run Tryd.prog w = .ok a w := fun a ha => by
      simp [Instr.findKey, run_underlying under63, hn, Result.andThen, ha]
    exact ⟨fun k => he _ (hf.1 k), fun k => (hf.2 k).elim fun j hj => ⟨j, he _ hj⟩⟩
/-- A map that holds some tokens' blocks, each once. -/
def Seen (w : World) (m : Nat) (S : List Nat) : Prop := ∃ es clock, w.heap[m]? = some (.map es clock) ∧ es.toList.map (fun e => (e.key, e.val)) = S.map (fun y => (pt y, Value.int .i64 1))
theorem Seen.move {m : Nat} {S : List Nat} (h : Seen w m S) (hm : w'.heap[m]? = w.heap[m]?) : Seen w' m S := by
  obtain ⟨es, clock, h1, h2⟩ := h
  exact ⟨es, clock, hm.trans h1, h2⟩
theorem check_pt (x : Nat) (em : Bool) : (Instr.checkKey em 10000 63 (pt x)).run Tryd.prog w = .ok () w := by
  unfold pt
  rw [show (10000 : Nat) = 9999 + 1 from rfl]
  unfold Instr.checkKey
  simp [run_underlying under63, Result.andThen]
theorem stays_pt (x : Nat) : (Instr.keyThatStays (pt x) (pt x)).run Tryd.prog w = .ok (pt x) w := by
  unfold Instr.keyThatStays pt
  rw [show (10000 : Nat) = 9999 + 1 from rfl]
  simp [Instr.sameBits]
theorem seen_lookup {m x : Nat} {S : List Nat} (h : Seen w m S) (hx : IsTok w x) (hS : ∀ y ∈ S, IsTok w y) : (Instr.lookup 83 (.map (some m)) (pt x) false).run Tryd.prog w = .ok (.int .i64 (if x ∈ S then 1 else 0)) w := by
  obtain ⟨es, clock, hb, he⟩ := h
  have hk := key_pt hx es.toList S he hS
  by_cases hc : x ∈ S
  · obtain ⟨j, hj⟩ := hk.2 hc
    rw [if_pos hc]
    simp [Instr.lookup, run_underlying under83, MapKept.run_getObj_map hb, check_pt, hj, Result.andThen]
  · rw [if_neg hc]
    simp [Instr.lookup, run_underlying under83, MapKept.run_getObj_map hb, check_pt, hk.1 hc, zero3, Result.andThen]
theorem seen_update {m x : Nat} {S : List Nat} (h : Seen w m S) (hx : IsTok w x) (hS : ∀ y ∈ S, IsTok w y) (hc : x ∉ S) : ∃ w', (Instr.mapUpdate 83 (.map (some m)) (pt x) (.int .i64 1)).run Tryd.prog w = .ok () w' ∧ Seen w' m (S ++ [x]) ∧ Chg (fun k => k = m) w w' := by
  obtain ⟨es, clock, hb, he⟩ := h
  have hk := key_pt hx es.toList S he hS
  have hset := MapKept.heap_set (o' := .map (es.push ⟨pt x, .int .i64 1, clock⟩) (clock + 1)) hb
  refine ⟨{ w with heap := w.heap.setIfInBounds m (.map (es.push ⟨pt x, .int .i64 1, clock⟩) (clock + 1)) }, ?_, ⟨_, _, hset.1, ?_⟩, rfl, rfl, rfl, by simp, fun i hi hne => hset.2 i hne⟩
  · simp [Instr.mapUpdate, run_underlying under83, MapKept.run_getObj_map hb, check_pt, hk.1 hc, MapKept.run_setObj_map _ hb, Result.andThen]
  · simp [he]
/-- The look-up and the update, in a walk. -/
theorem wpList_seen {ops : Array Oper} {rest : List Oper} {o : Oper} {a : Act} {Q : Exit → Act → World → Prop} {m' x' : Nat} {S : List Nat} (h : Seen w m' S) (hx : IsTok w x') (hS : ∀ y ∈ S, IsTok w y) (hg : o.guard = none) (m x : Operand) (hop : o.op = Op.lookup 83 m x false)
    (hm : a.eval m = .map (some m')) (hxx : a.eval x = pt x') (hK : wpList Tryd.prog ops Q rest (a.put o.dst (.int .i64 (if x' ∈ S then 1 else 0))) w) : wpList Tryd.prog ops Q (o :: rest) a w := by
  refine wpList_plain hg fun K' hK' => ?_
  unfold Oper.wp
  simp [execOp, hop, hm, hxx, seen_lookup h hx hS, Result.andThen]
  exact hK' _ _ hK
theorem wpList_see {ops : Array Oper} {rest : List Oper} {o : Oper} {a : Act} {Q : Exit → Act → World → Prop} {m' x' : Nat} {S : List Nat} (h : Seen w m' S) (hx : IsTok w x') (hS : ∀ y ∈ S, IsTok w y) (hc : x' ∉ S) (hg : o.guard = none) (m x v : Operand) (hop : o.op = Op.mapUpdate 83 m x v)
    (hm : a.eval m = .map (some m')) (hxx : a.eval x = pt x') (hv : a.eval v = .int .i64 1) (hK : ∀ w', Seen w' m' (S ++ [x']) → Chg (fun k => k = m') w w' → wpList Tryd.prog ops Q rest (a.put o.dst undef) w') : wpList Tryd.prog ops Q (o :: rest) a w := by
  refine wpList_plain hg fun K' hK' => ?_
  obtain ⟨w', hrun, h1, h2⟩ := seen_update h hx hS hc
  unfold Oper.wp
  simp [execOp, hop, hm, hxx, hv, hrun, Result.andThen]
  exact hK' _ _ (hK w' h1 h2)
end
end Go.Proofs.YtdnkedifjaccoaaDoor.Ce
