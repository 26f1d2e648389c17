/- A token more, in memory. Make: the token is added. Make. -/
import Derived.Test.YtdnkedifjaccoaaDoorPd
namespace Go.Proofs.YtdnkedifjaccoaaDoor.Ce
open Go.RowKit Go.Maps Go.Shelf Go.Lib Go.Proofs Go.Proofs.YtdnkedifjaccoaaDoor Go.Proofs.YtdnkedifjaccoaaDoorW.PrintWords Go.Proofs.YtdnkedifjaccoaaDoorW.PrintLast Go.Proofs.YtdnkedifjaccoaaDoorW.PrintMore PToken
set_option linter.unusedVariables false
set_option linter.unusedSimpArgs false
section
variable {X : Nat → Prop} {w w' : World} {b : Nat} {T : Tree} {s : Sh}
def Sh.added (s : Sh) (B n : Nat) (va pv : Value) : Sh := { s with va := va, g := s.g ++ [B], pv := fun j => if j = n then pv else s.pv j, wv := fun j => if j = n then .slice none 0 0 else s.wv j }
theorem added_gg (s : Sh) {B n : Nat} {va pv : Value} (hn : s.g.length = n) (j : Nat) : (s.added B n va pv).gg j = if j = n then B else s.gg j := by
  unfold Sh.gg Sh.added
  simp only
  rw [List.getD_eq_getElem?_getD, List.getD_eq_getElem?_getD]
  by_cases e : j = n
  · subst e
    rw [if_pos rfl, List.getElem?_append_right (by omega), hn, Nat.sub_self]; rfl
  · rw [if_neg e]
    rcases Nat.lt_or_ge j s.g.length with h | h
    · rw [List.getElem?_append_left h]
    · rw [List.getElem?_eq_none h, List.getElem?_eq_none (by simp; omega)]
theorem add_find (T : Tree) (nm : ByteArray) (l : List Nat) (hf : T.find nm = none) (q : ByteArray) : (T.add nm l).find q = if nm.toList = q.toList then some T.toks.length else T.find q := by
  unfold Tree.find
  have hl : (T.add nm l).toks.length = T.toks.length + 1 := by simp [Tree.add]
  rw [hl, List.range_succ, List.find?_append]
  have e1 : (List.range T.toks.length).find? (fun i => ((T.add nm l).tk i).name.toList == q.toList) = (List.range T.toks.length).find? (fun i => (T.tk i).name.toList == q.toList) := by
    have hc : ∀ (L : List Nat), (∀ i ∈ L, i < T.toks.length) → L.find? (fun i => ((T.add nm l).tk i).name.toList == q.toList) = L.find? (fun i => (T.tk i).name.toList == q.toList) := by
      intro L
      induction L with
      | nil => intro _; rfl
      | cons a r ih =>
        intro hL
        have ha := hL a List.mem_cons_self
        rw [List.find?_cons, List.find?_cons, Tree.tk_add, if_neg (by omega), ih (fun i hi => hL i (List.mem_cons_of_mem _ hi))]
    exact hc _ (fun i hi => List.mem_range.1 hi)
  rw [e1]
  by_cases e : nm.toList = q.toList
  · rw [if_pos e]
    have hn : (List.range T.toks.length).find? (fun i => (T.tk i).name.toList == q.toList) = none := by
      have := hf
      unfold Tree.find at this
      rw [← e]; exact this
    rw [hn]
    simp [Tree.tk_add, e]
  · rw [if_neg e]
    have : List.find? (fun i => ((T.add nm l).tk i).name.toList == q.toList) [T.toks.length] = none := by
      simp [Tree.tk_add, e]
    rw [this]; simp
theorem data_toList (x : ByteArray) : x.toList = x.data.toList := by rw [ByteArray.toList_eq]
theorem Tm.added (h : Tm X w b T s) {X' : Nat → Prop} {B : Nat} {va pv : Value} {nm : ByteArray} {l : List Nat} (W : Tree.WF T) (hf : T.find nm = none) (hB : ¬ X B) (hlB : B < w'.heap.size) (h3 : 3 ≤ B)
    (hl : ∀ p ∈ l, p < T.toks.length)
    (htok : w'.heap[B]? = some (.cells (tokC ⟨nm, l, -1, false, []⟩ pv (.slice none 0 0)) 65 (0, 0))) (htree : w'.heap[b]? = some (.cells (s.added B T.toks.length va pv).treeC 61 (0, 0)))
    (hall : w'.ownsRow 3 63 1 va (s.g.length + 1) (s.g.map pt ++ [pt B])) (hpar : w'.ownsRow 3 63 1 pv l.length (l.map fun j => pt (s.gg j)))
    (hva : ∀ k, va.ownBlock = some k → X' k ∧ (s.va.ownBlock = some k ∨ ¬ X k)) (hpv : ∀ k, pv.ownBlock = some k → X' k ∧ ¬ X k) (hvp : ∀ k, pv.ownBlock = some k → va.ownBlock ≠ some k)
    (hmap : ∃ n D, n ≤ T.toks.length + 1 ∧ w'.ownsMap Tryd.prog 9 ptrElem s.m n D ∧ ∀ q : ByteArray, D.atKey (.string q.data.toList) (.lit (.int .i64 0)) = .lit (.int .i64 (if nm.toList = q.toList then B else T.nameN s q : Nat)))
    (hup : ∀ k, X k → X' k) (hXB : X' B) (hdom : ∀ k, X' k → 3 ≤ k ∧ k < w'.heap.size)
    (hblk : ∀ k, X k → k ≠ b → k ≠ s.m → s.va.ownBlock ≠ some k → w'.heap[k]? = w.heap[k]?) : Tm X' w' b (T.add nm l) (s.added B T.toks.length va pv) := by
  have hlen : (T.add nm l).toks.length = T.toks.length + 1 := by simp [Tree.add]
  have hgg := added_gg s (B := B) (va := va) (pv := pv) h.len
  have htk := fun j => Tree.tk_add T nm l j
  have hsl : ∀ {k : Nat} {cs : Array Value} {t : TypeId}, w.heap[k]? = some (.cells cs t (0, 0)) → t ≠ 63 → s.va.ownBlock ≠ some k := fun hk ht => ne_row hk h.all ht
  have hsm : ∀ {k : Nat} {cs : Array Value} {t : TypeId}, w.heap[k]? = some (.cells cs t (0, 0)) → k ≠ s.m := fun hk e => by
    obtain ⟨n, D, -, h2, -⟩ := h.map
    exact ne_map hk h2 e.symm
  have rowfar : ∀ {n : Nat} {v : Value} {xs : List Value}, w.ownsRow 3 63 1 v n xs → (∀ k, v.ownBlock = some k → X k ∧ s.va.ownBlock ≠ some k) → w'.ownsRow 3 63 1 v n xs := fun hr hne => own_move hr (fun k hk => by
    obtain ⟨ds, hd⟩ := own_typed hr k hk
    exact hblk k (hne k hk).1 (fun e => ne_type h.tree hd (by decide) e.symm) (hsm hd) (hne k hk).2)
  have hgge : ∀ i, i < T.toks.length → (s.added B T.toks.length va pv).gg i = s.gg i := fun i hi => by rw [hgg, if_neg (by omega)]
  have hmap2 : ∀ L : List Nat, (∀ i ∈ L, i < T.toks.length) → (L.map fun i => pt ((s.added B T.toks.length va pv).gg i)) = L.map fun i => pt (s.gg i) := fun L hL => List.map_congr_left (fun i hi => by rw [hgge i (hL i hi)])
  have hord : ∀ i ∈ T.ord, i < T.toks.length := fun i hi => ((W.ord i).1 hi).1
  have hBg : B ∉ s.g := fun hm => by
    rw [h.all_gg] at hm
    obtain ⟨i, hi, e⟩ := List.mem_map.1 hm
    exact hB (e ▸ h.xg i (List.mem_range.1 hi))
  refine ⟨htree, ?_, ?_, ?_, ?_, fun j hj => ?_, fun j hj => ?_, fun j hj => ?_, ?_, ?_, fun k hk hk2 => ?_, fun j k hj hk => ?_, hdom, hup _ h.xb, hup _ h.xc, hup _ h.xm, fun j hj => ?_, fun k hk => (hva k hk).1, fun k hk => hup _ (h.xo k hk), fun j k hj hk => ?_⟩
  · exact (hblk s.c h.xc (ne_type h.clock h.tree (by decide)) (hsm h.clock) (hsl h.clock (by decide))).trans h.clock
  · rw [hlen]; show (s.g ++ [B]).length = _; simp [h.len]
  · show w'.ownsRow 3 63 1 va (s.g ++ [B]).length ((s.g ++ [B]).map pt)
    rw [List.length_append, List.map_append]
    exact hall
  · show w'.ownsRow 3 63 1 s.vo T.ord.length (T.ord.map fun i => pt ((s.added B T.toks.length va pv).gg i))
    rw [hmap2 _ hord]
    exact rowfar h.ord (fun k hk => ⟨h.xo k hk, fun e => h.ao k e hk⟩)
  · rw [hlen] at hj
    rw [hgg, htk]
    show w'.heap[(if j = T.toks.length then B else s.gg j)]? = some (Obj.cells (tokC (if j = T.toks.length then ⟨nm, l, -1, false, []⟩ else T.tk j) (if j = T.toks.length then pv else s.pv j) (if j = T.toks.length then .slice none 0 0 else s.wv j)) 65 (0, 0))
    by_cases e : j = T.toks.length
    · rw [if_pos e, if_pos e, if_pos e, if_pos e]; exact htok
    · rw [if_neg e, if_neg e, if_neg e, if_neg e]
      have hj' : j < T.toks.length := by omega
      exact (hblk _ (h.xg j hj') (ne_type (h.tok j hj') h.tree (by decide)) (hsm (h.tok j hj')) (hsl (h.tok j hj') (by decide))).trans (h.tok j hj')
  · rw [hlen] at hj
    rw [htk]
    show w'.ownsRow 3 63 1 (if j = T.toks.length then pv else s.pv j) _ _
    by_cases e : j = T.toks.length
    · rw [if_pos e, if_pos e]
      show w'.ownsRow 3 63 1 pv l.length (l.map fun i => pt ((s.added B T.toks.length va pv).gg i))
      rw [hmap2 l hl]; exact hpar
    · rw [if_neg e, if_neg e]
      have hj' : j < T.toks.length := by omega
      rw [hmap2 _ (fun i hi => Nat.lt_trans (W.par j hj' i hi) hj')]
      exact rowfar (h.par j hj') (fun k hk => ⟨h.xp j k hj' hk, (h.pa j k hj' hk).1⟩)
  · rw [hlen] at hj
    rw [htk]
    show k56.R 56 w' 3 X' (if j = T.toks.length then .slice none 0 0 else s.wv j) _
    by_cases e : j = T.toks.length
    · rw [if_pos e, if_pos e]; exact Kd.R_nil _ _ _ _ _
    · rw [if_neg e, if_neg e]
      have hj' : j < T.toks.length := by omega
      have hb := Kd.R_bound (h.why j hj')
      refine Kd.R_mono (Kd.R_move hb (fun k hk => ?_)) (fun k hk => hup k hk.1)
      obtain ⟨q, hq, cs, hc⟩ := hk.2.2.2
      have hq56 : q = 56 := by simpa [k56, Kd.iso, Kd.pair, Kd.int, Kd.string, Kd.scalar] using hq
      subst hq56
      exact hblk k hk.1 (fun e => ne_type h.tree hc (by decide) e.symm) (hsm hc) (hsl hc (by decide))
  · show (s.g ++ [B]).Nodup
    rw [List.nodup_append]
    exact ⟨h.nodup, by simp, fun a ha c hc => by rw [List.mem_singleton.1 hc]; exact fun e => hBg (e ▸ ha)⟩
  · obtain ⟨n, D, h1, h2, h3'⟩ := hmap
    refine ⟨n, D, by rw [hlen]; exact h1, h2, fun q => ?_⟩
    rw [h3']
    unfold Tree.nameN
    rw [add_find T nm l hf q]
    by_cases e : nm.toList = q.toList
    · rw [if_pos e, if_pos e]
      show DataW.lit (Lit.int .i64 (B : Int)) = .lit (.int .i64 (((s.added B T.toks.length va pv).gg T.toks.length : Nat) : Int))
      rw [hgg, if_pos rfl]
    · rw [if_neg e, if_neg e]
      cases hq : T.find q with
      | none => rfl
      | some i =>
        show DataW.lit (Lit.int .i64 ((s.gg i : Nat) : Int)) = .lit (.int .i64 (((s.added B T.toks.length va pv).gg i : Nat) : Int))
        rw [hgge i (Tree.find_some hq).1]
  · rcases (hva k hk).2 with h1 | h1
    · exact h.ao k h1 hk2
    · exact h1 (h.xo k hk2)
  · rw [hlen] at hj
    have hk' : (if j = T.toks.length then pv else s.pv j).ownBlock = some k := hk
    by_cases e : j = T.toks.length
    · rw [if_pos e] at hk'
      exact ⟨hvp k hk', fun e2 => (hpv k hk').2 (h.xo k e2)⟩
    · rw [if_neg e] at hk'
      have hj' : j < T.toks.length := by omega
      refine ⟨fun e2 => ?_, (h.pa j k hj' hk').2⟩
      rcases (hva k e2).2 with h1 | h1
      · exact (h.pa j k hj' hk').1 h1
      · exact h1 (h.xp j k hj' hk')
  · rw [hlen] at hj
    rw [hgg]
    by_cases e : j = T.toks.length
    · rw [if_pos e]; exact hXB
    · rw [if_neg e]; exact hup _ (h.xg j (by omega))
  · rw [hlen] at hj
    have hk' : (if j = T.toks.length then pv else s.pv j).ownBlock = some k := hk
    by_cases e : j = T.toks.length
    · rw [if_pos e] at hk'; exact (hpv k hk').1
    · rw [if_neg e] at hk'; exact hup _ (h.xp j k (by omega) hk')
end
end Go.Proofs.YtdnkedifjaccoaaDoor.Ce
namespace Go.Proofs.YtdnkedifjaccoaaDoor.Ce
open Go.RowKit Go.Maps Go.Shelf Go.Lib Go.Proofs Go.Proofs.YtdnkedifjaccoaaDoor Go.Proofs.YtdnkedifjaccoaaDoorW.PrintWords Go.Proofs.YtdnkedifjaccoaaDoorW.PrintLast Go.Proofs.YtdnkedifjaccoaaDoorW.PrintMore PToken
set_option linter.unusedVariables false
set_option linter.unusedSimpArgs false
section
variable {X : Nat → Prop} {w w' : World} {b : Nat} {T : Tree} {s : Sh}
/-- While the parents are gathered. -/
structure MkS (w : World) (s : Sh) (nm : ByteArray) (l : List Nat) (pv : Value) (wr : World) : Prop where
  bel : Below w.heap.size w wr
  tok : wr.heap[w.heap.size]? = some (.cells #[.string nm, pv, .int .i64 (-1), .bool false, .slice none 0 0] 65 (0, 0))
  row : wr.ownsRow w.heap.size 63 1 pv l.length (l.map fun i => pt (s.gg i))
theorem MkS.step {nm : ByteArray} {l : List Nat} {wr w9 : World} {Ap A9 : Option Addr} {c c9 i : Nat} (S : MkS w s nm l (.slice Ap l.length c) wr) (hnB : (Value.slice Ap l.length c).ownBlock ≠ some w.heap.size)
    (ho : w9.ownsRow w.heap.size 63 1 (.slice A9 (l.length + 1) c9) (l.length + 1) ((l.map fun i => pt (s.gg i)) ++ [pt (s.gg i)])) (hb : Below w.heap.size wr.drew w9) (hf : w9.heap[w.heap.size]? = wr.heap[w.heap.size]?) :
    MkS w s nm (l ++ [i]) (.slice A9 (l.length + 1) c9) (w9.setCell ⟨w.heap.size, 1, none⟩ (.slice A9 (l.length + 1) c9)) := by
  have ht := hf.trans S.tok
  refine ⟨((S.bel.trans (pw_below_drewN (Below.refl _ wr) 1)).trans hb).setCell (Nat.le_refl _) _, (blk_set ht 1 _).trans rfl, ?_⟩
  rw [List.length_append, List.map_append]
  refine own_move ho (fun k hk => far_set 1 _ (fun e => ?_))
  obtain ⟨ds, hd⟩ := own_typed ho k hk
  exact ne_type hd ht (by decide) e
/-- The token is added: behind the append, the store, and the map's turn. -/
theorem make_add {nm : ByteArray} {l : List Nat} {pv : Value} {wr w3 w5 : World} {A3 : Option Addr} {k3 n : Nat} {D : DataW Unit} (h : Tm X w b T s) (W : Tree.WF T) (hla : LaidF w) (hf : T.find nm = none) (S : MkS w s nm l pv wr) (hl : ∀ p ∈ l, p < T.toks.length)
    (hown : w3.ownsRow 3 63 1 (.slice A3 (T.toks.length + 1) k3) (T.toks.length + 1) (s.g.map pt ++ [pt w.heap.size])) (hg : wr.grownBy w3 s.va.ownBlock)
    (hat : (Value.slice A3 (T.toks.length + 1) k3).ownBlock = s.va.ownBlock ∨ ∃ q, (Value.slice A3 (T.toks.length + 1) k3).ownBlock = some q ∧ wr.heap.size ≤ q)
    (hmap : w5.ownsMap Tryd.prog 9 ptrElem s.m (n + 1) (D.put (.string nm.data.toList) (.lit (.int .i64 (w.heap.size : Nat))))) (hn : n ≤ T.toks.length) (hM : IsMap D)
    (hD : ∀ q : ByteArray, D.atKey (.string q.data.toList) (.lit (.int .i64 0)) = .lit (.int .i64 (T.nameN s q : Nat)))
    (ht : (w3.setCell ⟨b, 1, none⟩ (.slice A3 (T.toks.length + 1) k3)).mapTurned w5 s.m) :
    Api X w b (T.add nm l) (Upto X w w5) w5 (s.added w.heap.size T.toks.length (.slice A3 (T.toks.length + 1) k3) pv) := by
  obtain ⟨va, hva⟩ : ∃ va, va = Value.slice A3 (T.toks.length + 1) k3 := ⟨_, rfl⟩
  rw [← hva] at hown hat ht ⊢
  have hz := hla.size
  have hXb := (h.dom _ h.xb).2
  have hXm := (h.dom _ h.xm).2
  have hC : Chg (fun k => k = s.m) (w3.setCell ⟨b, 1, none⟩ va) w5 := Chg.turned ht rfl
  have z1 := S.bel.size
  have z2 := hg.size
  have z3 := hC.size
  have z3' : w3.heap.size ≤ w5.heap.size := by simpa [World.setCell] using z3
  have hsm : ∀ {k : Nat} {cs : Array Value} {t : TypeId}, w.heap[k]? = some (.cells cs t (0, 0)) → k ≠ s.m := fun hk e => by
    obtain ⟨n, D, -, h2, -⟩ := h.map
    exact ne_map hk h2 e.symm
  have hvm : s.va.ownBlock ≠ some s.m := by
    obtain ⟨n, D, -, h2, -⟩ := h.map
    exact row_ne_map h.all h2
  have hvb : s.va.ownBlock ≠ some b := ne_row h.tree h.all (by decide)
  have hval : ∀ k, s.va.ownBlock = some k → k < w.heap.size := fun k hk => (h.dom k (h.xa k hk)).2
  -- far from all that was written
  have hfar : ∀ k, k < wr.heap.size → k ≠ s.m → k ≠ b → s.va.ownBlock ≠ some k → w5.heap[k]? = wr.heap[k]? := fun k k0 k1 k2 k3 => by
    have k4 : k < w3.heap.size := Nat.lt_of_lt_of_le k0 z2
    rw [hC.block k (by simpa [World.setCell] using k4) k1, far_set 1 _ k2, hg.block k k0 (fun e => k3 e.symm)]
  have htree : w5.heap[b]? = some (.cells (s.added w.heap.size T.toks.length va pv).treeC 61 (0, 0)) := by
    rw [hC.block b (by have : b < w3.heap.size := by omega
                       simpa [World.setCell] using this) (hsm h.tree)]
    refine (blk_set ((hg.block b (by omega) (fun e => hvb e.symm)).trans ((S.bel.block b hXb).trans h.tree)) 1 _).trans rfl
  have hvx : s.va.ownBlock ≠ some w.heap.size := fun e => by have := hval _ e; omega
  have hxl := blk_lt S.tok
  have hva3 : ∀ k, va.ownBlock = some k → s.va.ownBlock = some k ∨ wr.heap.size ≤ k := fun k hk => by
    rcases hat with e | ⟨q, e, hq⟩
    · exact Or.inl (e ▸ hk)
    · rw [e] at hk; exact Or.inr (Option.some.inj hk ▸ hq)
  have hrow : w5.ownsRow 3 63 1 va (T.toks.length + 1) (s.g.map pt ++ [pt w.heap.size]) := own_move hown (fun k hk => by
    obtain ⟨ds, hd⟩ := own_typed hown k hk
    have k1 := blk_lt hd
    rw [hC.block k (by simpa [World.setCell] using k1) (fun e => ?_), far_set 1 _ (fun e => ?_)]
    · rcases hva3 k hk with e2 | e2
      · exact hvb (by rw [← e]; exact e2)
      · omega
    · rcases hva3 k hk with e2 | e2
      · exact hvm (by rw [← e]; exact e2)
      · omega)
  have hpb : ∀ k, pv.ownBlock = some k → w.heap.size ≤ k ∧ k < wr.heap.size ∧ k ≠ w.heap.size := fun k hk => by
    obtain ⟨ds, hd⟩ := own_typed S.row k hk
    exact ⟨own_base S.row k hk, blk_lt hd, ne_type hd S.tok (by decide)⟩
  have hparr : w5.ownsRow w.heap.size 63 1 pv l.length (l.map fun j => pt (s.gg j)) := own_move S.row (fun k hk => hfar k (hpb k hk).2.1 (by have := (hpb k hk).1; omega) (by have := (hpb k hk).1; omega) (fun e => by have := hval _ e; have := (hpb k hk).1; omega))
  have hT := h.added (X' := Upto X w w5) (B := w.heap.size) (va := va) (pv := pv) (nm := nm) (l := l) (w' := w5) W hf (fun e => by have := (h.dom _ e).2; omega) (by omega) hz hl
    ((hfar _ hxl (by omega) (by omega) hvx).trans S.tok) htree (by rw [h.len]; exact hrow) ⟨hparr.1, hparr.2.imp id (fun ⟨g, cap, cur, h1, h2, h3⟩ => ⟨g, cap, cur, h1, Nat.le_trans hz h2, h3⟩)⟩
    (fun k hk => by
      rcases hva3 k hk with e | e
      · exact ⟨Or.inl (h.xa k e), Or.inl e⟩
      · refine ⟨Or.inr ⟨by omega, ?_⟩, Or.inr (fun e2 => by have := (h.dom _ e2).2; omega)⟩
        obtain ⟨ds, hd⟩ := own_typed hrow k hk
        exact blk_lt hd)
    (fun k hk => ⟨Or.inr ⟨(hpb k hk).1, by have := (hpb k hk).2.1; omega⟩, fun e2 => by have := (h.dom _ e2).2; have := (hpb k hk).1; omega⟩)
    (fun k hk e => by
      rcases hva3 k e with e | e
      · have := hval _ e; have := (hpb k hk).1; omega
      · have := (hpb k hk).2.1; omega)
    ⟨n + 1, _, by omega, hmap, fun q => ?_⟩ (fun k hk => Or.inl hk) (Or.inr ⟨Nat.le_refl _, by omega⟩)
    (fun k hk => hk.elim (fun h1 => ⟨(h.dom k h1).1, by have := (h.dom k h1).2; omega⟩) (fun h1 => ⟨by omega, h1.2⟩))
    (fun k hk k1 k2 k3 => by
      have := (h.dom k hk).2
      exact (hfar k (by omega) k2 k1 k3).trans (S.bel.block k this))
  · have hchg : Chg X w w5 := ⟨hC.os.trans (hg.os.trans S.bel.os), hC.tape.trans (hg.tape.trans S.bel.tape), hC.output.trans (hg.output.trans S.bel.output), by omega, fun k k1 k2 => (hfar k (by omega) (fun e => k2 (e ▸ h.xm)) (fun e => k2 (e ▸ h.xb)) (fun e => k2 (h.xa k e))).trans (S.bel.block k k1)⟩
    exact ⟨fun k hk => hk.elim Or.inl (fun h1 => Or.inr h1.1), hT, hchg, laid_chg hla hchg (fun k hk => (h.dom k hk).1)⟩
  · by_cases e : nm.toList = q.toList
    · rw [if_pos e]
      have : nm.data.toList = q.data.toList := by rw [← data_toList, ← data_toList]; exact e
      rw [← this, atKey_put_same hM (show WideAt.IsKeyLit (Lit.string _) from trivial)]
    · rw [if_neg e, atKey_put_other (fun k => e (by rw [data_toList, data_toList]; injection k with k; exact k.symm)), hD]
end
end Go.Proofs.YtdnkedifjaccoaaDoor.Ce
namespace Go.Proofs.YtdnkedifjaccoaaDoor.Ce
open Go.RowKit Go.Maps Go.Shelf Go.Lib Go.Proofs Go.Proofs.YtdnkedifjaccoaaDoor Go.Proofs.YtdnkedifjaccoaaDoorW.PrintWords Go.Proofs.YtdnkedifjaccoaaDoorW.PrintLast Go.Proofs.YtdnkedifjaccoaaDoorW.PrintMore PToken
set_option linter.unusedVariables false
set_option linter.unusedSimpArgs false
theorem info63' : (Tryd.prog.info? 63).map (fun i => (i.zero, i.size, i.bytes)) = some (some (.pointer none), 1, 8) := info63
section
variable {X : Nat → Prop} {w w' : World} {b : Nat} {T : Tree} {s : Sh}
/-- A look into the names, in a region that draws. -/
theorem name_run {W : World} (h : Tm X W b T s) (nm : ByteArray) (hn : nm.size ≤ maxLen) {o : Option Addr} (ho : optP s (T.find nm) = o) : (Instr.lookup 59 (.map (some s.m)) (.string nm) false).run Tryd.prog W = .ok (.pointer o) W := by
  obtain ⟨n, D, -, hown, hD⟩ := h.map
  obtain ⟨v, ps, hrun, hv⟩ := hown.lookup law9 under59 (zero63 W) ptrElem_nil (key9 hn)
  rw [hD nm] at hv
  rw [optP_val h nm hv, ho] at hrun
  exact hrun
theorem finds_snoc {T : Tree} {p : ByteArray} {i : Nat} (hp : T.find p = some i) : ∀ {ps : List ByteArray} {l : List Nat}, T.finds ps = some l → T.finds (ps ++ [p]) = some (l ++ [i])
  | [], l, h => by
    have := Option.some.inj h
    subst this
    show (match T.find p with | none => none | some i => match T.finds [] with | none => none | some l => some (i :: l)) = _
    rw [hp]; rfl
  | q :: r, l, h => by
    unfold Tree.finds at h
    show (match T.find q with | none => none | some i => match T.finds (r ++ [p]) with | none => none | some l => some (i :: l)) = _
    cases hq : T.find q with
    | none => rw [hq] at h; cases h
    | some j =>
      rw [hq] at h
      cases hr : T.finds r with
      | none => rw [hr] at h; cases h
      | some m =>
        rw [hr] at h
        have := Option.some.inj h
        subst this
        simp only [finds_snoc hp hr]
        rfl
theorem finds_bad {T : Tree} {p : ByteArray} (hp : T.find p = none) : ∀ {ps : List ByteArray}, p ∈ ps → T.finds ps = none
  | q :: r, h => by
    unfold Tree.finds
    cases hq : T.find q with
    | none => rfl
    | some j =>
      have : T.finds r = none := by
        rcases List.mem_cons.1 h with e | e
        · subst e; rw [hp] at hq; cases hq
        · exact finds_bad hp e
      simp only [this]
def Tree.makeE (T : Tree) (nm : ByteArray) (ps : List ByteArray) : Int := if nameB nm = true then (match T.find nm with
    | some _ => 6
    | none => if ps.length > 8 then 3 else match T.finds ps with
      | none => 4
      | some _ => if 256 ≤ T.toks.length then 3 else 0) else 2
def Tree.makeB (T : Tree) (nm : ByteArray) (ps : List ByteArray) : Bool := if T.makeE nm ps = 0 then ((T.makeC nm ps).tk T.toks.length).done else false
/-- What a making answers. -/
def MkAns (X : Nat → Prop) (w : World) (b : Nat) (T' : Tree) (B : Bool) (er : Int) (e : Ending) (w' : World) : Prop := ∃ X' s', e = .returned (.tuple #[.bool B, .int .i64 er]) ∧ Api X w b T' X' w' s'
theorem makeC_err {nm : ByteArray} {ps : List ByteArray} (h : T.makeE nm ps ≠ 0) : T.makeC nm ps = T := by
  unfold Tree.makeE at h
  unfold Tree.makeC
  by_cases h1 : nameB nm = true
  · rw [if_pos h1] at h
    cases h2 : T.find nm with
    | some i => rw [if_neg (fun k => by have := k.2.1; cases this)]
    | none =>
      rw [h2] at h
      simp only at h
      by_cases h3 : ps.length > 8
      · rw [if_neg (fun k => by have := k.2.2.1; omega)]
      · rw [if_neg h3] at h
        cases h4 : T.finds ps with
        | none => simp
        | some l =>
          rw [h4] at h
          simp only at h
          by_cases h5 : 256 ≤ T.toks.length
          · rw [if_neg (fun k => by have := k.2.2.2; omega)]
          · rw [if_neg h5] at h; exact absurd rfl h
  · rw [if_neg (fun k => h1 k.1)]
set_option maxHeartbeats 4000000 in
set_option maxRecDepth 100000 in
theorem Make_is (h : Tm X w b T s) (G : Tree.Good T) (hns : NS T) (hla : LaidF w) (nm : ByteArray) (hn : nm.size ≤ maxLen) (A : Option Addr) (c : Nat) (ps : List ByteArray) (hr : Kd.C Kd.string w A ps.length ps) (hps : ∀ p ∈ ps, p.size ≤ maxLen) :
    Calls Tryd.prog 16 #[.pointer (some ⟨b, 0, none⟩), .string nm, .slice A ps.length c] w fun e w' => MkAns X w b (T.makeC nm ps) (T.makeB nm ps) (T.makeE nm ps) e w' := by
  obtain ⟨-, -, c2, -, -⟩ := h.cells
  have HNB := Lib.hid (name_is w nm hla.keys)
  have HT := Lib.hid (And.intro h hla)
  have hB0 : T.makeE nm ps ≠ 0 → T.makeB nm ps = false := fun h => by unfold Tree.makeB; rw [if_neg h]
  by_cases h1 : nameB nm = true
  · rw [h1] at HNB
    cases h2 : T.find nm with
    | some i =>
      have hE : T.makeE nm ps = 6 := by unfold Tree.makeE; rw [if_pos h1, h2]
      rw [makeC_err (by rw [hE]; decide), hB0 (by rw [hE]; decide), hE]
      have HF := Lib.hid (show optP s (T.find nm) = some ⟨s.gg i, 0, none⟩ by rw [h2]; rfl)
      clear h G hns hla hr hps hB0 h1 h2 hE
      go_enter Tryd.func16, Tryd.ntmps16
      go_wp2_with (first | (go_at_call 36; refine HNB.out.mono ?_; rintro _ w1 ⟨rfl, ⟨m1, rfl⟩⟩) | (at_lookup; refine wpList_name (HT.out.1.drewN m1) rfl _ _ rfl rfl nm rfl hn ?_; rw [HF.out]))
      go_ret2
      exact ⟨X, s, rfl, Api.below (Api.refl HT.out.1 HT.out.2) (pw_below_drewN (Below.refl _ _) _)⟩
    | none =>
      have HF := Lib.hid (show optP s (T.find nm) = none by rw [h2]; rfl)
      by_cases h3 : ps.length > 8
      · have hE : T.makeE nm ps = 3 := by unfold Tree.makeE; rw [if_pos h1, h2]; exact if_pos h3
        rw [makeC_err (by rw [hE]; decide), hB0 (by rw [hE]; decide), hE]
        have h3z : (8 : Int) < (ps.length : Int) := by omega
        clear h G hns hla hr hps hB0 h1 h2 h3 hE
        go_enter Tryd.func16, Tryd.ntmps16
        go_wp2_with (first | (go_at_call 36; refine HNB.out.mono ?_; rintro _ w1 ⟨rfl, ⟨m1, rfl⟩⟩) | (at_lookup; refine wpList_name (HT.out.1.drewN m1) rfl _ _ rfl rfl nm rfl hn ?_; rw [HF.out]))
        go_ret2
        exact ⟨X, s, rfl, Api.below (Api.refl HT.out.1 HT.out.2) (pw_below_drewN (Below.refl _ _) _)⟩
      · have h3z : ¬ (8 : Int) < (ps.length : Int) := by omega
        obtain ⟨m, hm⟩ : ∃ m, m = ps.length := ⟨_, rfl⟩
        have hm8 : m ≤ 8 := by omega
        have HE := Lib.hid (And.intro h1 (And.intro h2 (And.intro (show ¬ ps.length > 8 from h3) (And.intro hm hm8))))
        have HP := Lib.hid (And.intro hr hps)
        have HG := Lib.hid (And.intro G hns)
        have HB0 := Lib.hid hB0
        obtain ⟨-, c1, -, -, -⟩ := h.cells
        obtain ⟨Aa, ca, hva, hca⟩ := own_slice h.all
        have HVA := Lib.hid hva
        rw [hva, h.len] at c1
        obtain ⟨B, hB⟩ : ∃ B, B = w.heap.size := ⟨_, rfl⟩
        have HB := Lib.hid hB
        have hXb := (h.dom _ h.xb).2
        have HXB := Lib.hid hXb
        have HROW := Lib.hid (show w.ownsRow 3 63 1 s.va T.toks.length (s.g.map pt) by have := h.all; rwa [h.len] at this)
        have HNM := Lib.hid hn
        rw [← hm] at h3z
        rw [← hm]
        clear h G hns hla hr hps hB0 h1 h2 h3 hm hm8 hva hca hB hXb
        go_enter Tryd.func16, Tryd.ntmps16
        go_wp2_with (first | (go_at_call 36; refine HNB.out.mono ?_; rintro _ w1 ⟨rfl, ⟨m1, rfl⟩⟩) | (at_lookup; refine wpList_name (HT.out.1.drewN m1) rfl _ _ rfl rfl nm rfl hn ?_; rw [HF.out]))
        have hbel0 : Below w.heap.size w ((w.drewN m1).alloc (.cells #[.string nm, .slice none 0 0, .int .i64 (-1), .bool false, .slice none 0 0] 65)) := (pw_below_drewN (Below.refl _ _) m1).alloc (Nat.le_refl _) _
        have HM0 := Lib.hid (show MkS w s nm [] (.slice none 0 0) ((w.drewN m1).alloc (.cells #[.string nm, .slice none 0 0, .int .i64 (-1), .bool false, .slice none 0 0] 65)) from ⟨hbel0, blk_new (w.drewN m1) _, rfl, Or.inl ⟨rfl, rfl⟩⟩)
        clear hbel0
        go_loopg [33] m (fun gk vi wr => ∃ (j : Nat) (l : List Nat) (pv : Value), vi = .int .i64 (j : Int) ∧ j ≤ m ∧ m ≤ j + gk ∧ Hid (T.finds (ps.take j) = some l) ∧ Hid (MkS w s nm l pv wr))
        case atStart => exact ⟨0, [], _, rfl, Nat.zero_le _, by omega, Lib.hid rfl, HM0⟩
        case round =>
          obtain ⟨j, l, pv, rfl, hj, hg, HFS, HS⟩ := hrel
          by_cases hlt : j < m
          · have hltz : (j : Int) < (m : Int) := Int.ofNat_lt.2 hlt
            have hj0 : (0 : Int) ≤ (j : Int) := Int.natCast_nonneg j
            obtain ⟨ad, hA, hcp⟩ := Kd.at_string (Kd.C_below HP.out.1 HS.out.bel) (j : Int) hj0 (by rw [← HE.out.2.2.2.1]; exact hltz)
            subst hA
            rw [Int.toNat_natCast] at hcp
            have hpm : rdOf ByteArray.empty ps (j : Int) ∈ ps := by
              have hjl : j < ps.length := by rw [← HE.out.2.2.2.1]; exact hlt
              unfold rdOf
              rw [Int.toNat_natCast, List.getD_eq_getElem?_getD, List.getElem?_eq_getElem hjl]
              exact List.getElem_mem hjl
            have htk : ps.take (j + 1) = ps.take j ++ [rdOf ByteArray.empty ps (j : Int)] := by
              have hjl : j < ps.length := by rw [← HE.out.2.2.2.1]; exact hlt
              unfold rdOf
              rw [List.take_add_one, Int.toNat_natCast, List.getD_eq_getElem?_getD, List.getElem?_eq_getElem hjl]; rfl
            obtain ⟨p, hp⟩ : ∃ p, rdOf ByteArray.empty ps (j : Int) = p := ⟨_, rfl⟩
            rw [hp] at hcp hpm htk
            have hpz := HP.out.2 p hpm
            have HTW := Lib.hid (HT.out.1.below HS.out.bel)
            have c2' : wr.cell? ⟨b, 2, none⟩ = some (.map (some s.m)) := HTW.out.cells.2.2.1
            have hXbw : b < wr.heap.size := Nat.lt_of_lt_of_le HXB.out HS.out.bel.size
            cases hfp : T.find p with
            | none =>
              have HFP := Lib.hid (show optP s (T.find p) = none by rw [hfp]; rfl)
              have hE : T.makeE nm ps = 4 := by
                unfold Tree.makeE
                rw [if_pos HE.out.1, HE.out.2.1]
                simp only
                rw [if_neg HE.out.2.2.1, finds_bad hfp hpm]
              have HEE := Lib.hid (And.intro hE (And.intro (makeC_err (by rw [hE]; decide)) (HB0.out (by rw [hE]; decide))))
              clear hfp hE hpm htk hp hj hg hlt hXbw
              go_wp2_with (first | (at_lookup; refine wpList_name HTW.out rfl _ _ rfl rfl p rfl hpz ?_; rw [HFP.out]))
              go_ret2
              rw [HEE.out.1, HEE.out.2.1, HEE.out.2.2]
              exact ⟨X, s, rfl, Api.below (Api.refl HT.out.1 HT.out.2) HS.out.bel⟩
            | some i =>
              have HFP := Lib.hid (show optP s (T.find p) = some ⟨s.gg i, 0, none⟩ by rw [hfp]; rfl)
              have HFI := Lib.hid (finds_snoc hfp HFS.out)
              have HTK := Lib.hid htk
              have hWj := wsucc j (by have := HE.out.2.2.2.2; omega)
              have HWJ := Lib.hid hWj
              have HL := Lib.hid (And.intro (Nat.succ_le_of_lt hlt) (And.intro (show m - (j + 1) < gk by omega) (And.intro (show m ≤ j + 1 + (m - (j + 1)) by omega) (show l.length ≤ 8 from by rw [(Tree.finds_some HFS.out).1, List.length_take]; have := HE.out.2.2.2.2; omega))))
              obtain ⟨Ap, cp, hpv, hcp2⟩ := own_slice HS.out.row
              have tk := HS.out.tok
              rw [hpv] at tk
              have x1 : wr.cell? ⟨w.heap.size, 1, none⟩ = some (.slice Ap l.length cp) := (blk_cell tk 1).trans rfl
              have hBw : w.heap.size < wr.heap.size := blk_lt tk
              have hrow := HS.out.row
              have hnB := ne_row tk hrow (by decide)
              rw [hpv] at hrow hnB
              have HRW := Lib.hid (And.intro hrow (And.intro tk hnB))
              subst hpv
              have hlk := name_run (W := wr.drew) (HTW.out.drewN 1) p hpz HFP.out
              clear hfp hpm htk hp hj hg hlt hWj tk hrow hnB hcp2
              go_upto_region 13 with (first | (at_lookup; refine wpList_name HTW.out rfl _ _ rfl rfl p rfl hpz ?_; rw [HFP.out]) | fail)
              go_region_law (first | (refine step_append_cells (w0 := wr.drew) (W := wr.drew) w.heap.size (by rfl) (.tmp 48) (.tmp 55) 58 63 (.pointer none) 1 8 rfl (by kernel_rfl) info63 rfl (by decide) (by decide) (.slice Ap l.length cp) l.length (l.map fun i => pt (s.gg i)) [pt (s.gg i)] rfl rfl rfl (by intro u hu; rw [List.mem_singleton.1 hu]; rfl) HRW.out.1 (Below.refl _ _) HS.out.bel.size (by have := HL.out.2.2.2; omega) ?_; intro v9 w9 ho9 hb9 hg9 hat9; obtain ⟨A9, c9, rfl, -⟩ := own_slice ho9; have hf9 : w9.heap[w.heap.size]? = wr.heap[w.heap.size]? := hg9.block w.heap.size (show w.heap.size < wr.drew.heap.size from blk_lt HRW.out.2.1) (fun e => HRW.out.2.2 e.symm); have y1 : w9.cell? ⟨w.heap.size, 1, none⟩ = some (.slice Ap l.length cp) := (cell_blk hf9).trans (blk_cell HRW.out.2.1 1); have y2 : w9.frozen? ⟨w.heap.size, 1, none⟩ = false := blk_frozen (hf9.trans HRW.out.2.1) 1; have H9 := Lib.hid (And.intro ho9 (And.intro hb9 (And.intro hg9 hf9))); clear ho9 hb9 hg9 hat9 hf9) | fail)
              all_goals
                go_wp2_with fail
                go_roundg (m - (j + 1))
                case measure => exact HL.out.2.1
                case rel =>
                  refine ⟨j + 1, l ++ [i], .slice A9 (l.length + 1) c9, (by first | exact congrArg _ HWJ.out | rfl), HL.out.1, HL.out.2.2.1, Lib.hid ((congrArg _ HTK.out).trans HFI.out), Lib.hid ?_⟩
                  exact HS.out.step HRW.out.2.2 H9.out.1 H9.out.2.1 H9.out.2.2.2
          -- MARK
          · have hltz : ¬ (j : Int) < (m : Int) := fun e => hlt (Int.ofNat_lt.1 e)
            have hjm : ps.take j = ps := List.take_of_length_le (by have := HE.out.2.2.2.1; omega)
            have hHIT : wr.cell? ⟨b, 1, none⟩ = some (.slice Aa T.toks.length ca) := (cell_blk (HS.out.bel.block b HXB.out)).trans c1
            have HFP := Lib.hid (show T.finds ps = some l by have := HFS.out; rwa [hjm] at this)
            have c2' : wr.cell? ⟨b, 2, none⟩ = some (.map (some s.m)) := (cell_blk (HS.out.bel.block b HXB.out)).trans c2
            have hXbw : b < wr.heap.size := Nat.lt_of_lt_of_le HXB.out HS.out.bel.size
            clear hjm hlt hj hg
            by_cases h256 : 256 ≤ T.toks.length
            · have hzz : (256 : Int) ≤ (T.toks.length : Int) := by omega
              have hE : T.makeE nm ps = 3 := by
                unfold Tree.makeE
                rw [if_pos HE.out.1, HE.out.2.1]
                simp only
                rw [if_neg HE.out.2.2.1, HFP.out]
                exact if_pos h256
              have HEE := Lib.hid (And.intro hE (And.intro (makeC_err (by rw [hE]; decide)) (HB0.out (by rw [hE]; decide))))
              clear hE h256
              go_wp2_with fail
              go_ret2
              rw [HEE.out.1, HEE.out.2.1, HEE.out.2.2]
              exact ⟨X, s, rfl, Api.below (Api.refl HT.out.1 HT.out.2) HS.out.bel⟩
            · have HLE := Lib.hid HT.out.1.len
              have h_row := HROW.out
              have hzz : ¬ (256 : Int) ≤ (T.toks.length : Int) := by omega
              have hE : T.makeE nm ps = 0 := by
                unfold Tree.makeE
                rw [if_pos HE.out.1, HE.out.2.1]
                simp only
                rw [if_neg HE.out.2.2.1, HFP.out]
                exact if_neg h256
              have hC : T.makeC nm ps = T.made nm l := by
                unfold Tree.makeC
                rw [if_pos ⟨HE.out.1, HE.out.2.1, by have := HE.out.2.2.1; omega, by omega⟩, HFP.out]
              have hBB : T.makeB nm ps = ((T.made nm l).tk T.toks.length).done := by
                unfold Tree.makeB
                rw [if_pos hE, hC]
              have hls := Tree.finds_some HFP.out
              obtain ⟨Ap, cp, hpv, -⟩ := own_slice HS.out.row
              obtain ⟨i0, hi0⟩ := info63e
              have HI := Lib.hid hi0
              have hwsz : w.heap.size < wr.heap.size := blk_lt HS.out.tok
              have hown : wr.ownsRow 3 63 1 s.va T.toks.length (s.g.map pt) := by
                have := h_row
                exact own_move this (fun k hk => HS.out.bel.block k (own_lt this k hk))
              have HO := Lib.hid (own_move (w1 := wr.alloc (.cells #[.pointer (some ⟨w.heap.size, 0, none⟩)] 63)) hown (fun k hk => Below.heap_alloc _ _ _ (own_lt hown k hk)))
              have HNW := Lib.hid (show ∀ j u, [pt w.heap.size][j]? = some u → (wr.alloc (.cells #[.pointer (some ⟨w.heap.size, 0, none⟩)] 63)).cell? ((⟨wr.heap.size, 0, none⟩ : Addr).add j) = some u from cell_one_new wr (pt w.heap.size) 63)
              have HZ := Lib.hid (show T.toks.length + 1 ≤ maxLen ∧ (T.toks.length + 1) * 8 ≤ 140737488355328 ∧ 3 ≤ (wr.alloc (.cells #[.pointer (some ⟨w.heap.size, 0, none⟩)] 63)).heap.size from by
                have h2 := HT.out.2.size
                refine ⟨by unfold maxLen; omega, by omega, by rw [World.size_alloc]; omega⟩)
              have hvb : s.va.ownBlock ≠ some b := ne_row HT.out.1.tree HT.out.1.all (by decide)
              have hval : ∀ k, s.va.ownBlock = some k → k < w.heap.size := fun k hk => (HT.out.1.dom k (HT.out.1.xa k hk)).2
              have HGR := Lib.hid (fun (w3 : World) (hg : (wr.alloc (.cells #[.pointer (some ⟨w.heap.size, 0, none⟩)] 63)).grownBy w3 s.va.ownBlock) => show wr.grownBy w3 s.va.ownBlock from World.grownBy.trans (World.grownBy_alloc wr _ _) hg)
              have HQ := Lib.hid (fun (w3 : World) (hg : (wr.alloc (.cells #[.pointer (some ⟨w.heap.size, 0, none⟩)] 63)).grownBy w3 s.va.ownBlock) => show w3.cell? ⟨b, 1, none⟩ = some (.slice Aa T.toks.length ca) ∧ w3.frozen? ⟨b, 1, none⟩ = false ∧ w3.cell? ⟨b, 2, none⟩ = some (.map (some s.m)) ∧ w3.heap[b]? = some (.cells s.treeC 61 (0, 0)) from by
                have e1 : w3.heap[b]? = some (.cells s.treeC 61 (0, 0)) := ((HGR.out w3 hg).block b (by have := HXB.out; omega) (fun e => hvb e.symm)).trans ((HS.out.bel.block b HXB.out).trans HT.out.1.tree)
                exact ⟨(blk_cell e1 1).trans (by rw [← HLE.out, ← HVA.out]; rfl), blk_frozen e1 1, (blk_cell e1 2).trans rfl, e1⟩)
              obtain ⟨nM, D, hnM, hownM, hD⟩ := HT.out.1.map
              have hvm : s.va.ownBlock ≠ some s.m := row_ne_map HT.out.1.all hownM
              have hXm := (HT.out.1.dom _ HT.out.1.xm).2
              have hbm : b ≠ s.m := fun e => ne_map HT.out.1.tree hownM e.symm
              have HMV := Lib.hid (fun (w3 : World) (hg : (wr.alloc (.cells #[.pointer (some ⟨w.heap.size, 0, none⟩)] 63)).grownBy w3 s.va.ownBlock) (u : Value) => show (w3.setCell ⟨b, 1, none⟩ u).ownsMap Tryd.prog 9 ptrElem s.m nM D from map_move hownM (by
                rw [far_set 1 _ (Ne.symm hbm), (HGR.out w3 hg).block s.m (by omega) (fun e => hvm e.symm), HS.out.bel.block s.m hXm]))
              have HMN := Lib.hid (And.intro (show nM < maxLen by unfold maxLen; omega) (And.intro (key9 HNM.out) (show 0 < w.heap.size by have := HT.out.2.size; omega)))
              have HADD := Lib.hid (fun (w3 w5 : World) (A3 : Option Addr) (k3 : Nat) (h1 : w3.ownsRow 3 63 1 (.slice A3 (T.toks.length + 1) k3) (T.toks.length + 1) (s.g.map pt ++ [pt w.heap.size])) (h2 : (wr.alloc (.cells #[.pointer (some ⟨w.heap.size, 0, none⟩)] 63)).grownBy w3 s.va.ownBlock)
                (h3 : (Value.slice A3 (T.toks.length + 1) k3).ownBlock = s.va.ownBlock ∨ (Value.slice A3 (T.toks.length + 1) k3).ownBlock = some (wr.alloc (.cells #[.pointer (some ⟨w.heap.size, 0, none⟩)] 63)).heap.size)
                (h4 : w5.ownsMap Tryd.prog 9 ptrElem s.m (nM + 1) (D.put (.string nm.data.toList) (.lit (.int .i64 (w.heap.size : Nat))))) (h5 : (w3.setCell ⟨b, 1, none⟩ (.slice A3 (T.toks.length + 1) k3)).mapTurned w5 s.m) =>
                  make_add HT.out.1 HG.out.1.wf HT.out.2 HE.out.2.1 HS.out hls.2 h1 (HGR.out w3 h2) (h3.imp id (fun e => ⟨_, e, by rw [World.size_alloc]; omega⟩)) h4 hnM hownM.isMap hD h5)
              have hW := HG.out.1.wf.add nm l hls.2
              have htk := Tree.tk_add T nm l
              have hlen : (T.add nm l).toks.length = T.toks.length + 1 := by simp [Tree.add]
              have hgg := fun va => added_gg s (B := w.heap.size) (va := va) (pv := pv) HT.out.1.len
              cases hfst : (T.add nm l).first l with
              | none =>
                have hM : T.made nm l = T.add nm l := by
                  unfold Tree.made Tree.take
                  rw [if_neg (by rw [htk, if_pos rfl]; simp), htk, if_pos rfl]
                  simp only
                  rw [hfst]
                have hdn : ((T.made nm l).tk T.toks.length).done = false := by
                  rw [hM, htk, if_pos rfl]
                have HF5 := Lib.hid (fun (w5 : World) (A3 : Option Addr) (k3 : Nat) (a : Api X w b (T.add nm l) (Upto X w w5) w5 (s.added w.heap.size T.toks.length (.slice A3 (T.toks.length + 1) k3) pv)) => show w5.cell? ⟨w.heap.size, 1, none⟩ = some (.slice Ap l.length cp) ∧ w5.cell? ⟨w.heap.size, 3, none⟩ = some (.bool false) ∧ Hid (Calls Tryd.prog 37 #[.pointer (some ⟨b, 0, none⟩), .slice Ap l.length cp] w5 (fun e w' => e = .returned (.pointer none) ∧ w' = w5)) from by
                  have hn1 : T.toks.length < (T.add nm l).toks.length := by rw [hlen]; omega
                  obtain ⟨-, t1, -, t3, -, -⟩ := a.tm.tcells T.toks.length hn1
                  rw [hgg, if_pos rfl] at t1 t3
                  have e1 : (s.added w.heap.size T.toks.length (.slice A3 (T.toks.length + 1) k3) pv).pv T.toks.length = pv := if_pos rfl
                  rw [e1, hpv] at t1
                  rw [htk, if_pos rfl] at t3
                  refine ⟨t1, t3, Lib.hid ?_⟩
                  have hr := a.tm.parB T.toks.length hn1
                  rw [e1, htk, if_pos rfl, hpv] at hr
                  have := first_is a.tm hW (by rw [hlen]; omega) _ l hr (fun q hq => by rw [hlen]; have := hls.2 q hq; omega) (by have := hls.1; have := HE.out.2.2.1; omega)
                  rw [hfst] at this
                  exact this)
                have HEE := Lib.hid (And.intro hE (And.intro hC (And.intro hBB (And.intro hdn hM))))
                clear hE hC hBB hls hi0 hwsz hown hvb hval hnM hownM hD hvm hXm hbm hW htk hlen hgg hfst hdn hM hpv h256
                go_wp2_with (first | (at_builtin; refine wpList_append_own_at _ rfl _ _ 58 rfl 3 63 i0 (.pointer none) 1 8 (by kernel_rfl) HI.out.1 HI.out.2.1 HI.out.2.2.1 HI.out.2.2.2 rfl (by decide) s.va _ _ (by rw [HVA.out, HLE.out]; rfl) HO.out ⟨wr.heap.size, 0, none⟩ 1 1 [pt w.heap.size] rfl rfl HNW.out (by intro u hu; rw [List.mem_singleton.1 hu]; rfl) HZ.out.1 HZ.out.2.1 HZ.out.2.2 ?_; intro v3 w3 hown3 hgrow3 hnil3 hat3; obtain ⟨A3, k3, rfl, hk3⟩ := own_slice hown3; have q3 := HQ.out w3 hgrow3; obtain ⟨q31, q32, q33, q34⟩ := q3; have H3 := Lib.hid (And.intro hown3 (And.intro hgrow3 hat3)); clear hown3 hgrow3 hnil3 hat3 hk3) | (at_mapUpdate; refine wpList_mapUpdate_in _ rfl _ _ _ 59 rfl 9 63 law9 under59 ptrElem s.m nM D rfl (HMV.out w3 H3.out.2.1 _) HMN.out.1 (.string nm) (pt w.heap.size) _ rfl rfl HMN.out.2.1 _ [] (ptrElem_pt HMN.out.2.2) ?_; intro w5 hown5 hturn5; have HA5 := Lib.hid (HADD.out w3 w5 A3 k3 H3.out.1 H3.out.2.1 H3.out.2.2 hown5 hturn5); have f5 := HF5.out w5 A3 k3 HA5.out; obtain ⟨f51, f52, HC5⟩ := f5; clear hown5 hturn5) | (go_at_call 37; refine HC5.out.mono ?_; rintro _ w6 ⟨rfl, rfl⟩))
                go_ret2
                rw [HEE.out.1, HEE.out.2.1, HEE.out.2.2.1, HEE.out.2.2.2.1]
                rw [HEE.out.2.2.2.2]
                exact ⟨_, _, rfl, HA5.out⟩
              | some p =>
                have hp := Tree.first_some hfst
                have hpn : p < T.toks.length := hls.2 p hp.2
                have hwy := HT.out.1.why p hpn
                obtain ⟨Aw, cw, hwv, -, -⟩ := Kd.R_reads hwy
                have hM : T.made nm l = (T.add nm l).turn T.toks.length (T.tk p).why := by
                  unfold Tree.made Tree.take
                  rw [if_neg (by rw [htk, if_pos rfl]; simp), htk, if_pos rfl]
                  simp only
                  rw [hfst]
                  simp only
                  rw [htk, if_neg (by omega)]
                have hdn : ((T.made nm l).tk T.toks.length).done = true := by
                  rw [hM, Tree.tk_turn _ _ _ _ (by rw [hlen]; omega), if_pos rfl]
                have HF5 := Lib.hid (fun (w5 : World) (A3 : Option Addr) (k3 : Nat) (a : Api X w b (T.add nm l) (Upto X w w5) w5 (s.added w.heap.size T.toks.length (.slice A3 (T.toks.length + 1) k3) pv)) => show w5.cell? ⟨w.heap.size, 1, none⟩ = some (.slice Ap l.length cp) ∧ w5.cell? ⟨s.gg p, 4, none⟩ = some (.slice Aw (T.tk p).why.length cw) ∧ Hid (Calls Tryd.prog 37 #[.pointer (some ⟨b, 0, none⟩), .slice Ap l.length cp] w5 (fun e w' => e = .returned (.pointer (some ⟨s.gg p, 0, none⟩)) ∧ w' = w5) ∧ Calls Tryd.prog 38 #[.pointer (some ⟨b, 0, none⟩), .pointer (some ⟨w.heap.size, 0, none⟩), .slice Aw (T.tk p).why.length cw] w5 (fun e w' => e = .returned (.tuple #[]) ∧ w'.cell? ⟨w.heap.size, 3, none⟩ = some (.bool true) ∧ ∃ s', Hid (Api X w b (T.made nm l) (Upto (Upto X w w5) w5 w') w' s'))) from by
                  have hn1 : T.toks.length < (T.add nm l).toks.length := by rw [hlen]; omega
                  obtain ⟨-, t1, -, -, -, -⟩ := a.tm.tcells T.toks.length hn1
                  obtain ⟨-, -, -, -, t4, -⟩ := a.tm.tcells p (by rw [hlen]; omega)
                  rw [hgg, if_pos rfl] at t1
                  rw [hgg, if_neg (by omega)] at t4
                  have e1 : (s.added w.heap.size T.toks.length (.slice A3 (T.toks.length + 1) k3) pv).pv T.toks.length = pv := if_pos rfl
                  have e4 : (s.added w.heap.size T.toks.length (.slice A3 (T.toks.length + 1) k3) pv).wv p = s.wv p := if_neg (by omega)
                  rw [e1, hpv] at t1
                  rw [e4, hwv] at t4
                  refine ⟨t1, t4, Lib.hid ⟨?_, ?_⟩⟩
                  · have hr := a.tm.parB T.toks.length hn1
                    rw [e1, htk, if_pos rfl, hpv] at hr
                    have := first_is a.tm hW (by rw [hlen]; omega) _ l hr (fun q hq => by rw [hlen]; have := hls.2 q hq; omega) (by have := hls.1; have := HE.out.2.2.1; omega)
                    rw [hfst] at this
                    have e5 : optP (s.added w.heap.size T.toks.length (.slice A3 (T.toks.length + 1) k3) pv) (some p) = some ⟨s.gg p, 0, none⟩ := by
                      show some (⟨(s.added w.heap.size T.toks.length (.slice A3 (T.toks.length + 1) k3) pv).gg p, 0, none⟩ : Addr) = _
                      rw [hgg, if_neg (by omega)]
                    rw [e5] at this
                    exact this
                  · have hwr := a.tm.why p (by rw [hlen]; omega)
                    rw [e4, hwv, htk, if_neg (by omega)] at hwr
                    have := turn_is a.tm hW (by rw [hlen]; omega) a.laid hn1 hwr
                    rw [hgg, if_pos rfl] at this
                    refine this.mono ?_
                    rintro _ w' ⟨rfl, s', hs'⟩
                    obtain ⟨-, -, -, t3, -, -⟩ := hs'.tm.tcells T.toks.length (by rw [Tree.turn_len, hlen]; omega)
                    rw [Sh.gg_congr hs'.g, hgg, if_pos rfl, ← hM, hdn] at t3
                    have ha := a.trans hs'.api
                    rw [← hM] at ha
                    exact ⟨rfl, t3, s', Lib.hid ha⟩)
                have HEE := Lib.hid (And.intro hE (And.intro hC (And.intro hBB (And.intro hdn hM))))
                clear hE hC hBB hls hi0 hwsz hown hvb hval hnM hownM hD hvm hXm hbm hW htk hlen hgg hfst hdn hM hpv h256 hp hwy hwv hpn
                go_wp2_with (first | (at_builtin; refine wpList_append_own_at _ rfl _ _ 58 rfl 3 63 i0 (.pointer none) 1 8 (by kernel_rfl) HI.out.1 HI.out.2.1 HI.out.2.2.1 HI.out.2.2.2 rfl (by decide) s.va _ _ (by rw [HVA.out, HLE.out]; rfl) HO.out ⟨wr.heap.size, 0, none⟩ 1 1 [pt w.heap.size] rfl rfl HNW.out (by intro u hu; rw [List.mem_singleton.1 hu]; rfl) HZ.out.1 HZ.out.2.1 HZ.out.2.2 ?_; intro v3 w3 hown3 hgrow3 hnil3 hat3; obtain ⟨A3, k3, rfl, hk3⟩ := own_slice hown3; have q3 := HQ.out w3 hgrow3; obtain ⟨q31, q32, q33, q34⟩ := q3; have H3 := Lib.hid (And.intro hown3 (And.intro hgrow3 hat3)); clear hown3 hgrow3 hnil3 hat3 hk3) | (at_mapUpdate; refine wpList_mapUpdate_in _ rfl _ _ _ 59 rfl 9 63 law9 under59 ptrElem s.m nM D rfl (HMV.out w3 H3.out.2.1 _) HMN.out.1 (.string nm) (pt w.heap.size) _ rfl rfl HMN.out.2.1 _ [] (ptrElem_pt HMN.out.2.2) ?_; intro w5 hown5 hturn5; have HA5 := Lib.hid (HADD.out w3 w5 A3 k3 H3.out.1 H3.out.2.1 H3.out.2.2 hown5 hturn5); have f5 := HF5.out w5 A3 k3 HA5.out; obtain ⟨f51, f52, HC5⟩ := f5; clear hown5 hturn5) | (go_at_call 37; refine HC5.out.1.mono ?_; rintro _ w6 ⟨rfl, rfl⟩) | (go_at_call 38; refine HC5.out.2.mono ?_; rintro _ w7 ⟨rfl, t73, s7, H7⟩))
                go_ret2
                rw [HEE.out.1, HEE.out.2.1, HEE.out.2.2.1, HEE.out.2.2.2.1]
                exact ⟨_, s7, rfl, H7.out⟩
          -- ENDMARK
  · have hE : T.makeE nm ps = 2 := by unfold Tree.makeE; rw [if_neg h1]
    rw [makeC_err (by rw [hE]; decide), hB0 (by rw [hE]; decide), hE]
    have h1' : nameB nm = false := by simpa using h1
    rw [h1'] at HNB
    clear h G hns hla hr hps hB0 h1 h1' hE
    go_enter Tryd.func16, Tryd.ntmps16
    go_wp2_with (first | (go_at_call 36; refine HNB.out.mono ?_; rintro _ w1 ⟨rfl, ⟨m1, rfl⟩⟩))
    go_ret2
    exact ⟨X, s, rfl, Api.below (Api.refl HT.out.1 HT.out.2) (pw_below_drewN (Below.refl _ _) _)⟩
end
end Go.Proofs.YtdnkedifjaccoaaDoor.Ce
