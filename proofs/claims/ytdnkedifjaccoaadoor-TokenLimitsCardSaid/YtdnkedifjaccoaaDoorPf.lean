/- A token more, any one, in memory (Clone). Clone: a token is added. Clone: the plain side; the clock's copy. Clone: its order. -/
import Derived.Test.YtdnkedifjaccoaaDoorPe
import Derived.Carry
namespace Go.Proofs.YtdnkedifjaccoaaDoor.Ce
open Go.RowKit Go.Maps Go.Shelf Go.Lib Go.Proofs Go.Proofs.YtdnkedifjaccoaaDoor Go.Proofs.YtdnkedifjaccoaaDoorW.PrintWords Go.Proofs.YtdnkedifjaccoaaDoorW.PrintLast Go.Proofs.YtdnkedifjaccoaaDoorW.PrintMore PToken
set_option linter.unusedVariables false
set_option linter.unusedSimpArgs false
section
variable {X : Nat → Prop} {w w' : World} {b : Nat} {T : Tree} {s : Sh}
def Tree.addT (T : Tree) (t : Tok) : Tree := { T with toks := T.toks ++ [t] }
def Sh.addT (s : Sh) (B n : Nat) (va pv wv : Value) : Sh := { s with va := va, g := s.g ++ [B], pv := fun j => if j = n then pv else s.pv j, wv := fun j => if j = n then wv else s.wv j }
theorem Tree.tk_addT (T : Tree) (t : Tok) (j : Nat) : (T.addT t).tk j = if j = T.toks.length then t else T.tk j := by
  unfold Tree.tk Tree.addT
  simp only
  rw [List.getD_eq_getElem?_getD, List.getD_eq_getElem?_getD]
  by_cases e : j = T.toks.length
  · subst e; rw [if_pos rfl]; simp
  · rw [if_neg e]
    rcases Nat.lt_or_ge j T.toks.length with h | h
    · rw [List.getElem?_append_left h]
    · rw [List.getElem?_eq_none h, List.getElem?_eq_none (by simp; omega)]
theorem addT_gg (s : Sh) {B n : Nat} {va pv wv : Value} (hn : s.g.length = n) (j : Nat) : (s.addT B n va pv wv).gg j = if j = n then B else s.gg j := by
  unfold Sh.gg Sh.addT
  simp only
  rw [List.getD_eq_getElem?_getD, List.getD_eq_getElem?_getD]
  by_cases e : j = n
  · subst e
    rw [if_pos rfl, List.getElem?_append_right (by omega), hn, Nat.sub_self]; rfl
  · rw [if_neg e]
    rcases Nat.lt_or_ge j s.g.length with h | h
    · rw [List.getElem?_append_left h]
    · rw [List.getElem?_eq_none h, List.getElem?_eq_none (by simp; omega)]
theorem addT_find (T : Tree) (t : Tok) (hf : T.find t.name = none) (q : ByteArray) : (T.addT t).find q = if t.name.toList = q.toList then some T.toks.length else T.find q := by
  unfold Tree.find
  have hl : (T.addT t).toks.length = T.toks.length + 1 := by simp [Tree.addT]
  rw [hl, List.range_succ, List.find?_append]
  have e1 : (List.range T.toks.length).find? (fun i => ((T.addT t).tk i).name.toList == q.toList) = (List.range T.toks.length).find? (fun i => (T.tk i).name.toList == q.toList) := by
    have hc : ∀ (L : List Nat), (∀ i ∈ L, i < T.toks.length) → L.find? (fun i => ((T.addT t).tk i).name.toList == q.toList) = L.find? (fun i => (T.tk i).name.toList == q.toList) := by
      intro L
      induction L with
      | nil => intro _; rfl
      | cons a r ih =>
        intro hL
        have ha := hL a List.mem_cons_self
        rw [List.find?_cons, List.find?_cons, Tree.tk_addT, if_neg (by omega), ih (fun i hi => hL i (List.mem_cons_of_mem _ hi))]
    exact hc _ (fun i hi => List.mem_range.1 hi)
  rw [e1]
  by_cases e : t.name.toList = q.toList
  · rw [if_pos e]
    have hn : (List.range T.toks.length).find? (fun i => (T.tk i).name.toList == q.toList) = none := by
      have := hf
      unfold Tree.find at this
      rw [← e]; exact this
    rw [hn]
    simp [Tree.tk_addT, e]
  · rw [if_neg e]
    have : List.find? (fun i => ((T.addT t).tk i).name.toList == q.toList) [T.toks.length] = none := by
      simp [Tree.tk_addT, e]
    rw [this]; simp
theorem Tm.addT (h : Tm X w b T s) {X' : Nat → Prop} {B : Nat} {va pv wv : Value} {t : Tok} (WO : ∀ i ∈ T.ord, i < T.toks.length) (WP : ∀ j, j < T.toks.length → ∀ p ∈ (T.tk j).par, p < j) (hf : T.find t.name = none) (hB : ¬ X B) (hlB : B < w'.heap.size) (h3 : 3 ≤ B)
    (hl : ∀ p ∈ t.par, p < T.toks.length) (hwy : k56.R 56 w' 3 X' wv t.why)
    (htok : w'.heap[B]? = some (.cells (tokC t pv wv) 65 (0, 0))) (htree : w'.heap[b]? = some (.cells (s.addT B T.toks.length va pv wv).treeC 61 (0, 0)))
    (hall : w'.ownsRow 3 63 1 va (s.g.length + 1) (s.g.map pt ++ [pt B])) (hpar : w'.ownsRow 3 63 1 pv t.par.length (t.par.map fun j => pt (s.gg j)))
    (hva : ∀ k, va.ownBlock = some k → X' k ∧ (s.va.ownBlock = some k ∨ ¬ X k)) (hpv : ∀ k, pv.ownBlock = some k → X' k ∧ ¬ X k) (hvp : ∀ k, pv.ownBlock = some k → va.ownBlock ≠ some k)
    (hmap : ∃ n D, n ≤ T.toks.length + 1 ∧ w'.ownsMap Tryd.prog 9 ptrElem s.m n D ∧ ∀ q : ByteArray, D.atKey (.string q.data.toList) (.lit (.int .i64 0)) = .lit (.int .i64 (if t.name.toList = q.toList then B else T.nameN s q : Nat)))
    (hup : ∀ k, X k → X' k) (hXB : X' B) (hdom : ∀ k, X' k → 3 ≤ k ∧ k < w'.heap.size)
    (hblk : ∀ k, X k → k ≠ b → k ≠ s.m → s.va.ownBlock ≠ some k → w'.heap[k]? = w.heap[k]?) : Tm X' w' b (T.addT t) (s.addT B T.toks.length va pv wv) := by
  have hlen : (T.addT t).toks.length = T.toks.length + 1 := by simp [Tree.addT]
  have hgg := addT_gg s (B := B) (va := va) (pv := pv) (wv := wv) h.len
  have htk := fun j => Tree.tk_addT T t j
  have hsl : ∀ {k : Nat} {cs : Array Value} {t : TypeId}, w.heap[k]? = some (.cells cs t (0, 0)) → t ≠ 63 → s.va.ownBlock ≠ some k := fun hk ht => ne_row hk h.all ht
  have hsm : ∀ {k : Nat} {cs : Array Value} {t : TypeId}, w.heap[k]? = some (.cells cs t (0, 0)) → k ≠ s.m := fun hk e => by
    obtain ⟨n, D, -, h2, -⟩ := h.map
    exact ne_map hk h2 e.symm
  have rowfar : ∀ {n : Nat} {v : Value} {xs : List Value}, w.ownsRow 3 63 1 v n xs → (∀ k, v.ownBlock = some k → X k ∧ s.va.ownBlock ≠ some k) → w'.ownsRow 3 63 1 v n xs := fun hr hne => own_move hr (fun k hk => by
    obtain ⟨ds, hd⟩ := own_typed hr k hk
    exact hblk k (hne k hk).1 (fun e => ne_type h.tree hd (by decide) e.symm) (hsm hd) (hne k hk).2)
  have hgge : ∀ i, i < T.toks.length → (s.addT B T.toks.length va pv wv).gg i = s.gg i := fun i hi => by rw [hgg, if_neg (by omega)]
  have hmap2 : ∀ L : List Nat, (∀ i ∈ L, i < T.toks.length) → (L.map fun i => pt ((s.addT B T.toks.length va pv wv).gg i)) = L.map fun i => pt (s.gg i) := fun L hL => List.map_congr_left (fun i hi => by rw [hgge i (hL i hi)])
  have hord : ∀ i ∈ T.ord, i < T.toks.length := fun i hi => WO i hi
  have hBg : B ∉ s.g := fun hm => by
    rw [h.all_gg] at hm
    obtain ⟨i, hi, e⟩ := List.mem_map.1 hm
    exact hB (e ▸ h.xg i (List.mem_range.1 hi))
  refine ⟨htree, ?_, ?_, ?_, ?_, fun j hj => ?_, fun j hj => ?_, fun j hj => ?_, ?_, ?_, fun k hk hk2 => ?_, fun j k hj hk => ?_, hdom, hup _ h.xb, hup _ h.xc, hup _ h.xm, fun j hj => ?_, fun k hk => (hva k hk).1, fun k hk => hup _ (h.xo k hk), fun j k hj hk => ?_⟩
  · exact (hblk s.c h.xc (ne_type h.clock h.tree (by decide)) (hsm h.clock) (hsl h.clock (by decide))).trans h.clock
  · rw [hlen]; show (s.g ++ [B]).length = _; simp [h.len]
  · show w'.ownsRow 3 63 1 va (s.g ++ [B]).length ((s.g ++ [B]).map pt)
    rw [List.length_append, List.map_append]
    exact hall
  · show w'.ownsRow 3 63 1 s.vo T.ord.length (T.ord.map fun i => pt ((s.addT B T.toks.length va pv wv).gg i))
    rw [hmap2 _ hord]
    exact rowfar h.ord (fun k hk => ⟨h.xo k hk, fun e => h.ao k e hk⟩)
  · rw [hlen] at hj
    rw [hgg, htk]
    show w'.heap[(if j = T.toks.length then B else s.gg j)]? = some (Obj.cells (tokC (if j = T.toks.length then t else T.tk j) (if j = T.toks.length then pv else s.pv j) (if j = T.toks.length then wv else s.wv j)) 65 (0, 0))
    by_cases e : j = T.toks.length
    · rw [if_pos e, if_pos e, if_pos e, if_pos e]; exact htok
    · rw [if_neg e, if_neg e, if_neg e, if_neg e]
      have hj' : j < T.toks.length := by omega
      exact (hblk _ (h.xg j hj') (ne_type (h.tok j hj') h.tree (by decide)) (hsm (h.tok j hj')) (hsl (h.tok j hj') (by decide))).trans (h.tok j hj')
  · rw [hlen] at hj
    rw [htk]
    show w'.ownsRow 3 63 1 (if j = T.toks.length then pv else s.pv j) _ _
    by_cases e : j = T.toks.length
    · rw [if_pos e, if_pos e]
      show w'.ownsRow 3 63 1 pv t.par.length (t.par.map fun i => pt ((s.addT B T.toks.length va pv wv).gg i))
      rw [hmap2 t.par hl]; exact hpar
    · rw [if_neg e, if_neg e]
      have hj' : j < T.toks.length := by omega
      rw [hmap2 _ (fun i hi => Nat.lt_trans (WP j hj' i hi) hj')]
      exact rowfar (h.par j hj') (fun k hk => ⟨h.xp j k hj' hk, (h.pa j k hj' hk).1⟩)
  · rw [hlen] at hj
    rw [htk]
    show k56.R 56 w' 3 X' (if j = T.toks.length then wv else s.wv j) _
    by_cases e : j = T.toks.length
    · rw [if_pos e, if_pos e]; exact hwy
    · rw [if_neg e, if_neg e]
      have hj' : j < T.toks.length := by omega
      have hb := Kd.R_bound (h.why j hj')
      refine Kd.R_mono (Kd.R_move hb (fun k hk => ?_)) (fun k hk => hup k hk.1)
      obtain ⟨q, hq, cs, hc⟩ := hk.2.2.2
      have hq56 : q = 56 := by simpa [k56, Kd.iso, Kd.pair, Kd.int, Kd.string, Kd.scalar] using hq
      subst hq56
      exact hblk k hk.1 (fun e => ne_type h.tree hc (by decide) e.symm) (hsm hc) (hsl hc (by decide))
  · show (s.g ++ [B]).Nodup
    rw [List.nodup_append]
    exact ⟨h.nodup, by simp, fun a ha c hc => by rw [List.mem_singleton.1 hc]; exact fun e => hBg (e ▸ ha)⟩
  · obtain ⟨n, D, h1, h2, h3'⟩ := hmap
    refine ⟨n, D, by rw [hlen]; exact h1, h2, fun q => ?_⟩
    rw [h3']
    unfold Tree.nameN
    rw [addT_find T t hf q]
    by_cases e : t.name.toList = q.toList
    · rw [if_pos e, if_pos e]
      show DataW.lit (Lit.int .i64 (B : Int)) = .lit (.int .i64 (((s.addT B T.toks.length va pv wv).gg T.toks.length : Nat) : Int))
      rw [hgg, if_pos rfl]
    · rw [if_neg e, if_neg e]
      cases hq : T.find q with
      | none => rfl
      | some i =>
        show DataW.lit (Lit.int .i64 ((s.gg i : Nat) : Int)) = .lit (.int .i64 (((s.addT B T.toks.length va pv wv).gg i : Nat) : Int))
        rw [hgge i (Tree.find_some hq).1]
  · rcases (hva k hk).2 with h1 | h1
    · exact h.ao k h1 hk2
    · exact h1 (h.xo k hk2)
  · rw [hlen] at hj
    have hk' : (if j = T.toks.length then pv else s.pv j).ownBlock = some k := hk
    by_cases e : j = T.toks.length
    · rw [if_pos e] at hk'
      exact ⟨hvp k hk', fun e2 => (hpv k hk').2 (h.xo k e2)⟩
    · rw [if_neg e] at hk'
      have hj' : j < T.toks.length := by omega
      refine ⟨fun e2 => ?_, (h.pa j k hj' hk').2⟩
      rcases (hva k e2).2 with h1 | h1
      · exact (h.pa j k hj' hk').1 h1
      · exact h1 (h.xp j k hj' hk')
  · rw [hlen] at hj
    rw [hgg]
    by_cases e : j = T.toks.length
    · rw [if_pos e]; exact hXB
    · rw [if_neg e]; exact hup _ (h.xg j (by omega))
  · rw [hlen] at hj
    have hk' : (if j = T.toks.length then pv else s.pv j).ownBlock = some k := hk
    by_cases e : j = T.toks.length
    · rw [if_pos e] at hk'; exact (hpv k hk').1
    · rw [if_neg e] at hk'; exact hup _ (h.xp j k (by omega) hk')
end
end Go.Proofs.YtdnkedifjaccoaaDoor.Ce
namespace Go.Proofs.YtdnkedifjaccoaaDoor.Ce
open Go.RowKit Go.Maps Go.Shelf Go.Lib Go.Proofs Go.Proofs.YtdnkedifjaccoaaDoor Go.Proofs.YtdnkedifjaccoaaDoorW.PrintWords Go.Proofs.YtdnkedifjaccoaaDoorW.PrintLast Go.Proofs.YtdnkedifjaccoaaDoorW.PrintMore PToken
set_option linter.unusedVariables false
set_option linter.unusedSimpArgs false
section
variable {X : Nat → Prop} {w w' : World} {b : Nat} {T : Tree} {s : Sh}
/-- While the parents are gathered. -/
structure ClS (w : World) (s : Sh) (t : Tok) (wv : Value) (l : List Nat) (pv : Value) (wr : World) : Prop where
  bel : Below w.heap.size w wr
  tok : wr.heap[w.heap.size]? = some (.cells (tokC t pv wv) 65 (0, 0))
  row : wr.ownsRow w.heap.size 63 1 pv l.length (l.map fun i => pt (s.gg i))
theorem ClS.step {t : Tok} {wv : Value} {l : List Nat} {wr w9 : World} {Ap A9 : Option Addr} {c c9 i : Nat} (S : ClS w s t wv l (.slice Ap l.length c) wr) (hnB : (Value.slice Ap l.length c).ownBlock ≠ some w.heap.size)
    (ho : w9.ownsRow w.heap.size 63 1 (.slice A9 (l.length + 1) c9) (l.length + 1) ((l.map fun i => pt (s.gg i)) ++ [pt (s.gg i)])) (hb : Below w.heap.size wr.drew w9) (hf : w9.heap[w.heap.size]? = wr.heap[w.heap.size]?) :
    ClS w s t wv (l ++ [i]) (.slice A9 (l.length + 1) c9) (w9.setCell ⟨w.heap.size, 1, none⟩ (.slice A9 (l.length + 1) c9)) := by
  have ht := hf.trans S.tok
  refine ⟨((S.bel.trans (pw_below_drewN (Below.refl _ wr) 1)).trans hb).setCell (Nat.le_refl _) _, (blk_set ht 1 _).trans rfl, ?_⟩
  rw [List.length_append, List.map_append]
  refine own_move ho (fun k hk => far_set 1 _ (fun e => ?_))
  obtain ⟨ds, hd⟩ := own_typed ho k hk
  exact ne_type hd ht (by decide) e
/-- The token is added: behind the append, the store, and the map's turn. -/
theorem clone_add {t : Tok} {wv pv : Value} {wr w3 w5 : World} {A3 : Option Addr} {k3 n : Nat} {D : DataW Unit} (h : Tm X w b T s) (WO : ∀ i ∈ T.ord, i < T.toks.length) (WP : ∀ j, j < T.toks.length → ∀ p ∈ (T.tk j).par, p < j) (hla : LaidF w) (hf : T.find t.name = none) (S : ClS w s t wv t.par pv wr) (hl : ∀ p ∈ t.par, p < T.toks.length) (hwy : k56.R 56 w 3 X wv t.why)
    (hown : w3.ownsRow 3 63 1 (.slice A3 (T.toks.length + 1) k3) (T.toks.length + 1) (s.g.map pt ++ [pt w.heap.size])) (hg : wr.grownBy w3 s.va.ownBlock)
    (hat : (Value.slice A3 (T.toks.length + 1) k3).ownBlock = s.va.ownBlock ∨ ∃ q, (Value.slice A3 (T.toks.length + 1) k3).ownBlock = some q ∧ wr.heap.size ≤ q)
    (hmap : w5.ownsMap Tryd.prog 9 ptrElem s.m (n + 1) (D.put (.string t.name.data.toList) (.lit (.int .i64 (w.heap.size : Nat))))) (hn : n ≤ T.toks.length) (hM : IsMap D)
    (hD : ∀ q : ByteArray, D.atKey (.string q.data.toList) (.lit (.int .i64 0)) = .lit (.int .i64 (T.nameN s q : Nat)))
    (ht : Chg (fun k => k = s.m) (w3.setCell ⟨b, 1, none⟩ (.slice A3 (T.toks.length + 1) k3)) w5) :
    Api X w b (T.addT t) (Upto X w w5) w5 (s.addT w.heap.size T.toks.length (.slice A3 (T.toks.length + 1) k3) pv wv) := by
  obtain ⟨va, hva⟩ : ∃ va, va = Value.slice A3 (T.toks.length + 1) k3 := ⟨_, rfl⟩
  rw [← hva] at hown hat ht ⊢
  have hz := hla.size
  have hXb := (h.dom _ h.xb).2
  have hXm := (h.dom _ h.xm).2
  have hC : Chg (fun k => k = s.m) (w3.setCell ⟨b, 1, none⟩ va) w5 := ht
  have z1 := S.bel.size
  have z2 := hg.size
  have z3 := hC.size
  have z3' : w3.heap.size ≤ w5.heap.size := by simpa [World.setCell] using z3
  have hsm : ∀ {k : Nat} {cs : Array Value} {t : TypeId}, w.heap[k]? = some (.cells cs t (0, 0)) → k ≠ s.m := fun hk e => by
    obtain ⟨n, D, -, h2, -⟩ := h.map
    exact ne_map hk h2 e.symm
  have hvm : s.va.ownBlock ≠ some s.m := by
    obtain ⟨n, D, -, h2, -⟩ := h.map
    exact row_ne_map h.all h2
  have hvb : s.va.ownBlock ≠ some b := ne_row h.tree h.all (by decide)
  have hval : ∀ k, s.va.ownBlock = some k → k < w.heap.size := fun k hk => (h.dom k (h.xa k hk)).2
  -- far from all that was written
  have hfar : ∀ k, k < wr.heap.size → k ≠ s.m → k ≠ b → s.va.ownBlock ≠ some k → w5.heap[k]? = wr.heap[k]? := fun k k0 k1 k2 k3 => by
    have k4 : k < w3.heap.size := Nat.lt_of_lt_of_le k0 z2
    rw [hC.block k (by simpa [World.setCell] using k4) k1, far_set 1 _ k2, hg.block k k0 (fun e => k3 e.symm)]
  have htree : w5.heap[b]? = some (.cells (s.addT w.heap.size T.toks.length va pv wv).treeC 61 (0, 0)) := by
    rw [hC.block b (by have : b < w3.heap.size := by omega
                       simpa [World.setCell] using this) (hsm h.tree)]
    refine (blk_set ((hg.block b (by omega) (fun e => hvb e.symm)).trans ((S.bel.block b hXb).trans h.tree)) 1 _).trans rfl
  have hvx : s.va.ownBlock ≠ some w.heap.size := fun e => by have := hval _ e; omega
  have hxl := blk_lt S.tok
  have hva3 : ∀ k, va.ownBlock = some k → s.va.ownBlock = some k ∨ wr.heap.size ≤ k := fun k hk => by
    rcases hat with e | ⟨q, e, hq⟩
    · exact Or.inl (e ▸ hk)
    · rw [e] at hk; exact Or.inr (Option.some.inj hk ▸ hq)
  have hrow : w5.ownsRow 3 63 1 va (T.toks.length + 1) (s.g.map pt ++ [pt w.heap.size]) := own_move hown (fun k hk => by
    obtain ⟨ds, hd⟩ := own_typed hown k hk
    have k1 := blk_lt hd
    rw [hC.block k (by simpa [World.setCell] using k1) (fun e => ?_), far_set 1 _ (fun e => ?_)]
    · rcases hva3 k hk with e2 | e2
      · exact hvb (by rw [← e]; exact e2)
      · omega
    · rcases hva3 k hk with e2 | e2
      · exact hvm (by rw [← e]; exact e2)
      · omega)
  have hpb : ∀ k, pv.ownBlock = some k → w.heap.size ≤ k ∧ k < wr.heap.size ∧ k ≠ w.heap.size := fun k hk => by
    obtain ⟨ds, hd⟩ := own_typed S.row k hk
    exact ⟨own_base S.row k hk, blk_lt hd, ne_type hd S.tok (by decide)⟩
  have hparr : w5.ownsRow w.heap.size 63 1 pv t.par.length (t.par.map fun j => pt (s.gg j)) := own_move S.row (fun k hk => hfar k (hpb k hk).2.1 (by have := (hpb k hk).1; omega) (by have := (hpb k hk).1; omega) (fun e => by have := hval _ e; have := (hpb k hk).1; omega))
  have hwy5 : k56.R 56 w5 3 (Upto X w w5) wv t.why := by
    have hb := Kd.R_bound hwy
    refine Kd.R_mono (Kd.R_move hb (fun k hk => ?_)) (fun k hk => Or.inl hk.1)
    obtain ⟨q, hq, cs, hc⟩ := hk.2.2.2
    have hq56 : q = 56 := by simpa [k56, Kd.iso, Kd.pair, Kd.int, Kd.string, Kd.scalar] using hq
    subst hq56
    have hkw := blk_lt hc
    exact (hfar k (by omega) (hsm hc) (fun e => ne_type h.tree hc (by decide) e.symm) (ne_row hc h.all (by decide))).trans (S.bel.block k hkw)
  have hT := h.addT (X' := Upto X w w5) (B := w.heap.size) (va := va) (pv := pv) (wv := wv) (t := t) (w' := w5) WO WP hf (fun e => by have := (h.dom _ e).2; omega) (by omega) hz hl hwy5
    ((hfar _ hxl (by omega) (by omega) hvx).trans S.tok) htree (by rw [h.len]; exact hrow) ⟨hparr.1, hparr.2.imp id (fun ⟨g, cap, cur, h1, h2, h3⟩ => ⟨g, cap, cur, h1, Nat.le_trans hz h2, h3⟩)⟩
    (fun k hk => by
      rcases hva3 k hk with e | e
      · exact ⟨Or.inl (h.xa k e), Or.inl e⟩
      · refine ⟨Or.inr ⟨by omega, ?_⟩, Or.inr (fun e2 => by have := (h.dom _ e2).2; omega)⟩
        obtain ⟨ds, hd⟩ := own_typed hrow k hk
        exact blk_lt hd)
    (fun k hk => ⟨Or.inr ⟨(hpb k hk).1, by have := (hpb k hk).2.1; omega⟩, fun e2 => by have := (h.dom _ e2).2; have := (hpb k hk).1; omega⟩)
    (fun k hk e => by
      rcases hva3 k e with e | e
      · have := hval _ e; have := (hpb k hk).1; omega
      · have := (hpb k hk).2.1; omega)
    ⟨n + 1, _, by omega, hmap, fun q => ?_⟩ (fun k hk => Or.inl hk) (Or.inr ⟨Nat.le_refl _, by omega⟩)
    (fun k hk => hk.elim (fun h1 => ⟨(h.dom k h1).1, by have := (h.dom k h1).2; omega⟩) (fun h1 => ⟨by omega, h1.2⟩))
    (fun k hk k1 k2 k3 => by
      have := (h.dom k hk).2
      exact (hfar k (by omega) k2 k1 k3).trans (S.bel.block k this))
  · have hchg : Chg X w w5 := ⟨hC.os.trans (hg.os.trans S.bel.os), hC.tape.trans (hg.tape.trans S.bel.tape), hC.output.trans (hg.output.trans S.bel.output), by omega, fun k k1 k2 => (hfar k (by omega) (fun e => k2 (e ▸ h.xm)) (fun e => k2 (e ▸ h.xb)) (fun e => k2 (h.xa k e))).trans (S.bel.block k k1)⟩
    exact ⟨fun k hk => hk.elim Or.inl (fun h1 => Or.inr h1.1), hT, hchg, laid_chg hla hchg (fun k hk => (h.dom k hk).1)⟩
  · by_cases e : t.name.toList = q.toList
    · rw [if_pos e]
      have : t.name.data.toList = q.data.toList := by rw [← data_toList, ← data_toList]; exact e
      rw [← this, atKey_put_same hM (show WideAt.IsKeyLit (Lit.string _) from trivial)]
    · rw [if_neg e, atKey_put_other (fun k => e (by rw [data_toList, data_toList]; injection k with k; exact k.symm)), hD]
end
end Go.Proofs.YtdnkedifjaccoaaDoor.Ce
namespace Go.Proofs.YtdnkedifjaccoaaDoor.Ce
open Go.RowKit Go.Maps Go.Shelf Go.Lib Go.Proofs Go.Proofs.YtdnkedifjaccoaaDoor Go.Proofs.YtdnkedifjaccoaaDoorW.PrintWords Go.Proofs.YtdnkedifjaccoaaDoorW.PrintLast Go.Proofs.YtdnkedifjaccoaaDoorW.PrintMore PToken
set_option linter.unusedVariables false
set_option linter.unusedSimpArgs false
section
variable {T : Tree}
def Tree.upTo (T : Tree) (j : Nat) : Tree := ⟨T.now, T.toks.take j, []⟩
def Tree.ordTo (T : Tree) (k : Nat) : Tree := ⟨T.now, T.toks, T.ord.take k⟩
theorem upTo_len {j : Nat} (h : j ≤ T.toks.length) : (T.upTo j).toks.length = j := by simp [Tree.upTo, Nat.min_eq_left h]
theorem upTo_tk {j i : Nat} (h : i < j) : (T.upTo j).tk i = T.tk i := by
  unfold Tree.tk Tree.upTo
  simp only
  rw [List.getD_eq_getElem?_getD, List.getD_eq_getElem?_getD, List.getElem?_take, if_pos h]
theorem upTo_succ {j : Nat} (h : j < T.toks.length) : (T.upTo j).addT (T.tk j) = T.upTo (j + 1) := by
  unfold Tree.addT Tree.upTo Tree.tk
  simp only
  rw [List.take_add_one, List.getD_eq_getElem?_getD, List.getElem?_eq_getElem h]; rfl
theorem upTo_all : T.upTo T.toks.length = T.ordTo 0 := by unfold Tree.upTo Tree.ordTo; simp
theorem ordTo_all : T.ordTo T.ord.length = T := by unfold Tree.ordTo; simp
theorem find_of {t : Tree} (U : ∀ i j, i < t.toks.length → j < t.toks.length → (t.tk i).name.toList = (t.tk j).name.toList → i = j) {i : Nat} (hi : i < t.toks.length) : t.find (t.tk i).name = some i := by
  cases h : t.find (t.tk i).name with
  | none => exact absurd rfl (Tree.find_none h i hi)
  | some j => exact congrArg some (U j i (Tree.find_some h).1 hi (Tree.find_some h).2)
theorem upTo_find_none (G : Tree.Good T) {j : Nat} (h : j < T.toks.length) : (T.upTo j).find (T.tk j).name = none := by
  cases hf : (T.upTo j).find (T.tk j).name with
  | none => rfl
  | some i =>
    have hs := Tree.find_some hf
    rw [upTo_len (Nat.le_of_lt h)] at hs
    rw [upTo_tk hs.1] at hs
    have := G.names i j (by omega) h hs.2
    omega
theorem upTo_find (G : Tree.Good T) {j i : Nat} (h : j ≤ T.toks.length) (hi : i < j) : (T.upTo j).find (T.tk i).name = some i := by
  have := find_of (t := T.upTo j) (fun a c ha hc he => by
    rw [upTo_len h] at ha hc
    rw [upTo_tk ha, upTo_tk hc] at he
    exact G.names a c (by omega) (by omega) he) (i := i) (by rw [upTo_len h]; exact hi)
  rwa [upTo_tk hi] at this
theorem ordTo_find (G : Tree.Good T) {k i : Nat} (hi : i < T.toks.length) : (T.ordTo k).find (T.tk i).name = some i := find_of (t := T.ordTo k) G.names hi
theorem ordTo_succ (W : Tree.WF T) {k : Nat} (hk : k < T.ord.length) : (T.ordTo k).turn (T.ord.getD k 0) (T.tk (T.ord.getD k 0)).why = T.ordTo (k + 1) := by
  have hm : T.ord.getD k 0 ∈ T.ord := getD_mem hk
  have hd := (W.ord _).1 hm
  unfold Tree.turn Tree.ordTo
  have h1 : (⟨T.now, T.toks, T.ord.take k⟩ : Tree).tk (T.ord.getD k 0) = T.tk (T.ord.getD k 0) := rfl
  rw [h1]
  have h2 : T.toks.set (T.ord.getD k 0) { T.tk (T.ord.getD k 0) with done := true, why := (T.tk (T.ord.getD k 0)).why } = T.toks := by
    have h3 : ({ T.tk (T.ord.getD k 0) with done := true, why := (T.tk (T.ord.getD k 0)).why } : Tok) = T.tk (T.ord.getD k 0) := by
      have := hd.2
      cases ht : T.tk (T.ord.getD k 0) with
      | mk a b c d e => rw [ht] at this; simp only at this; subst this; rfl
    rw [h3]
    apply List.ext_getElem
    · simp
    · intro a h4 h5
      rw [List.getElem_set]
      split
      · rename_i e
        subst e
        unfold Tree.tk
        rw [List.getD_eq_getElem?_getD, List.getElem?_eq_getElem h5]; rfl
      · rfl
  simp only [h2]
  rw [List.take_add_one, List.getD_eq_getElem?_getD, List.getElem?_eq_getElem hk]; rfl
end
section
theorem q42_is (w : World) : Calls Tryd.prog 42 #[.slice none 0 0] w fun e w' => e = .returned (.slice none 0 0) ∧ w' = w := by
  have hnil := fun w => Lib.run_eql_slice_nil (P := Tryd.prog) w 85 90 none 0 0 0 0 (by kernel_rfl)
  simp only [Option.isNone] at hnil
  go_enter Tryd.func42, Tryd.ntmps42
  go_wp2_with fail
  go_ret
  exact ⟨rfl, rfl⟩
set_option maxHeartbeats 4000000 in
theorem cclone_is {w : World} {c : Nat} {n : Int} (hc : w.heap[c]? = some (.cells #[.int .i64 n, .int .i64 0, .slice none 0 0] 87 (0, 0))) : Calls Tryd.prog 24 #[.pointer (some ⟨c, 0, none⟩)] w fun e w' => e = .returned (.pointer (some ⟨w.heap.size, 0, none⟩)) ∧ w'.heap[w.heap.size]? = some (.cells #[.int .i64 n, .int .i64 0, .slice none 0 0] 87 (0, 0)) ∧ Below w.heap.size w w' := by
  have c0 : w.cell? ⟨c, 0, none⟩ = some (.int .i64 n) := (blk_cell hc 0).trans rfl
  have c1 : w.cell? ⟨c, 1, none⟩ = some (.int .i64 0) := (blk_cell hc 1).trans rfl
  have c2 : w.cell? ⟨c, 2, none⟩ = some (.slice none 0 0) := (blk_cell hc 2).trans rfl
  clear hc
  go_enter Tryd.func24, Tryd.ntmps24
  go_upto_region 1 with fail
  go_region_with (refine (q42_is _).mono ?_; rintro _ w1 ⟨rfl, rfl⟩)
  all_goals
    go_wp2_with fail
    go_ret
    exact ⟨rfl, blk_new w.drew _, (pw_below_drewN (Below.refl _ w) 1).alloc (Nat.le_refl _) _⟩
end
end Go.Proofs.YtdnkedifjaccoaaDoor.Ce
namespace Go.Proofs.YtdnkedifjaccoaaDoor.Ce
open Go.RowKit Go.Maps Go.Shelf Go.Lib Go.Proofs Go.Proofs.YtdnkedifjaccoaaDoor Go.Proofs.YtdnkedifjaccoaaDoorW.PrintWords Go.Proofs.YtdnkedifjaccoaaDoorW.PrintLast Go.Proofs.YtdnkedifjaccoaaDoorW.PrintMore PToken
set_option linter.unusedVariables false
set_option linter.unusedSimpArgs false
section
theorem Tm.newN {w : World} {b c m : Nat} {n : Int} (hla : 3 ≤ b ∧ 3 ≤ c ∧ 3 ≤ m) (hb : w.heap[b]? = some (.cells #[pt c, .slice none 0 0, .map (some m), .slice none 0 0] 61 (0, 0))) (hc : w.heap[c]? = some (.cells #[.int .i64 n, .int .i64 0, .slice none 0 0] 87 (0, 0)))
    (hm : w.ownsMap Tryd.prog 9 ptrElem m 0 (.map [])) : Tm (fun k => k = b ∨ k = c ∨ k = m) w b ⟨n, [], []⟩ ⟨c, m, .slice none 0 0, .slice none 0 0, [], fun _ => .slice none 0 0, fun _ => .slice none 0 0⟩ where
  tree := hb
  clock := hc
  len := rfl
  all := ⟨rfl, Or.inl ⟨rfl, rfl⟩⟩
  ord := ⟨rfl, Or.inl ⟨rfl, rfl⟩⟩
  tok := fun i hi => absurd hi (Nat.not_lt_zero _)
  par := fun i hi => absurd hi (Nat.not_lt_zero _)
  why := fun i hi => absurd hi (Nat.not_lt_zero _)
  nodup := List.nodup_nil
  map := ⟨0, .map [], Nat.le_refl _, hm, fun nm => rfl⟩
  ao := fun k hk => by simp [Value.ownBlock] at hk
  pa := fun i k hi => absurd hi (Nat.not_lt_zero _)
  dom := fun k hk => by
    rcases hk with rfl | rfl | rfl
    · exact ⟨hla.1, blk_lt hb⟩
    · exact ⟨hla.2.1, blk_lt hc⟩
    · exact ⟨hla.2.2, hm.lt⟩
  xb := Or.inl rfl
  xc := Or.inr (Or.inl rfl)
  xm := Or.inr (Or.inr rfl)
  xg := fun i hi => absurd hi (Nat.not_lt_zero _)
  xa := fun k hk => by simp [Value.ownBlock] at hk
  xo := fun k hk => by simp [Value.ownBlock] at hk
  xp := fun i k hi => absurd hi (Nat.not_lt_zero _)
variable {X : Nat → Prop} {w w' : World} {b : Nat} {T : Tree} {s : Sh}
/-- The copy, as far as it has come. -/
structure ClO (w : World) (b2 : Nat) (T' : Tree) (X2 : Nat → Prop) (wr : World) (s2 : Sh) : Prop where
  new : ∀ k, X2 k → w.heap.size ≤ k
  tm : Tm X2 wr b2 T' s2
  bel : Below w.heap.size w wr
  laid : LaidF wr
theorem ClO.step {b2 k i : Nat} {X2 : Nat → Prop} {wr w9 : World} {s2 : Sh} {A9 : Option Addr} {c9 : Nat} (hlw : LaidF w) (HS : ClO w b2 (T.ordTo k) X2 wr s2) (W : Tree.WF T) (hk : k < T.ord.length) (hi : T.ord.getD k 0 = i)
    (ho : w9.ownsRow w.heap.size 63 1 (.slice A9 (k + 1) c9) (k + 1) (((T.ordTo k).ord.map fun q => pt (s2.gg q)) ++ [pt (s2.gg i)])) (hb : Below w.heap.size wr.drew w9) (hg : wr.drew.grownBy w9 s2.vo.ownBlock)
    (hat : (Value.slice A9 (k + 1) c9).ownBlock = s2.vo.ownBlock ∨ ∃ q, (Value.slice A9 (k + 1) c9).ownBlock = some q ∧ wr.drew.heap.size ≤ q) :
    ∃ X' s', ClO w b2 (T.ordTo (k + 1)) X' (w9.setCell ⟨b2, 3, none⟩ (.slice A9 (k + 1) c9)) s' := by
  have h := HS.tm
  have hm : i ∈ T.ord := hi ▸ getD_mem hk
  have hin := (W.ord i).1 hm
  have hXB := h.dom _ h.xb
  have hXg := h.dom _ (h.xg i hin.1)
  have hsz := hg.size
  have hz' : wr.heap.size ≤ (w9.setCell ⟨b2, 3, none⟩ (.slice A9 (k + 1) c9)).heap.size := by simpa [World.setCell] using hsz
  have hbv : s2.vo.ownBlock ≠ some b2 := ne_row h.tree h.ord (by decide)
  have hgv : s2.vo.ownBlock ≠ some (s2.gg i) := ne_row (h.tok i hin.1) h.ord (by decide)
  have hbg : b2 ≠ s2.gg i := ne_type h.tree (h.tok i hin.1) (by decide)
  have htree9 : w9.heap[b2]? = some (.cells s2.treeC 61 (0, 0)) := (hg.block b2 hXB.2 (fun e => hbv e.symm)).trans h.tree
  have hd : ({ (T.ordTo k).tk i with done := true, why := (T.tk i).why } : Tok) = (T.ordTo k).tk i := by
    show ({ T.tk i with done := true, why := (T.tk i).why } : Tok) = T.tk i
    have := hin.2
    cases ht : T.tk i with
    | mk a b c d e => rw [ht] at this; simp only at this; subst this; rfl
  have hol : (T.ordTo k).ord.length = k := by simp [Tree.ordTo]; omega
  have ht := h.turned (w' := w9.setCell ⟨b2, 3, none⟩ (.slice A9 (k + 1) c9)) HS.laid (i := i) hin.1 (why := (T.tk i).why) (wv := s2.wv i) (vo := .slice A9 (k + 1) c9) (h.why i hin.1)
    (by rw [hd, far_set 3 _ (Ne.symm hbg), hg.block _ hXg.2 (fun e => hgv e.symm)]; exact h.tok i hin.1)
    ((blk_set htree9 3 _).trans rfl)
    (by
      rw [hol]
      have ho3 : w9.ownsRow 3 63 1 (.slice A9 (k + 1) c9) (k + 1) (((T.ordTo k).ord.map fun q => pt (s2.gg q)) ++ [pt (s2.gg i)]) := ⟨ho.1, ho.2.imp id (fun ⟨g, cap, cur, h1, h2, h3⟩ => ⟨g, cap, cur, h1, Nat.le_trans hlw.size h2, h3⟩)⟩
      exact own_move ho3 (fun q hq => far_set 3 _ (fun e => by
        subst e
        obtain ⟨ds, hds⟩ := own_typed ho _ hq
        exact ne_type htree9 hds (by decide) rfl)))
    (fun q hq => by
      rcases hat with e | ⟨r, e, hr⟩
      · exact Or.inl (e ▸ hq)
      · rw [e] at hq; exact Or.inr (Option.some.inj hq ▸ hr)) hz'
    (fun q q1 q2 q3 q4 => by rw [far_set 3 _ q3]; exact hg.block q q1 (fun e => q4 e.symm))
  have h9 : (T.ordTo k).turn i (T.tk i).why = T.ordTo (k + 1) := by
    have := ordTo_succ W hk
    rw [hi] at this; exact this
  rw [h9] at ht
  have hbel : Below w.heap.size w (w9.setCell ⟨b2, 3, none⟩ (.slice A9 (k + 1) c9)) := ((HS.bel.trans ((pw_below_drewN (Below.refl _ wr) 1).mono HS.bel.size)).trans hb).setCell (HS.new b2 h.xb) _
  have hd1 := pw_below_drewN (Below.refl wr.heap.size wr) 1
  have hc : Chg (fun q => q = b2 ∨ s2.vo.ownBlock = some q) wr (w9.setCell ⟨b2, 3, none⟩ (.slice A9 (k + 1) c9)) := ⟨hg.os.trans hd1.os, hg.tape.trans hd1.tape, hg.output.trans hd1.output, hz', fun q q1 q2 => by
      rw [far_set 3 _ (fun e => q2 (Or.inl e)), hg.block q q1 (fun e => q2 (Or.inr e.symm))]; rfl⟩
  exact ⟨_, _, fun q hq => hq.elim (HS.new q) (fun h1 => Nat.le_trans HS.bel.size h1.1), ht, hbel, laid_chg HS.laid hc (fun q hq => by
      rcases hq with e | e
      · rw [e]; exact hXB.1
      · exact (h.dom q (h.xo q e)).1)⟩
theorem Api.new_below {X' : Nat → Prop} {s' : Sh} {T' : Tree} {B : Nat} (a : Api X w b T' X' w' s') (hn : ∀ k, X k → B ≤ k) (hB : B ≤ w.heap.size) : Below B w w' :=
  ⟨a.chg.os, a.chg.tape, a.chg.output, a.chg.size, fun k hk => a.chg.block k (Nat.lt_of_lt_of_le hk hB) (fun e => Nat.not_le_of_lt hk (hn k e))⟩
end
end Go.Proofs.YtdnkedifjaccoaaDoor.Ce
