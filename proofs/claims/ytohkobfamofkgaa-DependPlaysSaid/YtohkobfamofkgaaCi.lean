/- The circle of a task and a cell, in plain Lean, and what the walk of circle, Ask and Wait shows: for every web. -/
import Derived.Test.YtohkobfamofkgaaBg
import Derived.Test.YtohkobfamofkgaaQt1
namespace Go.Proofs.Ytohkobfamofkgaa.Wb
open Go.RowKit Go.Maps Go.Proofs.Ytohkobfamofkgaa Go.Proofs.YtohkobfamofkgaaW.PrintWords Go.Proofs.YtohkobfamofkgaaW.PrintLast Go.Proofs.YtohkobfamofkgaaW.PrintMore

/-- Where a number lies first. -/
def pos (a : Int) : List Int → Nat
  | [] => 0
  | x :: l => if x = a then 0 else pos a l + 1
theorem pos_lt {a : Int} : ∀ {l : List Int}, a ∈ l → pos a l < l.length
  | [], h => absurd h (by simp)
  | x :: l, h => by
    unfold pos
    split
    · simp
    · rename_i hne
      have := pos_lt (l := l) (by rcases List.mem_cons.1 h with e | e; exact absurd e.symm hne; exact e)
      simp; omega
theorem pos_at {a : Int} : ∀ {l : List Int}, a ∈ l → l[pos a l]? = some a
  | [], h => absurd h (by simp)
  | x :: l, h => by
    unfold pos
    split
    · rename_i e; subst e; rfl
    · rename_i hne
      rw [List.getElem?_cons_succ]
      exact pos_at (by rcases List.mem_cons.1 h with e | e; exact absurd e.symm hne; exact e)
theorem pos_before {a : Int} : ∀ {l : List Int} {q : Nat}, q < pos a l → l[q]? ≠ some a
  | [], q, h => absurd h (by simp [pos])
  | x :: l, q, h => by
    unfold pos at h
    split at h
    · exact absurd h (by simp)
    · rename_i hne
      cases q with
      | zero => intro e; injection e with e; exact hne e
      | succ q => rw [List.getElem?_cons_succ]; exact pos_before (by omega)
def after (a : Int) (l : List Int) : List Int := l.drop (pos a l)
theorem after_length {a : Int} {l : List Int} : (after a l).length = l.length - pos a l := by unfold after; simp

/-- Index tells it. -/
theorem index_from (a : Int) (l : List Int) (hl : l.length < 1000000) (hm : a ∈ l) : ∀ d j k, pos a l = j + d → d < k → PDependTells.slices_Index_int_int.l0 k l a (l.length : Int) (j : Int) = some ((pos a l : Nat) : Int) := by
  have hp := pos_lt hm
  intro d
  induction d with
  | zero =>
    intro j k hj hk
    obtain ⟨k, rfl⟩ : ∃ q, k = q + 1 := ⟨k - 1, by omega⟩
    simp only [PDependTells.slices_Index_int_int.l0]
    have hr : a = rd l (j : Int) := by
      unfold rd
      rw [List.getD_eq_getElem?_getD, Int.toNat_natCast, show j = pos a l by omega, pos_at hm]; rfl
    rw [if_pos (by omega), if_pos (by omega), if_pos (by omega), if_pos hr, show j = pos a l by omega]
  | succ d ih =>
    intro j k hj hk
    obtain ⟨k, rfl⟩ : ∃ q, k = q + 1 := ⟨k - 1, by omega⟩
    simp only [PDependTells.slices_Index_int_int.l0]
    have hr : ¬ a = rd l (j : Int) := by
      intro e
      unfold rd at e
      rw [List.getD_eq_getElem?_getD, Int.toNat_natCast, List.getElem?_eq_getElem (by omega)] at e
      exact pos_before (a := a) (l := l) (q := j) (by omega) (by rw [List.getElem?_eq_getElem (by omega)]; exact congrArg some e.symm)
    have hw : wrap64 ((j : Int) + 1) = ((j + 1 : Nat) : Int) := by
      unfold wrap64; omega
    rw [if_pos (by omega), if_pos (by omega), if_pos (by omega), if_neg hr, hw]
    exact ih (j + 1) k (by omega) (by omega)
theorem index_tells (a : Int) (l : List Int) (hl : l.length < 1000000) (hm : a ∈ l) : PDependTells.slices_Index_int_int.f (l.length + 1) l a = some ((pos a l : Nat) : Int) :=
  index_from a l hl hm (pos a l) 0 _ (by omega) (by have := pos_lt hm; omega)

/-- A web whose numbers are in their places. -/
structure Wf (m : Web) : Prop where
  run : ∀ c, c < 256 → m.run c = 0 ∨ ∃ r : Nat, r < 128 ∧ m.run c = (r : Int) + 1 ∧ (c : Int) ∈ m.ls r
  wai : ∀ t, t < 128 → m.wai t = 0 ∨ ∃ c : Nat, c < 256 ∧ m.wai t = (c : Int) + 1
  len : ∀ t, t < 128 → (m.ls t).length ≤ 48

/-- The way from a cell to a task, cell by cell; nothing: it does not come there. -/
def circ (m : Web) (task : Nat) : Nat → Nat → Option (List Int)
  | 0, _ => none
  | n + 1, c => if m.run c = 0 then none else if (m.run c - 1).toNat = task then some (after (c : Int) (m.ls (m.run c - 1).toNat)) else
      if m.wai (m.run c - 1).toNat = 0 then none else (circ m task n (m.wai (m.run c - 1).toNat - 1).toNat).map (after (c : Int) (m.ls (m.run c - 1).toNat) ++ ·)
/-- n steps are enough. -/
def ends (m : Web) (task : Nat) : Nat → Nat → Prop
  | 0, _ => False
  | n + 1, c => m.run c = 0 ∨ (m.run c - 1).toNat = task ∨ m.wai (m.run c - 1).toNat = 0 ∨ ends m task n (m.wai (m.run c - 1).toNat - 1).toNat
def circle (m : Web) (task n c : Nat) : List Int := if (m.ls task).length = 0 then [] else (circ m task n c).getD []

theorem circle_none (B : Nat) (w : World) (b : Nat) (V : Nat → Value) (m : Web) (t c n : Nat) (ht : t < 128) (h : At B w b V m) (hl : (m.ls t).length = 0) :
    Calls Try.prog 43 #[.pointer (some ⟨b, 0, none⟩), .int .i64 t, .int .i64 c] w fun e w' => ∃ v, e = .returned v ∧ Row w.heap.size w' v (circle m t n c) ∧ Below w.heap.size w w' := by
  have HE := Lib.hid (show circle m t n c = [] by unfold circle; rw [if_pos hl])
  have c2 := h.blk.stack ht
  obtain ⟨A, cap, e⟩ := (h.row t (by omega)).shape
  rw [e, hl] at c2
  have ht' : (t : Int) < 128 := by omega
  clear h e hl
  go_enter Try.func43, Try.ntmps43
  go_wp2
  go_loopw [2, 7] (fun l k wr => l = .int .i64 c ∧ k = .slice none 0 0 ∧ wr = w) (fun _ _ _ => 0)
  case atStart => exact ⟨rfl, rfl, rfl⟩
  case round =>
    obtain ⟨rfl, rfl, rfl⟩ := hrel
    go_wp2
    go_ret
    rw [HE.out]
    exact ⟨_, rfl, ⟨rfl, Or.inl ⟨rfl, rfl⟩⟩, Below.refl _ _⟩

theorem below_drewN {B : Nat} {a w : World} (h : Below B a w) (k : Nat) : Below B a (w.drewN k) := ⟨h.os, h.tape, h.output, h.size, h.block⟩

/-- What one step of the way needs. -/
structure Stp (B : Nat) (w0 wr : World) (b : Nat) (V : Nat → Value) (m : Web) (t n c : Nat) (o : List Int) (v : Value) (R : List Int) : Prop where
  at_ : At B wr b V m
  row : Row w0.heap.size wr v o
  bel : Below w0.heap.size w0 wr
  ends : ends m t n c
  len : o.length + n * 48 ≤ 100000
  res : R = ((circ m t n c).map (o ++ ·)).getD []

theorem circ_zero {m : Web} {t n c : Nat} (h : m.run c = 0) : circ m t (n + 1) c = none := by unfold circ; rw [if_pos h]
theorem circ_hit {m : Web} {t n c : Nat} (h : m.run c = (t : Int) + 1) : circ m t (n + 1) c = some (after (c : Int) (m.ls t)) := by
  have e : (m.run c - 1).toNat = t := by omega
  unfold circ; rw [e, if_neg (by omega), if_pos rfl]
theorem circ_end {m : Web} {t n c r : Nat} (h : m.run c = (r : Int) + 1) (hne : r ≠ t) (hw : m.wai r = 0) : circ m t (n + 1) c = none := by
  have e : (m.run c - 1).toNat = r := by omega
  unfold circ; rw [e, if_neg (by omega), if_neg hne, if_pos hw]
theorem circ_on {m : Web} {t n c r d : Nat} (h : m.run c = (r : Int) + 1) (hne : r ≠ t) (hw : m.wai r = (d : Int) + 1) : circ m t (n + 1) c = (circ m t n d).map (after (c : Int) (m.ls r) ++ ·) := by
  have e : (m.run c - 1).toNat = r := by omega
  have e2 : (m.wai r - 1).toNat = d := by omega
  conv => lhs; unfold circ
  rw [e, if_neg (by omega), if_neg hne, if_neg (by omega), e2]
theorem ends_on {m : Web} {t n c r d : Nat} (hh : ends m t (n + 1) c) (h : m.run c = (r : Int) + 1) (hne : r ≠ t) (hw : m.wai r = (d : Int) + 1) : ends m t n d := by
  have e : (m.run c - 1).toNat = r := by omega
  have e2 : (m.wai r - 1).toNat = d := by omega
  unfold ends at hh
  rw [e, e2] at hh
  rcases hh with h1 | h1 | h1 | h1
  · omega
  · exact absurd h1 hne
  · omega
  · exact h1

theorem Row.full {B : Nat} {w : World} {v : Value} {l : List Int} (h : Row B w v l) (hl : l ≠ []) : ∃ g cap cur, v = .slice (some ⟨g, 0, none⟩) l.length cap ∧ w.heap[g]? = some (.cells cur 3 (0, 0)) ∧ l.length ≤ cap ∧ cap ≤ maxLen ∧ cur.toList.take l.length = l.map (Value.int .i64) := by
  rcases h.cases with ⟨_, rfl⟩ | ⟨g, cap, cur, rfl, _, hb, hc, hm, _, ht⟩
  · exact absurd rfl hl
  · exact ⟨g, cap, cur, rfl, hb, hc, hm, ht⟩
theorem row_C {w : World} {g : Nat} {cur : Array Value} {l : List Int} (hb : w.heap[g]? = some (.cells cur 3 (0, 0))) (hm : l.length ≤ maxLen) (ht : cur.toList.take l.length = l.map (Value.int .i64)) : Kd.C (Kd.int .i64) w (some ⟨g, 0, none⟩) l.length l := by
  refine ⟨rfl, by unfold maxLen at hm; omega, fun _ => ⟨⟨g, 0, none⟩, rfl, fun j x hj => ?_⟩⟩
  refine ⟨[.int .i64 x], rfl, rfl, fun i u hu => ?_⟩
  cases i with
  | zero =>
    simp at hu
    subst hu
    rw [add_off]
    show w.cell? ⟨g, j * 1 + 0, none⟩ = _
    rw [Nat.mul_one, Nat.add_zero]
    exact row_cells hb ht j x hj
  | succ i => simp at hu
/-- The numbers from one on, as append asks for them. -/
theorem news_from {w : World} {g p : Nat} {cur : Array Value} {l : List Int} (hb : w.heap[g]? = some (.cells cur 3 (0, 0))) (ht : cur.toList.take l.length = l.map (Value.int .i64)) (hp : p ≤ l.length) :
    ((l.drop p).map (Value.int .i64)).length = (l.length - p) * 1 ∧ (∀ j u, ((l.drop p).map (Value.int .i64))[j]? = some u → w.cell? ((⟨g, p, none⟩ : Addr).add j) = some u) ∧ ∀ u ∈ (l.drop p).map (Value.int .i64), u.oneCell' = true := by
  refine ⟨by simp, fun j u hu => ?_, fun u hu => ?_⟩
  · have e : (⟨g, p, none⟩ : Addr).add j = ⟨g, p + j, none⟩ := by
      unfold Addr.add
      split
      · rename_i h; subst h; rfl
      · rfl
    rw [e]
    rw [List.getElem?_map, List.getElem?_drop] at hu
    cases hj : l[p + j]? with
    | none => rw [hj] at hu; exact absurd hu (by simp)
    | some x => rw [hj] at hu; simp at hu; subst hu; exact row_cells hb ht _ x hj
  · obtain ⟨x, _, rfl⟩ := List.mem_map.1 hu; rfl

set_option maxHeartbeats 4000000 in
set_option maxRecDepth 100000 in
theorem circle_some (B : Nat) (w : World) (b : Nat) (V : Nat → Value) (m : Web) (t c n : Nat) (ht : t < 128) (hc : c < 256) (h : At B w b V m) (wf : Wf m) (he : ends m t n c) (hn : n ≤ 1000) (hl : ¬ (m.ls t).length = 0) :
    Calls Try.prog 43 #[.pointer (some ⟨b, 0, none⟩), .int .i64 t, .int .i64 c] w fun e w' => ∃ v, e = .returned v ∧ Row w.heap.size w' v (circle m t n c) ∧ Below w.heap.size w w' := by
  have HE := Lib.hid (show circle m t n c = (circ m t n c).getD [] by unfold circle; rw [if_neg hl])
  have HW := Lib.hid wf
  have HA := Lib.hid h
  have ht' : (t : Int) < 128 := by omega
  have hl0 : (0 : Int) < (m.ls t).length := by omega
  have HS := Lib.hid (show Stp B w w b V m t n c [] (.slice none 0 0) (circle m t n c) from ⟨h, ⟨rfl, Or.inl ⟨rfl, rfl⟩⟩, Below.refl _ _, he, by simp; omega, by rw [HE.out]; cases circ m t n c <;> simp⟩)
  have HC := Lib.hid hc
  obtain ⟨A, cap, e⟩ := (h.row t (by omega)).shape
  have HV := Lib.hid e
  obtain ⟨i0, hi, hz0, hz1, hz2⟩ := info_parts info3
  have HI := Lib.hid (And.intro hi (And.intro hz0 (And.intro hz1 hz2)))
  clear h e hl wf he hc hi hz0 hz1 hz2
  generalize circle m t n c = R at *
  go_enter Try.func43, Try.ntmps43
  go_wp2
  go_loopg [2, 7] n (fun gk l k wr => ∃ (c' : Nat) (o : List Int), l = .int .i64 c' ∧ c' < 256 ∧ Hid (Stp B w wr b V m t gk c' o k R))
  case atStart => exact ⟨c, [], rfl, HC.out, HS⟩
  case round =>
    obtain ⟨c', o, rfl, hc', HY⟩ := hrel
    have hc2 : (c' : Int) < 256 := by omega
    clear HS HC
    cases gk with
    | zero => exact absurd HY.out.ends (by simp [ends])
    | succ k1 =>
    have q0 := HY.out.at_.blk.stack ht
    rw [HV.out] at q0
    have q1 := HY.out.at_.blk.runner hc'
    rcases HW.out.run c' hc' with hr | ⟨r, hr, hr1, hm⟩
    · rw [hr] at q1
      have HR := Lib.hid (show R = [] by rw [HY.out.res, circ_zero hr]; rfl)
      clear hr
      go_wp2
      go_ret
      exact ⟨_, rfl, by rw [HR.out]; exact ⟨rfl, Or.inl ⟨rfl, rfl⟩⟩, HY.out.bel⟩
    · rw [hr1] at q1
      have q2 := HY.out.at_.blk.stack hr
      have hne : m.ls r ≠ [] := fun e => by rw [e] at hm; exact absurd hm (by simp)
      obtain ⟨g, cap2, cur, e2, hb, hcap, hmx, hx⟩ := (HY.out.at_.row r (by omega)).full hne
      have HE2 := Lib.hid e2
      rw [e2] at q2
      have q3 := HY.out.at_.blk.waits hr
      have hr2 : (r : Int) < 128 := by omega
      have hw1 : IntKind.i64.wrap ((r : Int) + 1 - 1) = r := by rw [IntWalk.i64_in _ (by omega)]; omega
      have hp := pos_lt hm
      have hlen := HW.out.len r hr
      have HN := Lib.hid (news_from hb hx (Nat.le_of_lt hp))
      have HI2 := Lib.hid (index_tells (c' : Int) (m.ls r) (by omega) hm)
      have HK := Lib.hid (row_C hb (by omega) hx)
      have HCP := Lib.hid hcap
      have HR1 := Lib.hid hr1
      have hp1 : ((pos (c' : Int) (m.ls r) : Nat) : Int) ≤ (m.ls r).length := by omega
      have hp2 : ((m.ls r).length : Int) ≤ cap2 := by omega
      clear e2 hr1 hm hne hb hx hmx
      have HO := Lib.hid (show (∀ k, Row w.heap.size (wr.drewN k) u7 o) ∧ o.length + ((m.ls r).length - pos (c' : Int) (m.ls r)) ≤ maxLen ∧ (o.length + ((m.ls r).length - pos (c' : Int) (m.ls r))) * 8 ≤ 140737488355328 ∧ w.heap.size ≤ wr.heap.size from ⟨fun _ => HY.out.row, by have := HY.out.len; unfold maxLen; omega, by have := HY.out.len; omega, HY.out.bel.size⟩)
      have hcase : r = t ∨ (r ≠ t ∧ m.wai r = 0) ∨ (r ≠ t ∧ ∃ d : Nat, d < 256 ∧ m.wai r = (d : Int) + 1) := by
        by_cases e : r = t
        · exact Or.inl e
        · rcases HW.out.wai r hr with h | h
          · exact Or.inr (Or.inl ⟨e, h⟩)
          · exact Or.inr (Or.inr ⟨e, h⟩)
      rcases hcase with rfl | ⟨hne, hwa⟩ | ⟨hne, d, hd, hwa⟩
      · have HRR := Lib.hid (show R = o ++ after (c' : Int) (m.ls r) by rw [HY.out.res, circ_hit HR1.out]; rfl)
        go_wp2_with (first | (go_at_call 50; refine (PDependTells.slices_Index_int_int.calls _ (some ⟨g, 0, none⟩) cap2 (m.ls r) (c' : Int) _ _ HK.out HCP.out HI2.out).mono ?_; rintro _ w1 ⟨rfl, m1, rfl⟩) | (at_builtin; refine wpList_append_own_at _ rfl _ _ 22 rfl w.heap.size 3 i0 (.int .i64 0) 1 8 Try.underlying22 HI.out.1 HI.out.2.1 HI.out.2.2.1 HI.out.2.2.2 rfl (by decide) u7 o.length _ rfl (HO.out.1 m1) ⟨g, pos (c' : Int) (m.ls r), none⟩ ((m.ls r).length - pos (c' : Int) (m.ls r)) (cap2 - pos (c' : Int) (m.ls r)) _ rfl HN.out.1 HN.out.2.1 HN.out.2.2 HO.out.2.1 HO.out.2.2.1 HO.out.2.2.2 ?_; intro v' w' hown hgrow hnil hloc; have HRW := Lib.hid (show Row w.heap.size w' v' (o ++ after (c' : Int) (m.ls r)) from by unfold Row after; rw [List.length_append, List.map_append, List.length_drop]; exact hown); have HB := Lib.hid (show Below w.heap.size w w' from (below_drewN HY.out.bel m1).grown hgrow HO.out.2.2.2 (fun k hk => (HY.out.row.block hk).1)); clear hown hgrow hnil hloc; have q4 := (HA.out.below HB.out).blk.waits hr; skip))
        go_ret
        exact ⟨_, rfl, by rw [HRR.out]; exact HRW.out, HB.out⟩
      · have HRR := Lib.hid (show R = [] by rw [HY.out.res, circ_end HR1.out hne hwa]; rfl)
        have hb1 : ((r : Int) == (t : Int)) = false := by simpa using (fun e => hne (by omega))
        have HWA := Lib.hid hwa
        clear hwa hne q3
        go_wp2_with (first | (go_at_call 50; refine (PDependTells.slices_Index_int_int.calls _ (some ⟨g, 0, none⟩) cap2 (m.ls r) (c' : Int) _ _ HK.out HCP.out HI2.out).mono ?_; rintro _ w1 ⟨rfl, m1, rfl⟩) | (at_builtin; refine wpList_append_own_at _ rfl _ _ 22 rfl w.heap.size 3 i0 (.int .i64 0) 1 8 Try.underlying22 HI.out.1 HI.out.2.1 HI.out.2.2.1 HI.out.2.2.2 rfl (by decide) u7 o.length _ rfl (HO.out.1 m1) ⟨g, pos (c' : Int) (m.ls r), none⟩ ((m.ls r).length - pos (c' : Int) (m.ls r)) (cap2 - pos (c' : Int) (m.ls r)) _ rfl HN.out.1 HN.out.2.1 HN.out.2.2 HO.out.2.1 HO.out.2.2.1 HO.out.2.2.2 ?_; intro v' w' hown hgrow hnil hloc; have HRW := Lib.hid (show Row w.heap.size w' v' (o ++ after (c' : Int) (m.ls r)) from by unfold Row after; rw [List.length_append, List.map_append, List.length_drop]; exact hown); have HB := Lib.hid (show Below w.heap.size w w' from (below_drewN HY.out.bel m1).grown hgrow HO.out.2.2.2 (fun k hk => (HY.out.row.block hk).1)); clear hown hgrow hnil hloc; have q4 := (HA.out.below HB.out).blk.waits hr; rw [HWA.out] at q4))
        go_ret
        exact ⟨_, rfl, by rw [HRR.out]; exact ⟨rfl, Or.inl ⟨rfl, rfl⟩⟩, HB.out⟩
      · have hb1 : ((r : Int) == (t : Int)) = false := by simpa using (fun e => hne (by omega))
        have hb2 : ((d : Int) + 1 == 0) = false := by simpa using (by omega : ¬ (d : Int) + 1 = 0)
        have hw2 : IntKind.i64.wrap ((d : Int) + 1 - 1) = d := by rw [IntWalk.i64_in _ (by omega)]; omega
        have HWA := Lib.hid hwa
        have HNE := Lib.hid hne
        clear hwa hne q3
        go_wp2_with (first | (go_at_call 50; refine (PDependTells.slices_Index_int_int.calls _ (some ⟨g, 0, none⟩) cap2 (m.ls r) (c' : Int) _ _ HK.out HCP.out HI2.out).mono ?_; rintro _ w1 ⟨rfl, m1, rfl⟩) | (at_builtin; refine wpList_append_own_at _ rfl _ _ 22 rfl w.heap.size 3 i0 (.int .i64 0) 1 8 Try.underlying22 HI.out.1 HI.out.2.1 HI.out.2.2.1 HI.out.2.2.2 rfl (by decide) u7 o.length _ rfl (HO.out.1 m1) ⟨g, pos (c' : Int) (m.ls r), none⟩ ((m.ls r).length - pos (c' : Int) (m.ls r)) (cap2 - pos (c' : Int) (m.ls r)) _ rfl HN.out.1 HN.out.2.1 HN.out.2.2 HO.out.2.1 HO.out.2.2.1 HO.out.2.2.2 ?_; intro v' w' hown hgrow hnil hloc; have HRW := Lib.hid (show Row w.heap.size w' v' (o ++ after (c' : Int) (m.ls r)) from by unfold Row after; rw [List.length_append, List.map_append, List.length_drop]; exact hown); have HB := Lib.hid (show Below w.heap.size w w' from (below_drewN HY.out.bel m1).grown hgrow HO.out.2.2.2 (fun k hk => (HY.out.row.block hk).1)); clear hown hgrow hnil hloc; have q4 := (HA.out.below HB.out).blk.waits hr; rw [HWA.out] at q4))
        go_roundg k1
        case measure => omega
        case rel => exact ⟨d, _, rfl, hd, Lib.hid ⟨HA.out.below HB.out, HRW.out, HB.out, ends_on HY.out.ends HR1.out HNE.out HWA.out, by have := HY.out.len; rw [List.length_append, after_length]; omega, by rw [HY.out.res, circ_on HR1.out HNE.out HWA.out, Option.map_map]; congr 2; funext x; exact (List.append_assoc _ _ _).symm⟩⟩
end Go.Proofs.Ytohkobfamofkgaa.Wb
