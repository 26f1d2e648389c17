/- What value.Check answers: a value's atoms, by a stack of the depths of the wholes. -/
import Derived.Test.YtchbammjcnhkiaaDoorCw
import Derived.Test.YtchbammjcnhkiaaDoorQf
import Derived.Deep.RegionLaw
namespace Go.Proofs.YtchbammjcnhkiaaDoor.Ce
open Go.RowKit Go.Maps Go.Proofs.YtchbammjcnhkiaaDoor Go.Proofs.YtchbammjcnhkiaaDoorW.PrintWords Go.Proofs.YtchbammjcnhkiaaDoorW.PrintLast Go.Proofs.YtchbammjcnhkiaaDoorW.PrintMore PCellPlays
attribute [local go_sem] max2_int min2_int max_two min_two max_three min_three
def vWell (a : S80) : Bool := (value_well.f a.f0 a.f1 a.f2 a.f3).getD false
theorem vWell_some (a : S80) : value_well.f a.f0 a.f1 a.f2 a.f3 = some (vWell a) := by
  unfold vWell value_well.f
  repeat' split
  all_goals rfl
theorem vWell_n {a : S80} (h : vWell a = true) : 0 ≤ a.f1 := by
  have h1 := vWell_some a
  rw [h] at h1
  unfold value_well.f at h1
  repeat' split at h1
  all_goals first | omega | (simp at h1; done)
/-- How deep a whole over some wholes is. -/
def deepOf (l : List Int) : Int := l.foldl (fun m x => max m (x + 1)) 1
def vStep (st : List Int) (a : S80) : Option (List Int) :=
  if vWell a = true ∧ a.f1 ≤ st.length ∧ deepOf (st.drop (st.length - a.f1.toNat)) ≤ 32 then some (st.take (st.length - a.f1.toNat) ++ [deepOf (st.drop (st.length - a.f1.toNat))]) else none
def vRun : List Int → List S80 → Option (List Int)
  | st, [] => some st
  | st, a :: l => (vStep st a).bind fun s => vRun s l
def vWhole (l : List S80) : Bool := match vRun [] l with
  | some st => st.length == 1
  | none => false
theorem vRun_snoc : ∀ (l : List S80) (st : List Int) (a : S80), vRun st (l ++ [a]) = (vRun st l).bind fun s => vStep s a
  | [], st, a => by simp [vRun]
  | b :: l, st, a => by
    simp only [List.cons_append, vRun, Option.bind_assoc]
    congr 1
    funext s
    exact vRun_snoc l s a
theorem vRun_none : ∀ (l r : List S80) (st : List Int), vRun st l = none → vRun st (l ++ r) = none
  | [], r, st, h => by simp [vRun] at h
  | a :: l, r, st, h => by
    simp only [List.cons_append, vRun] at h ⊢
    cases hs : vStep st a with
    | none => rfl
    | some s => rw [hs] at h; exact vRun_none l r s h
theorem take_snoc (l : List S80) (i : Int) (h0 : 0 ≤ i) (h1 : i < l.length) : l.take (i.toNat + 1) = l.take i.toNat ++ [rd_T80 l i] := by
  have hi : i.toNat < l.length := by omega
  rw [List.take_add_one, List.getElem?_eq_getElem hi]
  simp [rd_T80, List.getD, List.getElem?_eq_getElem hi]
theorem vWhole_no (l : List S80) (i : Int) (h0 : 0 ≤ i) (h1 : i < l.length) (st : List Int) (hr : vRun [] (l.take i.toNat) = some st) (hs : vStep st (rd_T80 l i) = none) : vWhole l = false := by
  have h2 : vRun [] (l.take (i.toNat + 1)) = none := by rw [take_snoc l i h0 h1, vRun_snoc, hr]; exact hs
  have h3 := vRun_none _ (l.drop (i.toNat + 1)) _ h2
  rw [List.take_append_drop] at h3
  unfold vWhole
  rw [h3]
theorem vRun_len : ∀ (l : List S80) (st s : List Int), vRun st l = some s → s.length ≤ st.length + l.length
  | [], st, s, h => by simp [vRun] at h; subst h; simp
  | a :: l, st, s, h => by
    simp only [vRun] at h
    cases hs : vStep st a with
    | none => rw [hs] at h; exact absurd h (by simp)
    | some t =>
      rw [hs] at h
      have := vRun_len l t s h
      have ht : t.length ≤ st.length + 1 := by
        unfold vStep at hs
        split at hs
        · obtain rfl := Option.some.inj hs
          simp only [List.length_append, List.length_take, List.length_singleton]
          omega
        · exact absurd hs (by simp)
      simp only [List.length_cons]
      omega
def Out (B : Nat) (wr : World) (g n : Nat) : Prop := B ≤ g ∧ ∃ cur, wr.heap[g]? = some (.cells cur 99 (0, 0)) ∧ 2 * n ≤ cur.size
theorem Out.of {B : Nat} {ok : Nat → Prop} {w : World} {v : Value} {n : Nat} {xs : List S99} (h : Kd.R k99 99 w B ok v xs) (hx : xs.length = n) (hn : ∃ b, v.ownBlock = some b) : ∃ g cap, v = .slice (some ⟨g, 0, none⟩) n cap ∧ Out B w g n := by
  obtain ⟨_, inner, ⟨h1, h2⟩, _⟩ := h
  rcases h2 with ⟨rfl, _⟩ | ⟨g, cap, cur, rfl, hg, hh, hc, _, hs, _⟩
  · obtain ⟨b, hb⟩ := hn
    exact absurd hb (by simp [Value.ownBlock])
  · subst hx
    exact ⟨g, cap, rfl, hg, cur, hh, by rw [hs]; show 2 * xs.length ≤ cap * 2; omega⟩
structure VInv (w wr : World) (l : List S80) (g : Nat) (v5 : Value) (i : Int) (st : List S99) : Prop where
  lo : 0 ≤ i
  hi : i ≤ l.length
  run : vRun [] (l.take i.toNat) = some (st.map S99.f1)
  dep : ∀ x ∈ st, 1 ≤ x.f1 ∧ x.f1 ≤ 32
  row : Kd.R k99 99 wr w.heap.size (fun k => k ≠ g) v5 st
  out : Out w.heap.size wr g l.length
  bel : Below w.heap.size w wr
theorem VInv.lt {w wr : World} {l : List S80} {g : Nat} {v5 : Value} {i : Int} {st : List S99} (h : VInv w wr l g v5 i st) : g < wr.heap.size := by
  obtain ⟨_, cur, hh, _⟩ := h.out
  exact blk_lt hh
theorem VInv.cell {w wr : World} {l : List S80} {g : Nat} {v5 : Value} {i : Int} {st : List S99} (h : VInv w wr l g v5 i st) (hl : i < l.length) : ∃ x y, wr.cell? ⟨g, i.toNat * 2, none⟩ = some x ∧ wr.cell? ⟨g, i.toNat * 2 + 1, none⟩ = some y ∧ ∀ k, wr.frozen? ⟨g, k, none⟩ = false := by
  obtain ⟨_, cur, hh, hs⟩ := h.out
  have := h.lo
  exact ⟨cur[i.toNat * 2]'(by omega), cur[i.toNat * 2 + 1]'(by omega), (blk_cell hh _).trans (by simp), (blk_cell hh _).trans (by simp), fun k => blk_frozen hh k⟩
theorem VInv.store {w wr : World} {l : List S80} {g : Nat} {v5 : Value} {i : Int} {st : List S99} (h : VInv w wr l g v5 i st) (j : Nat) (u : Value) : VInv w (wr.setCell ⟨g, j, none⟩ u) l g v5 i st := by
  obtain ⟨h0, cur, hh, hs⟩ := h.out
  exact ⟨h.lo, h.hi, h.run, h.dep, Kd.R_far h.row (p := ⟨g, j, none⟩) (fun k hk => hk) u, ⟨h0, _, blk_set hh j u, by simpa using hs⟩,
    Chg.below h.bel ((Chg.refl (· = g) wr).setCell (p := ⟨g, j, none⟩) rfl u) (fun i hi => hi ▸ h0) h.bel.size⟩
theorem below_via {w w3 : World} {o : Obj} (h : Below (w.alloc o).heap.size (w.alloc o) w3) : Below w.heap.size w w3 :=
  ⟨h.os, h.tape, h.output, by have := h.size; simp at this; omega, fun i hi => (h.block i (by simp; omega)).trans (Below.heap_alloc w o i hi)⟩
theorem VInv.below {w wr w3 : World} {l : List S80} {g : Nat} {v5 : Value} {i : Int} {st : List S99} (h : VInv w wr l g v5 i st) (hb : Below wr.heap.size wr w3) : VInv w w3 l g v5 i st := by
  obtain ⟨hg, cur, hh, hs⟩ := h.out
  exact ⟨h.lo, h.hi, h.run, h.dep, Kd.R_below h.row hb, ⟨hg, cur, blk_below hh hb, hs⟩, below_step h.bel hb⟩
theorem vStep_no {st : List S99} {a : S80} (h : ¬ (vWell a = true ∧ a.f1 ≤ st.length)) : vStep (st.map S99.f1) a = none := by
  unfold vStep
  rw [if_neg]
  rintro ⟨h1, h2, _⟩
  exact h ⟨h1, by simpa using h2⟩
structure WIn (w3 wr : World) (l : List S99) (j fr dp : Int) : Prop where
  lo : 0 ≤ j
  hi : j ≤ l.length
  blk : wr.heap[w3.heap.size]? = some (.cells #[.int .i64 fr, .int .i64 dp] 99 (0, 0))
  deep : dp = deepOf ((l.take j.toNat).map S99.f1)
  d1 : 1 ≤ dp
  d2 : dp ≤ 33
  bel : Below w3.heap.size w3 wr
theorem deep_snoc (l : List S99) (j : Int) (h0 : 0 ≤ j) (h1 : j < l.length) : deepOf ((l.take (j + 1).toNat).map S99.f1) = max (deepOf ((l.take j.toNat).map S99.f1)) ((rd_T99 l j).f1 + 1) := by
  have hj : j.toNat < l.length := by omega
  rw [show (j + 1).toNat = j.toNat + 1 by omega, List.take_add_one, List.getElem?_eq_getElem hj]
  unfold deepOf
  rw [List.map_append, List.foldl_append]
  simp [rd_T99, List.getD, List.getElem?_eq_getElem hj]
theorem rd99_mem {l : List S99} {j : Int} (h0 : 0 ≤ j) (h1 : j < l.length) : rd_T99 l j ∈ l := by
  have hj : j.toNat < l.length := by omega
  simp [rd_T99, List.getD, List.getElem?_eq_getElem hj]
theorem WIn.next {w3 wr wr' : World} {l : List S99} {j fr dp fr' dp' : Int} (h : WIn w3 wr l j fr dp) (hj : j < l.length) (hx : ∀ x ∈ l, 1 ≤ x.f1 ∧ x.f1 ≤ 32) (hb : wr'.heap[w3.heap.size]? = some (.cells #[.int .i64 fr', .int .i64 dp'] 99 (0, 0))) (hd : dp' = max dp ((rd_T99 l j).f1 + 1)) (hc : Chg (· = w3.heap.size) wr wr') : WIn w3 wr' l (j + 1) fr' dp' := by
  have h1 := h.lo
  have h2 := h.d1
  have h3 := h.d2
  have h4 := hx _ (rd99_mem h.lo hj)
  refine ⟨by omega, by omega, hb, ?_, ?_, ?_, Chg.below h.bel hc (fun i hi => Nat.le_of_eq hi.symm) h.bel.size⟩
  · rw [deep_snoc l j h.lo hj, ← h.deep, hd]
  · rw [hd, Int.max_def]; split <;> omega
  · rw [hd, Int.max_def]; split <;> omega
theorem vStep_deep {st : List S99} {a : S80} {kk : Nat} (hk : kk = st.length - a.f1.toNat) (h : ¬ deepOf ((st.drop kk).map S99.f1) ≤ 32) : vStep (st.map S99.f1) a = none := by
  unfold vStep
  rw [if_neg]
  rintro ⟨_, _, h3⟩
  rw [List.length_map, ← hk, ← List.map_drop] at h3
  exact h h3
theorem vStep_ok {st : List S99} {a : S80} {kk : Nat} {fr dp : Int} (h1 : vWell a = true) (h2 : a.f1 ≤ st.length) (hk : kk = st.length - a.f1.toNat) (hd : dp = deepOf ((st.drop kk).map S99.f1)) (h : dp ≤ 32) : vStep (st.map S99.f1) a = some ((st.take kk ++ [(⟨fr, dp⟩ : S99)]).map S99.f1) := by
  unfold vStep
  rw [List.length_map, ← hk, ← List.map_drop, ← hd, if_pos ⟨h1, h2, h⟩]
  simp [List.map_take]
theorem VInv.next {w wr w1 : World} {l : List S80} {g : Nat} {v5 v' : Value} {i : Int} {st : List S99} {kk : Nat} {fr dp : Int} (h : VInv w wr l g v5 i st) (hl : i < l.length) (h1 : vWell (rd_T80 l i) = true) (h2 : (rd_T80 l i).f1 ≤ st.length) (hk : kk = st.length - (rd_T80 l i).f1.toNat) (hd : dp = deepOf ((st.drop kk).map S99.f1)) (hd1 : 1 ≤ dp) (hd2 : dp ≤ 32)
    (hr : Kd.R k99 99 w1 w.heap.size (fun k => k ≠ g) v' (st.take kk ++ [⟨fr, dp⟩])) (hg : w1.heap[g]? = wr.heap[g]?) (hb : Below w.heap.size w w1) : VInv w w1 l g v' (i + 1) (st.take kk ++ [⟨fr, dp⟩]) := by
  obtain ⟨h0, cur, hh, hs⟩ := h.out
  have h3 := h.lo
  refine ⟨by omega, by omega, ?_, ?_, hr, ⟨h0, cur, hg.trans hh, hs⟩, hb⟩
  · rw [show (i + 1).toNat = i.toNat + 1 by omega, take_snoc l i h.lo hl, vRun_snoc, h.run]
    exact vStep_ok h1 h2 hk hd hd2
  · intro x hx
    rcases List.mem_append.1 hx with hx | hx
    · exact h.dep x (List.mem_of_mem_take hx)
    · rw [List.mem_singleton] at hx
      subst hx
      exact ⟨hd1, hd2⟩
set_option maxHeartbeats 4000000 in
set_option maxRecDepth 100000 in
theorem wholes_is (w : World) (A : Option Addr) (c : Nat) (l : List S80) (hr : Kd.C k80 w A l.length l) (hc : l.length ≤ c) (hl : l.length ≤ 1024) :
    Calls Tryd.prog 55 #[.slice A l.length c] w fun e w' => ∃ v, e = .returned (.tuple #[v, .bool (vWhole l)]) ∧ Below w.heap.size w w' := by
  have HR := Lib.hid hr
  have HC := Lib.hid hc
  have HL := Lib.hid hl
  have HM := Lib.hid (show ((l.length : Int)).toNat * 16 ≤ 281474976710656 by omega)
  clear hr hc hl
  go_enter Tryd.func55, Tryd.ntmps55
  go_wp2_with (first | ((with_reducible refine gate_dst (N := 14) rfl ?_); (try (refine gate_guard (by rfl) ?_; dsimp only)); refine Kd.R_make k99 (w0 := w) w.heap.size 99 rfl (N := 14) rfl 91 (.tmp 13) (.tmp 13) rfl (l.length : Int) rfl rfl Tryd.underlying91 (.agg #[.int .i64 0, .int .i64 0]) 16 info99 rfl (by decide) (by decide) z99 (ok := fun _ => True) (okp := fun _ => True) (k99_mkM _ _ _ _) (fun _ h => h) trivial (by omega) HM.out (Below.refl _ _) (Nat.le_refl _) ?_; intro v1 w1 ho hb _ hn; have HO := Lib.hid ho; have HB1 := Lib.hid hb; have HN := Lib.hid hn; clear ho hb hn) | ((with_reducible refine gate_dst (N := 15) rfl ?_); (try (refine gate_guard (by rfl) ?_; dsimp only)); refine Kd.R_lit k99 (w0 := w) w.heap.size 99 rfl (N := 15) rfl (xs := ([] : List S99)) (inner := []) (ok := fun k => w1.heap.size ≤ k) (okp := fun _ => False) (by first | (go_simp; done) | (go_simp; rfl)) (Reps.none _ _) (fun _ hk => hk.elim) (Nat.le_refl _) HB1.out HB1.out.size (by simp) ?_; intro v2 w2 ho hb hg hn; have HO2 := Lib.hid ho; have HB2 := Lib.hid hb; have HG2 := Lib.hid hg; have HN2 := Lib.hid hn; clear ho hb hg hn))
  obtain ⟨g, capg, rfl, ho1⟩ := Out.of HO.out (List.length_replicate) (by obtain ⟨b, hb, _⟩ := HN.out; exact ⟨b, hb⟩)
  have HI := Lib.hid (show VInv w w2 l g v2 0 [] from by
    obtain ⟨h0, cur, hh, hs⟩ := ho1
    have hgl := blk_lt hh
    refine ⟨Int.le_refl _, by omega, rfl, by simp, Kd.R_mono HO2.out (fun k hk => by omega), ⟨h0, cur, (HG2.out.block g hgl (by simp)).trans hh, by simpa using hs⟩, HB2.out⟩)
  clear HO HO2 HB1 HB2 HG2 HN HN2 HM ho1
  go_loopg [5, 18] l.length (fun gk v5 v18 wr => ∃ (i : Int) (st : List S99), v18 = .int .i64 i ∧ gk = l.length - i.toNat ∧ Hid (VInv w wr l g v5 i st))
  case atStart => exact ⟨0, [], rfl, by simp, HI⟩
  case round =>
    clear HI
    obtain ⟨i, st, rfl, rfl, HI⟩ := hrel
    by_cases hlt : i < l.length
    · obtain ⟨ad, rfl, k0, k1, k2, k3⟩ := at_T80 (Kd.C_below HR.out HI.out.bel) i HI.out.lo hlt
      have hi0 := HI.out.lo
      obtain ⟨A5, c5, rfl⟩ := Kd.R_slice HI.out.row
      cases hwell : vWell (rd_T80 l i) with
      | false =>
        have HF := Lib.hid (vWhole_no l i HI.out.lo hlt _ HI.out.run (vStep_no (fun h => by rw [hwell] at h; exact absurd h.1 (by simp))))
        go_wp2_with (first | (go_at_call 59; refine (value_well.calls _ _ _ _ _ _ ((vWell_some (rd_T80 l i)).trans (congrArg some hwell))).mono ?_; rintro _ w3 ⟨rfl, hb3⟩; have H3 := Lib.hid (HI.out.below (below_via hb3)); clear hb3))
        go_ret2
        exact ⟨_, by rw [HF.out]; rfl, H3.out.bel⟩
      | true =>
        have hn0 := vWell_n hwell
        have hsl : st.length ≤ 1024 := by
          have := vRun_len _ _ _ HI.out.run
          have h4 := HL.out
          simp at this
          omega
        by_cases hst : (rd_T80 l i).f1 ≤ st.length
        · have hst' : ¬ (st.length : Int) < (rd_T80 l i).f1 := by omega
          obtain ⟨kk, hkk⟩ : ∃ kk : Nat, kk = st.length - (rd_T80 l i).f1.toNat := ⟨_, rfl⟩
          have hkw : wrap64 ((st.length : Int) - (rd_T80 l i).f1) = (kk : Int) := by rw [← i64_w, IntWalk.i64_in _ (by omega)]; omega
          have hkl : (kk : Int) ≤ st.length := by omega
          have hk0 : (0 : Int) ≤ kk := by omega
          have hrw := Kd.R_reads' HI.out.row
          obtain ⟨B5, hB5⟩ : ∃ B, B = (if c5 = kk then A5 else A5.map (·.add (kk * 2))) := ⟨_, rfl⟩
          obtain ⟨i099, hi099, _, hsz99, _⟩ := info_parts info99
          have hcut := cut_from (P := Tryd.prog) 91 99 .i64 Tryd.underlying91 hi099 2 hsz99 A5 st.length c5 (kk : Int) hk0 hkl
          rw [Int.toNat_natCast, ← hB5] at hcut
          have HD := Lib.hid (show Kd.C k99 wr B5 (st.drop kk).length (st.drop kk) by rw [hB5]; exact Kd.C_drop hrw.2.2 (by omega) hrw.2.1)
          have HDL := Lib.hid (show (st.drop kk).length = st.length - kk by simp)
          have HKC := Lib.hid (show kk ≤ c5 by have := hrw.2.1; omega)
          clear hi099 hsz99 hrw hB5
          have HKK := Lib.hid hkk
          have HSL := Lib.hid hsl
          clear hkk hsl
          go_wp2_with (first | (go_at_call 59; refine (value_well.calls _ _ _ _ _ _ ((vWell_some (rd_T80 l i)).trans (congrArg some hwell))).mono ?_; rintro _ w3 ⟨rfl, hb3⟩; have kb := blk_below (blk_new wr _) hb3; have k5 := (blk_cell kb 1).trans rfl; have k6 := blk_frozen kb 1; have H3 := Lib.hid (HI.out.below (below_via hb3)); have HD3 := Lib.hid (Kd.C_below HD.out (below_via hb3)); have HKB := Lib.hid kb; clear hb3 kb))
          have HW := Lib.hid (show WIn w3 (w3.alloc (.cells #[.int .i64 i, .int .i64 1] 99)) (st.drop kk) 0 i 1 from ⟨Int.le_refl _, by omega, blk_new _ _, rfl, by omega, by omega, (Below.refl _ _).alloc (Nat.le_refl _) _⟩)
          have HDP := Lib.hid (show ∀ x ∈ st.drop kk, 1 ≤ x.f1 ∧ x.f1 ≤ 32 from fun x hx => HI.out.dep x (List.mem_of_mem_drop hx))
          rw [← HDL.out]
          generalize hdr : st.drop kk = dr at HD HD3 HW HDP HDL ⊢
          have HDR := Lib.hid hdr
          clear hdr HD
          rw [hkw]
          go_loopg [44] dr.length (fun gk v44 wr2 => ∃ (j fr dp : Int), v44 = .int .i64 j ∧ gk = dr.length - j.toNat ∧ Hid (WIn w3 wr2 dr j fr dp))
          case atStart => exact ⟨0, i, 1, rfl, by simp, HW⟩
          case round =>
            obtain ⟨j, fr, dp, rfl, rfl, HJ⟩ := hrel
            clear HW
            by_cases hjl : j < dr.length
            · obtain ⟨aB, rfl, q0, q1⟩ := at_T99 (Kd.C_below HD3.out HJ.out.bel) j HJ.out.lo hjl
              have hj0 := HJ.out.lo
              have kb := HJ.out.blk
              have k7 := (blk_cell kb 0).trans rfl
              have k8 := (blk_cell kb 1).trans rfl
              have k9 := blk_frozen kb
              have HKJ := Lib.hid kb
              clear kb
              have hb2 := blk_lt HKJ.out
              have hx := HDP.out
              have hxr := hx _ (rd99_mem hj0 hjl)
              have hw9 : wrap64 ((rd_T99 dr j).f1 + 1) = (rd_T99 dr j).f1 + 1 := by rw [← i64_w, IntWalk.i64_in _ (by omega)]
              clear hx hxr
              cases hjb : (j == 0) with
              | true =>
                go_wp2_with fail
                all_goals
                  have hwj : wrap64 (j + 1) = j + 1 := by have := HSL.out; have := HDL.out; rw [← i64_w, IntWalk.i64_in _ (by omega)]
                  go_roundg (dr.length - (j + 1).toNat)
                  case measure => omega
                  case rel => exact ⟨j + 1, _, _, by rw [hwj], rfl, Lib.hid (HJ.out.next hjl HDP.out ((blk_alloc (blk_set (blk_set HKJ.out 0 _) 1 _) _).trans rfl) (by rw [Int.max_def]; split <;> omega) ((((Chg.refl _ _).setCell (by rfl) _).setCell (by rfl) _).alloc _))⟩
              | false =>
                go_wp2_with fail
                all_goals
                  have hwj : wrap64 (j + 1) = j + 1 := by have := HSL.out; have := HDL.out; rw [← i64_w, IntWalk.i64_in _ (by omega)]
                  go_roundg (dr.length - (j + 1).toNat)
                  case measure => omega
                  case rel => exact ⟨j + 1, _, _, by rw [hwj], rfl, Lib.hid (HJ.out.next hjl HDP.out ((blk_alloc (blk_set HKJ.out 1 _) _).trans rfl) (by rw [Int.max_def]; split <;> omega) (((Chg.refl _ _).setCell (by rfl) _).alloc _))⟩
            · have kb := HJ.out.blk
              have k7 := (blk_cell kb 0).trans rfl
              have k8 := (blk_cell kb 1).trans rfl
              have k9 := blk_frozen kb
              have HKJ := Lib.hid kb
              have H4 := Lib.hid (H3.out.below HJ.out.bel)
              have HDE := Lib.hid (show dp = deepOf ((st.drop kk).map S99.f1) by
                have := HJ.out.deep
                have h5 := HJ.out.hi
                rw [show j.toNat = dr.length by omega, List.take_length, ← HDR.out] at this
                exact this)
              clear kb
              by_cases hdd : dp ≤ 32
              · obtain ⟨x0, x1, s0, s1, s2⟩ := H4.out.cell hlt
                have hgl := H4.out.lt
                have hdd' : ¬ 32 < dp := by omega
                go_wp2_with fail
                have H6 : ∃ w5, w5 = (wr.setCell ⟨g, i.toNat * 2, none⟩ (.int .i64 fr)).setCell ⟨g, i.toNat * 2 + 1, none⟩ (.int .i64 dp) ∧ VInv w w5 l g (.slice A5 st.length c5) i st ∧ w5.heap[w3.heap.size]? = some (.cells #[.int .i64 fr, .int .i64 dp] 99 (0, 0)) := by
                  have hne : w3.heap.size ≠ g := by have := H3.out.lt; omega
                  exact ⟨_, rfl, (H4.out.store _ _).store _ _, (Below.heap_setCell _ _ _ _ hne).trans ((Below.heap_setCell _ _ _ _ hne).trans HKJ.out)⟩
                obtain ⟨w5, e5, H5', kb⟩ := H6
                rw [← e5]
                have H5 := Lib.hid H5'
                clear H5' s0 s1 s2 k7 k8 k9 e5
                have k7 := (blk_cell kb 0).trans rfl
                have k8 := (blk_cell kb 1).trans rfl
                have k9 := blk_frozen kb
                have hb5 := blk_lt kb
                clear kb
                have hkc := HKC.out
                have HRT := Lib.hid (Kd.R_drew (Kd.R_take (m := kk) H5.out.row (by omega)))
                have HLT := Lib.hid (show (st.take kk).length = kk by simp; omega)
                go_region_law (refine Kd.R_append_step k99 (w0 := w) (W := w5.drew) w.heap.size (by rfl) (.tmp 71) (.tmp 73) 91 99 (.agg #[.int .i64 0, .int .i64 0]) 16 rfl Tryd.underlying91 info99 rfl (by decide) (by decide) (.slice A5 kk c5) (st.take kk) ⟨fr, dp⟩ [.int .i64 fr, .int .i64 dp] (fun k => k ≠ g) (fun _ => False) rfl rfl (k99_mkM _ _ _ _) (fun _ h => h.elim) (fun k hk => by have := H5.out.lt; simp at hk; omega) HRT.out H5.out.bel.drew H5.out.bel.drew.size (by have := HSL.out; rw [HLT.out]; omega) ?_; intro v' w7 ho hb hg hat; have HO := Lib.hid ho; have HB := Lib.hid hb; have HG := Lib.hid hg; clear ho hb hg hat)
                all_goals
                  have hwi : wrap64 (i + 1) = i + 1 := by have := HL.out; rw [← i64_w, IntWalk.i64_in _ (by omega)]
                  have HX := Lib.hid (H5.out.next hlt hwell hst HKK.out HDE.out HJ.out.d1 hdd HO.out (HG.out.block g H5.out.lt (fun e => HRT.out.1 g e.symm rfl)) HB.out)
                  go_wp2_with fail
                  go_roundg (l.length - (i + 1).toNat)
                  case measure => omega
                  case rel => exact ⟨i + 1, _, by rw [hwi], rfl, HX⟩
              · have hdd' : 32 < dp := by omega
                have HF := Lib.hid (vWhole_no l i HI.out.lo hlt _ HI.out.run (vStep_deep HKK.out (by rw [← HDE.out]; exact hdd)))
                clear hdd
                go_wp2_with fail
                go_ret2
                exact ⟨⟨_, by rw [HF.out]; rfl⟩, H4.out.bel⟩
        · have HF := Lib.hid (vWhole_no l i HI.out.lo hlt _ HI.out.run (vStep_no (fun h => hst h.2)))
          go_wp2_with (first | (go_at_call 59; refine (value_well.calls _ _ _ _ _ _ ((vWell_some (rd_T80 l i)).trans (congrArg some hwell))).mono ?_; rintro _ w3 ⟨rfl, hb3⟩; have kb := blk_below (blk_new wr _) hb3; have k5 := (blk_cell kb 1).trans rfl; have k6 := blk_frozen kb 1; have H3 := Lib.hid (HI.out.below (below_via hb3)); clear hb3 kb))
          go_ret2
          exact ⟨_, by rw [HF.out]; rfl, H3.out.bel⟩
    · obtain ⟨A5, c5, rfl⟩ := Kd.R_slice HI.out.row
      have HE := Lib.hid (show vWhole l = (st.length == 1) by
        have h1 := HI.out.run
        have h2 := HI.out.hi
        rw [show i.toNat = l.length by omega, List.take_length] at h1
        unfold vWhole
        rw [h1]
        simp)
      have hi0 := HI.out.lo
      go_wp2_with fail
      go_ret2
      exact ⟨⟨.slice (some ⟨g, 0, none⟩) l.length capg, by
        rw [HE.out]
        have hq : ((st.length : Int) == 1) = (st.length == 1) := by
          rw [Bool.eq_iff_iff]
          simp
          omega
        rw [← hq]
        rfl⟩, HI.out.bel⟩
def vErr (l : List S80) : Int := if l.length ≤ 1024 then (if vWhole l then 0 else 5) else 3
theorem vcheck_is (w : World) (A : Option Addr) (c : Nat) (l : List S80) (hr : Kd.C k80 w A l.length l) (hc : l.length ≤ c) :
    Calls Tryd.prog 42 #[.slice A l.length c] w fun e w' => e = .returned (.int .i64 (vErr l)) ∧ Below w.heap.size w w' := by
  have hm : l.length ≤ maxLen := hr.2.1
  by_cases hl : l.length ≤ 1024
  · have HW := Lib.hid (wholes_is w A c l hr hc hl)
    have hl' : ¬ (1024 : Int) < (l.length : Int) := by omega
    have HV := Lib.hid (show vErr l = if vWhole l then 0 else 5 by unfold vErr; rw [if_pos hl])
    clear hr hc
    cases hv : vWhole l with
    | true =>
      rw [hv] at HW
      go_enter Tryd.func42, Tryd.ntmps42
      go_wp2_with (go_at_call 55; refine HW.out.mono ?_; rintro _ w1 ⟨v, rfl, hb⟩; have HB := Lib.hid hb; clear hb)
      go_ret
      exact ⟨by rw [HV.out, hv]; rfl, HB.out⟩
    | false =>
      rw [hv] at HW
      go_enter Tryd.func42, Tryd.ntmps42
      go_wp2_with (go_at_call 55; refine HW.out.mono ?_; rintro _ w1 ⟨v, rfl, hb⟩; have HB := Lib.hid hb; clear hb)
      go_ret
      exact ⟨by rw [HV.out, hv]; rfl, HB.out⟩
  · have hl' : (1024 : Int) < (l.length : Int) := by omega
    have HV := Lib.hid (show vErr l = 3 by unfold vErr; rw [if_neg hl])
    clear hr hc hl
    go_enter Tryd.func42, Tryd.ntmps42
    go_wp2_with fail
    go_ret
    exact ⟨by rw [HV.out]; rfl, Below.refl _ _⟩
end Go.Proofs.YtchbammjcnhkiaaDoor.Ce
