/- fail.Check: the cracks of a failure, by a stack. -/
import Derived.Test.YtchbammjcnhkiaaDoorCg
namespace Go.Proofs.YtchbammjcnhkiaaDoor.Ce
open Go.RowKit Go.Maps Go.Proofs.YtchbammjcnhkiaaDoor Go.Proofs.YtchbammjcnhkiaaDoorW.PrintWords Go.Proofs.YtchbammjcnhkiaaDoorW.PrintLast Go.Proofs.YtchbammjcnhkiaaDoorW.PrintMore PCellPlays
attribute [local go_sem] max2_int min2_int max_two min_two max_three min_three
theorem well_n {c : S64} (h : wellB c = true) : 0 ≤ c.f1 := by
  unfold wellB partB at h
  simp only [Bool.and_eq_true] at h
  obtain ⟨⟨h1, _⟩, _⟩ := h
  repeat' split at h1
  all_goals first | (simp at h1; omega) | (simp at h1)
def fStep (m : Nat) (c : S64) : Option Nat := if wellB c = true ∧ c.f1 ≤ m then some (m - c.f1.toNat + 1) else none
def fRun : Nat → List S64 → Option Nat
  | m, [] => some m
  | m, c :: l => (fStep m c).bind fun n => fRun n l
def fWhole (l : List S64) : Bool := fRun 0 l == some 1
theorem fRun_snoc : ∀ (l : List S64) (m : Nat) (a : S64), fRun m (l ++ [a]) = (fRun m l).bind fun s => fStep s a
  | [], st, a => by simp [fRun]
  | b :: l, st, a => by
    simp only [List.cons_append, fRun, Option.bind_assoc]
    congr 1
    funext s
    exact fRun_snoc l s a
theorem fRun_none : ∀ (l r : List S64) (m : Nat), fRun m l = none → fRun m (l ++ r) = none
  | [], r, st, h => by simp [fRun] at h
  | a :: l, r, st, h => by
    simp only [List.cons_append, fRun] at h ⊢
    cases hs : fStep st a with
    | none => rfl
    | some s => rw [hs] at h; exact fRun_none l r s h
theorem takeF_snoc (l : List S64) (i : Int) (h0 : 0 ≤ i) (h1 : i < l.length) : l.take (i.toNat + 1) = l.take i.toNat ++ [rd_T64 l i] := by
  have hi : i.toNat < l.length := by omega
  rw [List.take_add_one, List.getElem?_eq_getElem hi]
  simp [rd_T64, List.getD, List.getElem?_eq_getElem hi]
theorem fWhole_no (l : List S64) (i : Int) (h0 : 0 ≤ i) (h1 : i < l.length) (m : Nat) (hr : fRun 0 (l.take i.toNat) = some m) (hs : fStep m (rd_T64 l i) = none) : fWhole l = false := by
  have h2 : fRun 0 (l.take (i.toNat + 1)) = none := by rw [takeF_snoc l i h0 h1, fRun_snoc, hr]; exact hs
  have h3 := fRun_none _ (l.drop (i.toNat + 1)) _ h2
  rw [List.take_append_drop] at h3
  unfold fWhole
  rw [h3]
  rfl
theorem fRun_len : ∀ (l : List S64) (m n : Nat), fRun m l = some n → n ≤ m + l.length
  | [], st, s, h => by simp [fRun] at h; subst h; simp
  | a :: l, st, s, h => by
    simp only [fRun] at h
    cases hs : fStep st a with
    | none => rw [hs] at h; exact absurd h (by simp)
    | some t =>
      rw [hs] at h
      have := fRun_len l t s h
      have ht : t ≤ st + 1 := by
        unfold fStep at hs
        split at hs
        · obtain rfl := Option.some.inj hs
          omega
        · exact absurd hs (by simp)
      simp only [List.length_cons]
      omega
/-- A failure that is right is not empty. -/
theorem fWhole_ne {l : List S64} (h : fWhole l = true) : l ≠ [] := by
  rintro rfl
  exact absurd h (by decide)
def OutI (B : Nat) (wr : World) (g n : Nat) : Prop := B ≤ g ∧ ∃ cur, wr.heap[g]? = some (.cells cur 3 (0, 0)) ∧ n ≤ cur.size
theorem OutI.of {B : Nat} {ok : Nat → Prop} {w : World} {v : Value} {n : Nat} {xs : List Int} (h : Kd.R (Kd.int .i64) 3 w B ok v xs) (hx : xs.length = n) (hn : ∃ b, v.ownBlock = some b) : ∃ g cap, v = .slice (some ⟨g, 0, none⟩) n cap ∧ OutI B w g n := by
  obtain ⟨_, inner, ⟨h1, h2⟩, _⟩ := h
  rcases h2 with ⟨rfl, _⟩ | ⟨g, cap, cur, rfl, hg, hh, hc, _, hs, _⟩
  · obtain ⟨b, hb⟩ := hn
    exact absurd hb (by simp [Value.ownBlock])
  · subst hx
    exact ⟨g, cap, rfl, hg, cur, hh, by rw [hs]; show xs.length ≤ cap * 1; omega⟩
structure FInv (w wr : World) (l : List S64) (g : Nat) (v5 : Value) (i : Int) (st : List Int) : Prop where
  lo : 0 ≤ i
  hi : i ≤ l.length
  run : fRun 0 (l.take i.toNat) = some st.length
  row : Kd.R (Kd.int .i64) 3 wr w.heap.size (fun k => k ≠ g) v5 st
  out : OutI w.heap.size wr g l.length
  bel : Below w.heap.size w wr
theorem FInv.lt {w wr : World} {l : List S64} {g : Nat} {v5 : Value} {i : Int} {st : List Int} (h : FInv w wr l g v5 i st) : g < wr.heap.size := by
  obtain ⟨_, cur, hh, _⟩ := h.out
  exact blk_lt hh
theorem FInv.cell {w wr : World} {l : List S64} {g : Nat} {v5 : Value} {i : Int} {st : List Int} (h : FInv w wr l g v5 i st) (hl : i < l.length) : ∃ x, wr.cell? ⟨g, i.toNat, none⟩ = some x ∧ ∀ k, wr.frozen? ⟨g, k, none⟩ = false := by
  obtain ⟨_, cur, hh, hs⟩ := h.out
  have := h.lo
  exact ⟨cur[i.toNat]'(by omega), (blk_cell hh _).trans (by simp), fun k => blk_frozen hh k⟩
theorem FInv.store {w wr : World} {l : List S64} {g : Nat} {v5 : Value} {i : Int} {st : List Int} (h : FInv w wr l g v5 i st) (j : Nat) (u : Value) : FInv w (wr.setCell ⟨g, j, none⟩ u) l g v5 i st := by
  obtain ⟨h0, cur, hh, hs⟩ := h.out
  exact ⟨h.lo, h.hi, h.run, Kd.R_far h.row (p := ⟨g, j, none⟩) (fun k hk => hk) u, ⟨h0, _, blk_set hh j u, by simpa using hs⟩,
    Chg.below h.bel ((Chg.refl (· = g) wr).setCell (p := ⟨g, j, none⟩) rfl u) (fun i hi => hi ▸ h0) h.bel.size⟩
theorem FInv.stored {w wr : World} {l : List S64} {g : Nat} {v5 : Value} {i : Int} {st : List Int} (h : FInv w wr l g v5 i st) (hl : i < l.length) (u : Value) : (wr.setCell ⟨g, i.toNat, none⟩ u).cell? ⟨g, i.toNat, none⟩ = some u := by
  obtain ⟨h0, cur, hh, hs⟩ := h.out
  have := h.lo
  rw [blk_cell (blk_set hh i.toNat u)]
  rw [Array.getElem?_setIfInBounds]
  simp
  omega
theorem FInv.below {w wr w3 : World} {l : List S64} {g : Nat} {v5 : Value} {i : Int} {st : List Int} (h : FInv w wr l g v5 i st) (hb : Below wr.heap.size wr w3) : FInv w w3 l g v5 i st := by
  obtain ⟨hg, cur, hh, hs⟩ := h.out
  exact ⟨h.lo, h.hi, h.run, Kd.R_below h.row hb, ⟨hg, cur, blk_below hh hb, hs⟩, below_step h.bel hb⟩
theorem fStep_no {m : Nat} {a : S64} (h : ¬ (wellB a = true ∧ a.f1 ≤ m)) : fStep m a = none := by
  unfold fStep
  rw [if_neg h]
theorem FInv.next {w wr w1 : World} {l : List S64} {g : Nat} {v5 v' : Value} {i x : Int} {st : List Int} {kk : Nat} (h : FInv w wr l g v5 i st) (hl : i < l.length) (h1 : wellB (rd_T64 l i) = true) (h2 : (rd_T64 l i).f1 ≤ st.length) (hk : kk = st.length - (rd_T64 l i).f1.toNat)
    (hr : Kd.R (Kd.int .i64) 3 w1 w.heap.size (fun k => k ≠ g) v' (st.take kk ++ [x])) (hg : w1.heap[g]? = wr.heap[g]?) (hb : Below w.heap.size w w1) : FInv w w1 l g v' (i + 1) (st.take kk ++ [x]) := by
  obtain ⟨h0, cur, hh, hs⟩ := h.out
  have h3 := h.lo
  refine ⟨by omega, by omega, ?_, hr, ⟨h0, cur, hg.trans hh, hs⟩, hb⟩
  rw [show (i + 1).toNat = i.toNat + 1 by omega, takeF_snoc l i h.lo hl, fRun_snoc, h.run]
  show fStep st.length _ = _
  unfold fStep
  rw [if_pos ⟨h1, h2⟩, ← hk]
  simp
  omega
theorem at_I {w : World} {A : Option Addr} {n : Nat} {xs : List Int} (h : Kd.C (Kd.int .i64) w A n xs) (i : Int) (h0 : 0 ≤ i) (h1 : i < n) : ∃ ad x, A = some ad ∧ w.cell? (ad.add i.toNat) = some (.int .i64 x) := by
  obtain ⟨ad, c, e, _, hK, hc0⟩ := Kd.C_get h 0 i h0 h1
  obtain rfl : c = [.int .i64 (xs.getD i.toNat 0)] := hK
  exact ⟨ad, xs.getD i.toNat 0, e, by simpa [show (Kd.int IntKind.i64).sz = 1 from rfl] using hc0 0 _ rfl⟩
theorem FInv.top {w wr : World} {l : List S64} {g c5 : Nat} {A5 : Option Addr} {i : Int} {st : List Int} (h : FInv w wr l g (.slice A5 st.length c5) i st) (h0 : 0 < st.length) : ∃ b5, A5 = some ⟨b5, 0, none⟩ ∧ b5 ≠ g ∧ b5 < wr.heap.size := by
  obtain ⟨h1, inner, ⟨h2, h3⟩, _⟩ := h.row
  rcases h3 with ⟨e, _⟩ | ⟨b5, cap, cur, e, hg, hh, hc, _, hs, _⟩
  · injection e with e1 e2 e3
    omega
  · injection e with e1 e2 e3
    subst e1
    exact ⟨b5, rfl, h1 b5 rfl, blk_lt hh⟩
theorem FInv.read {w wr : World} {l : List S64} {g c5 b5 : Nat} {i : Int} {st : List Int} (h : FInv w wr l g (.slice (some ⟨b5, 0, none⟩) st.length c5) i st) (k : Nat) (hk : k < st.length) : ∃ x, wr.cell? ⟨b5, k, none⟩ = some (.int .i64 x) := by
  obtain ⟨ad, x, e, hx⟩ := at_I (Kd.R_reads' h.row).2.2 k (by omega) (by omega)
  injection e with e
  subst e
  refine ⟨x, ?_⟩
  rw [← hx, Int.toNat_natCast]
  unfold Addr.add
  split
  · rename_i hz; subst hz; rfl
  · simp
set_option maxHeartbeats 4000000 in
set_option maxRecDepth 100000 in
theorem begins_is (w : World) (A : Option Addr) (c : Nat) (l : List S64) (hr : Kd.C k64 w A l.length l) (hc : l.length ≤ c) (hl : l.length ≤ 1024) (hla : Laid w) :
    Calls Tryd.prog 56 #[.slice A l.length c] w fun e w' => ∃ v, e = .returned (.tuple #[v, .bool (fWhole l)]) ∧ Below w.heap.size w w' := by
  have HR := Lib.hid hr
  have HC := Lib.hid hc
  have HL := Lib.hid hl
  have HLA := Lib.hid hla
  have HM := Lib.hid (show ((l.length : Int)).toNat * 8 ≤ 281474976710656 by omega)
  clear hr hc hl hla
  go_enter Tryd.func56, Tryd.ntmps56
  go_wp2_with (first | ((with_reducible refine gate_dst (N := 10) rfl ?_); (try (refine gate_guard (by rfl) ?_; dsimp only)); refine Kd.R_make (Kd.int .i64) (w0 := w) w.heap.size 3 rfl (N := 10) rfl 94 (.tmp 9) (.tmp 9) rfl (l.length : Int) rfl rfl Tryd.underlying94 (.int .i64 0) 8 info3 rfl (by decide) (by decide) 0 (ok := fun _ => True) (okp := fun _ => True) rfl (fun _ h => h) trivial (by omega) HM.out (Below.refl _ _) (Nat.le_refl _) ?_; intro v1 w1 ho hb _ hn; have HO := Lib.hid ho; have HB1 := Lib.hid hb; have HN := Lib.hid hn; clear ho hb hn) | ((with_reducible refine gate_dst (N := 11) rfl ?_); (try (refine gate_guard (by rfl) ?_; dsimp only)); refine Kd.R_lit (Kd.int .i64) (w0 := w) w.heap.size 3 rfl (N := 11) rfl (xs := ([] : List Int)) (inner := []) (ok := fun k => w1.heap.size ≤ k) (okp := fun _ => False) (by first | (go_simp; done) | (go_simp; rfl)) (Reps.none _ _) (fun _ hk => hk.elim) (Nat.le_refl _) HB1.out HB1.out.size (by simp) ?_; intro v2 w2 ho hb hg hn; have HO2 := Lib.hid ho; have HB2 := Lib.hid hb; have HG2 := Lib.hid hg; have HN2 := Lib.hid hn; clear ho hb hg hn))
  obtain ⟨g, capg, rfl, ho1⟩ := OutI.of HO.out (List.length_replicate) (by obtain ⟨b, hb, _⟩ := HN.out; exact ⟨b, hb⟩)
  have HI := Lib.hid (show FInv w w2 l g v2 0 [] from by
    obtain ⟨h0, cur, hh, hs⟩ := ho1
    have hgl := blk_lt hh
    refine ⟨Int.le_refl _, by omega, rfl, Kd.R_mono HO2.out (fun k hk => by omega), ⟨h0, cur, (HG2.out.block g hgl (by simp)).trans hh, by simpa using hs⟩, HB2.out⟩)
  clear HO HO2 HB1 HB2 HG2 HN HN2 HM ho1
  go_loopg [5, 14] l.length (fun gk v5 v14 wr => ∃ (i : Int) (st : List Int), v14 = .int .i64 i ∧ gk = l.length - i.toNat ∧ Hid (FInv w wr l g v5 i st))
  case atStart => exact ⟨0, [], rfl, by simp, HI⟩
  case round =>
    clear HI
    obtain ⟨i, st, rfl, rfl, HI⟩ := hrel
    by_cases hlt : i < l.length
    · obtain ⟨ad, rfl, k0, k1, k2⟩ := at_T64 (Kd.C_below HR.out HI.out.bel) i HI.out.lo hlt
      have hi0 := HI.out.lo
      obtain ⟨A5, c5, rfl⟩ := Kd.R_slice HI.out.row
      have HW := Lib.hid (fun w9 (hb : Below w.heap.size w w9) => well_any w9 (rd_T64 l i) (HLA.out.below hb))
      cases hwell : wellB (rd_T64 l i) with
      | false =>
        rw [hwell] at HW
        have HF := Lib.hid (fWhole_no l i HI.out.lo hlt _ HI.out.run (fStep_no (fun h => by rw [hwell] at h; exact absurd h.1 (by simp))))
        go_wp2_with (first | (go_at_call 60; refine (HW.out _ (below_alloc HI.out.bel _)).mono ?_; rintro _ w3 ⟨rfl, hb3⟩; have H3 := Lib.hid (HI.out.below (below_via hb3)); clear hb3))
        go_ret2
        exact ⟨.slice none 0 0, by rw [HF.out]; rfl, H3.out.bel⟩
      | true =>
        rw [hwell] at HW
        have hn0 := well_n hwell
        have hsl : st.length ≤ 1024 := by
          have := fRun_len _ _ _ HI.out.run
          have h4 := HL.out
          simp at this
          omega
        by_cases hst : (rd_T64 l i).f1 ≤ st.length
        · have hst' : ¬ (st.length : Int) < (rd_T64 l i).f1 := by omega
          obtain ⟨kk, hkk⟩ : ∃ kk : Nat, kk = st.length - (rd_T64 l i).f1.toNat := ⟨_, rfl⟩
          have hkw : wrap64 ((st.length : Int) - (rd_T64 l i).f1) = (kk : Int) := by rw [← i64_w, IntWalk.i64_in _ (by omega)]; omega
          have hkl : (kk : Int) ≤ st.length := by omega
          have hk0 : (0 : Int) ≤ kk := by omega
          have HKC := Lib.hid (show kk ≤ c5 by have := (Kd.R_reads' HI.out.row).2.1; omega)
          have HKK := Lib.hid hkk
          have HSL := Lib.hid hsl
          have hgw := HI.out.lt
          by_cases hn : 0 < (rd_T64 l i).f1
          · obtain ⟨b5, rfl, hb5, hb6⟩ := HI.out.top (by omega)
            have hkl2 : (kk : Int) < st.length := by omega
            clear hkk hsl
            go_wp2_with (first | (go_at_call 60; refine (HW.out _ (below_alloc HI.out.bel _)).mono ?_; rintro _ w3 ⟨rfl, hb3⟩; have kb := blk_below (blk_new wr _) hb3; have k5 := (blk_cell kb 1).trans rfl; have k6 := blk_frozen kb; have H3 := Lib.hid (HI.out.below (below_via hb3)); have HKB := Lib.hid kb; obtain ⟨x0, s0, s2⟩ := H3.out.cell hlt; obtain ⟨x1, s1⟩ := H3.out.read kk (by omega); clear hb3 kb))
            have H6 : ∃ w5, w5 = (w3.setCell ⟨g, i.toNat, none⟩ (.int .i64 i)).setCell ⟨g, i.toNat, none⟩ (.int .i64 x1) ∧ FInv w w5 l g (.slice (some ⟨b5, 0, none⟩) st.length c5) i st ∧ w5.heap[wr.heap.size]? = some (.cells #[.int .i64 (rd_T64 l i).f0, .int .i64 (rd_T64 l i).f1, .string (rd_T64 l i).f2] 64 (0, 0)) ∧ w5.cell? ⟨g, i.toNat, none⟩ = some (.int .i64 x1) := by
              have hne : wr.heap.size ≠ g := by omega
              exact ⟨_, rfl, (H3.out.store _ _).store _ _, (Below.heap_setCell _ _ _ _ hne).trans ((Below.heap_setCell _ _ _ _ hne).trans HKB.out), (H3.out.store _ _).stored hlt _⟩
            obtain ⟨w5, e5, H5', kb, q0⟩ := H6
            rw [← e5]
            have H5 := Lib.hid H5'
            have q1 := fun k => (H5'.cell hlt).choose_spec.2 k
            clear H5' s0 s2 s1 k5 k6 e5
            have k5 := (blk_cell kb 1).trans rfl
            have k6 := blk_frozen kb
            have hb7 := blk_lt kb
            clear kb
            have hkw2 : IntKind.i64.wrap ((st.length : Int) - (rd_T64 l i).f1) = (kk : Int) := by rw [i64_w]; exact hkw
            have hkc2 : (kk : Int) ≤ c5 := by have := HKC.out; omega
            have HRT := Lib.hid (Kd.R_drew (Kd.R_take (m := kk) H5.out.row (by omega)))
            have HLT := Lib.hid (show (st.take kk).length = kk by simp; omega)
            go_region_law (refine Kd.R_append_step (Kd.int .i64) (w0 := w) (W := w5.drew) w.heap.size (by rfl) (.tmp 53) (.tmp 58) 94 3 (.int .i64 0) 8 rfl Tryd.underlying94 info3 rfl (by decide) (by decide) (.slice (some ⟨b5, 0, none⟩) kk c5) (st.take kk) x1 [.int .i64 x1] (fun k => k ≠ g) (fun _ => False) rfl rfl rfl (fun _ h => h.elim) (fun k hk => by have := H5.out.lt; simp at hk; omega) HRT.out H5.out.bel.drew H5.out.bel.drew.size (by have := HSL.out; rw [HLT.out]; omega) ?_; intro v' w7 ho hb hg hat; have HO := Lib.hid ho; have HB := Lib.hid hb; have HG := Lib.hid hg; clear ho hb hg hat)
            all_goals
              have hwi : wrap64 (i + 1) = i + 1 := by have := HL.out; rw [← i64_w, IntWalk.i64_in _ (by omega)]
              have HX := Lib.hid (H5.out.next hlt hwell hst HKK.out HO.out (HG.out.block g H5.out.lt (fun e => HRT.out.1 g e.symm rfl)) HB.out)
              go_wp2_with fail
              go_roundg (l.length - (i + 1).toNat)
              case measure => omega
              case rel => exact ⟨i + 1, _, by rw [hwi], rfl, HX⟩
          · clear hkk hsl
            go_wp2_with (first | (go_at_call 60; refine (HW.out _ (below_alloc HI.out.bel _)).mono ?_; rintro _ w3 ⟨rfl, hb3⟩; have kb := blk_below (blk_new wr _) hb3; have k5 := (blk_cell kb 1).trans rfl; have k6 := blk_frozen kb; have H3 := Lib.hid (HI.out.below (below_via hb3)); have HKB := Lib.hid kb; obtain ⟨x0, s0, s2⟩ := H3.out.cell hlt; clear hb3 kb))
            have H6 : ∃ w5, w5 = w3.setCell ⟨g, i.toNat, none⟩ (.int .i64 i) ∧ FInv w w5 l g (.slice A5 st.length c5) i st ∧ w5.heap[wr.heap.size]? = some (.cells #[.int .i64 (rd_T64 l i).f0, .int .i64 (rd_T64 l i).f1, .string (rd_T64 l i).f2] 64 (0, 0)) ∧ w5.cell? ⟨g, i.toNat, none⟩ = some (.int .i64 i) := by
              have hne : wr.heap.size ≠ g := by omega
              exact ⟨_, rfl, H3.out.store _ _, (Below.heap_setCell _ _ _ _ hne).trans HKB.out, H3.out.stored hlt _⟩
            obtain ⟨w5, e5, H5', kb, q0⟩ := H6
            rw [← e5]
            have H5 := Lib.hid H5'
            have q1 := fun k => (H5'.cell hlt).choose_spec.2 k
            clear H5' s0 s2  k5 k6 e5
            have k5 := (blk_cell kb 1).trans rfl
            have k6 := blk_frozen kb
            have hb7 := blk_lt kb
            clear kb
            have hkw2 : IntKind.i64.wrap ((st.length : Int) - (rd_T64 l i).f1) = (kk : Int) := by rw [i64_w]; exact hkw
            have hkc2 : (kk : Int) ≤ c5 := by have := HKC.out; omega
            have HRT := Lib.hid (Kd.R_drew (Kd.R_take (m := kk) H5.out.row (by omega)))
            have HLT := Lib.hid (show (st.take kk).length = kk by simp; omega)
            go_region_law (refine Kd.R_append_step (Kd.int .i64) (w0 := w) (W := w5.drew) w.heap.size (by rfl) (.tmp 53) (.tmp 58) 94 3 (.int .i64 0) 8 rfl Tryd.underlying94 info3 rfl (by decide) (by decide) (.slice A5 kk c5) (st.take kk) i [.int .i64 i] (fun k => k ≠ g) (fun _ => False) rfl rfl rfl (fun _ h => h.elim) (fun k hk => by have := H5.out.lt; simp at hk; omega) HRT.out H5.out.bel.drew H5.out.bel.drew.size (by have := HSL.out; rw [HLT.out]; omega) ?_; intro v' w7 ho hb hg hat; have HO := Lib.hid ho; have HB := Lib.hid hb; have HG := Lib.hid hg; clear ho hb hg hat)
            all_goals
              have hwi : wrap64 (i + 1) = i + 1 := by have := HL.out; rw [← i64_w, IntWalk.i64_in _ (by omega)]
              have HX := Lib.hid (H5.out.next hlt hwell hst HKK.out HO.out (HG.out.block g H5.out.lt (fun e => HRT.out.1 g e.symm rfl)) HB.out)
              go_wp2_with fail
              go_roundg (l.length - (i + 1).toNat)
              case measure => omega
              case rel => exact ⟨i + 1, _, by rw [hwi], rfl, HX⟩
        · have HF := Lib.hid (fWhole_no l i HI.out.lo hlt _ HI.out.run (fStep_no (fun h => hst h.2)))
          go_wp2_with (first | (go_at_call 60; refine (HW.out _ (below_alloc HI.out.bel _)).mono ?_; rintro _ w3 ⟨rfl, hb3⟩; have kb := blk_below (blk_new wr _) hb3; have k5 := (blk_cell kb 1).trans rfl; have k6 := blk_frozen kb 1; have H3 := Lib.hid (HI.out.below (below_via hb3)); clear hb3 kb))
          go_ret2
          exact ⟨.slice none 0 0, by rw [HF.out]; rfl, H3.out.bel⟩
    · obtain ⟨A5, c5, rfl⟩ := Kd.R_slice HI.out.row
      have HE := Lib.hid (show fWhole l = (st.length == 1) by
        have h1 := HI.out.run
        have h2 := HI.out.hi
        rw [show i.toNat = l.length by omega, List.take_length] at h1
        unfold fWhole
        rw [h1]
        rfl)
      have hi0 := HI.out.lo
      go_wp2_with fail
      go_ret2
      exact ⟨⟨.slice (some ⟨g, 0, none⟩) l.length capg, by
        rw [HE.out]
        have hq : ((st.length : Int) == 1) = (st.length == 1) := by
          rw [Bool.eq_iff_iff]
          simp
          omega
        rw [← hq]
        rfl⟩, HI.out.bel⟩
end Go.Proofs.YtchbammjcnhkiaaDoor.Ce
