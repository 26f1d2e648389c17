/- End: for every web. -/
import Derived.Test.YtohkobfamofkgaaWk
namespace Go.Proofs.Ytohkobfamofkgaa.Wb
open Go.RowKit Go.Maps Go.Proofs.Ytohkobfamofkgaa Go.Proofs.YtohkobfamofkgaaW.PrintWords Go.Proofs.YtohkobfamofkgaaW.PrintLast Go.Proofs.YtohkobfamofkgaaW.PrintMore

theorem end_range (w : World) (b : Nat) (t : Int) (h : ¬ (0 ≤ t ∧ t < 128)) :
    Calls Try.prog 18 #[.pointer (some ⟨b, 0, none⟩), .int .i64 t] w fun e w' => e = .returned (.tuple #[.int .i64 0, .slice none 0 0, .int .i64 1]) ∧ w = w' := by
  have HC := Lib.hid h
  clear h
  go_enter Try.func18, Try.ntmps18
  go_wp2_with (first | (go_at_call 29; refine (task_out _ _ HC.out).mono ?_; rintro _ _ ⟨rfl, rfl⟩))
  go_ret3
  exact ⟨rfl, rfl⟩
theorem end_state (w : World) (b : Nat) (V : Nat → Value) (m : Web) (t : Nat) (ht : t < 128) (h : Blk w b V m) (hw : 0 < m.wai t) :
    Calls Try.prog 18 #[.pointer (some ⟨b, 0, none⟩), .int .i64 t] w fun e w' => e = .returned (.tuple #[.int .i64 0, .slice none 0 0, .int .i64 7]) ∧ w = w' := by
  have c0 := h.waits ht
  have ht' : (t : Int) < 128 := by omega
  clear h
  go_enter Try.func18, Try.ntmps18
  go_wp2_with (first | (go_at_call 29; refine (task_in _ _ (by omega) (by omega)).mono ?_; rintro _ _ ⟨rfl, rfl⟩))
  go_ret3
  exact ⟨rfl, rfl⟩
set_option maxRecDepth 100000 in
theorem end_none (B : Nat) (w : World) (b : Nat) (V : Nat → Value) (m : Web) (t : Nat) (ht : t < 128) (h : At B w b V m) (hw : ¬ 0 < m.wai t) (hl : (m.ls t).length = 0) :
    Calls Try.prog 18 #[.pointer (some ⟨b, 0, none⟩), .int .i64 t] w fun e w' => e = .returned (.tuple #[.int .i64 0, .slice none 0 0, .int .i64 4]) ∧ w = w' := by
  have c0 := h.blk.waits ht
  have c1 := h.blk.stack ht
  obtain ⟨A, cap, e⟩ := (h.row t (by omega)).shape
  rw [e, hl] at c1
  have ht' : (t : Int) < 128 := by omega
  clear h e hl
  go_enter Try.func18, Try.ntmps18
  go_wp2_with (first | (go_at_call 29; refine (task_in _ _ (by omega) (by omega)).mono ?_; rintro _ _ ⟨rfl, rfl⟩))
  go_ret3
  exact ⟨rfl, rfl⟩

/-- Another value and list at one place, of what the old one owned alone. -/
theorem At.setRow {B : Nat} {w w' : World} {b : Nat} {V : Nat → Value} {m : Web} (h : At B w b V m) {i : Nat} (hi : i < 384) {v : Value} {l : List Int} (hset : Blk w' b (upd V i v) { m with ls := upd m.ls i l }) (hk : ∀ k, k ≠ b → w'.heap[k]? = w.heap[k]?) (hr : Row B w v l)
    (hap : ∀ k, v.ownBlock = some k → (V i).ownBlock = some k) : At B w' b (upd V i v) { m with ls := upd m.ls i l } := by
  refine h.put (l' := l) hset (fun _ _ => rfl) ?_ (fun j hj _ k hkk => hk k (h.ne hj hkk)) (fun k hkk => Or.inl (hap k hkk)) hi
  exact hr.move (fun k hkk => hk k (h.ne hi (hap k hkk)))
theorem own_sub {V : Nat → Value} {b i : Nat} {v : Value} (hi : i < 384) (hap : ∀ k, v.ownBlock = some k → (V i).ownBlock = some k) : ∀ k, Own b (upd V i v) k → Own b V k := by
  rintro k (rfl | ⟨j, hj, hk⟩)
  · exact Or.inl rfl
  · by_cases e : j = i
    · subst e; rw [upd_same] at hk; exact Or.inr ⟨j, hi, hap k hk⟩
    · rw [upd_other _ _ e] at hk; exact Or.inr ⟨j, hj, hk⟩

/-- Those who waited wait no more. -/
def clr (wai : Nat → Int) (q : List Int) : Nat → Int := fun t => if (t : Int) ∈ q then 0 else wai t
theorem clr_nil (wai : Nat → Int) : clr wai [] = wai := by funext t; unfold clr; rw [if_neg (by simp)]
theorem clr_snoc (wai : Nat → Int) (q : List Int) (x : Nat) : upd (clr wai q) x 0 = clr wai (q ++ [(x : Int)]) := by
  funext t
  unfold upd clr
  by_cases e : t = x
  · subst e; rw [if_pos rfl, if_pos (by simp)]
  · have : ((t : Int) ∈ q ++ [(x : Int)]) ↔ (t : Int) ∈ q := by
      rw [List.mem_append, List.mem_singleton]
      exact ⟨fun h => h.elim id (fun h => absurd (by omega) e), Or.inl⟩
    rw [if_neg e]
    by_cases h : (t : Int) ∈ q
    · rw [if_pos h, if_pos (this.2 h)]
    · rw [if_neg h, if_neg (fun k => h (this.1 k))]
def ended (m : Web) (t c : Nat) (s0 : List Int) : Web := { ls := upd (upd m.ls t s0) (128 + c) [], run := upd m.run c 0, wai := clr m.wai (m.ls (128 + c)) }

/-- What the loop over the woken keeps. -/
structure Lp (B : Nat) (w wr : World) (b : Nat) (V V' : Nat → Value) (m' : Web) (u : Value) (q : List Int) : Prop where
  at_ : At B wr b V' m'
  chg : Chg (Own b V) w wr
  row : Row B wr u q
  own : ∀ k, Own b V' k → Own b V k
  apart : ∀ k, u.ownBlock = some k → ¬ Own b V' k
theorem Lp.setWaits {B : Nat} {w wr : World} {b : Nat} {V V' : Nat → Value} {m' : Web} {u : Value} {q : List Int} (h : Lp B w wr b V V' m' u q) {x : Nat} (hx : x < 128) (y : Int) : Lp B w (wr.setCell ⟨b, 384 + x, none⟩ (.int .i64 y)) b V V' { m' with wai := upd m'.wai x y } u q :=
  ⟨h.at_.setWaits hx y, h.chg.setCell (Or.inl rfl) _, h.row.move (fun k hk => Below.heap_setCell _ _ _ _ (fun e => h.apart k hk (Or.inl e))), h.own, h.apart⟩

theorem Lp.since {B : Nat} {w w1 wr : World} {b : Nat} {V V' : Nat → Value} {m' : Web} {u : Value} {q : List Int} (k : Below w.heap.size w w1) (h : Lp B w1 wr b V V' m' u q) : Lp B w wr b V V' m' u q :=
  ⟨h.at_, (Chg.of_below k).trans h.chg, h.row, h.own, h.apart⟩

/-- The three stores ahead of the loop. -/
theorem lp_first {B : Nat} {w : World} {b : Nat} {V : Nat → Value} {m : Web} (h : At B w b V m) {t c g cap : Nat} {s0 : List Int} (ht : t < 128) (hc : c < 256) (hs : m.ls t = s0 ++ [(c : Int)]) (hv : V t = .slice (some ⟨g, 0, none⟩) (s0.length + 1) cap) :
    Lp B w (((w.setCell ⟨b, t, none⟩ (.slice (some ⟨g, 0, none⟩) s0.length cap)).setCell ⟨b, 128 + c, none⟩ (.int .i64 0)).setCell ⟨b, 512 + c, none⟩ (.slice none 0 0)) b V
      (upd (upd V t (.slice (some ⟨g, 0, none⟩) s0.length cap)) (128 + c) (.slice none 0 0)) { ls := upd (upd m.ls t s0) (128 + c) [], run := upd m.run c 0, wai := m.wai } (V (128 + c)) (m.ls (128 + c)) := by
  have hk : ∀ (w1 : World) o v k, k ≠ b → (w1.setCell ⟨b, o, none⟩ v).heap[k]? = w1.heap[k]? := fun w1 o v k hne => Below.heap_setCell _ _ _ _ hne
  have hr0 : Row B w (.slice (some ⟨g, 0, none⟩) s0.length cap) s0 := by
    have hr := h.row t (by omega)
    rw [hs] at hr
    obtain ⟨g', cap', cur, e, hb, hcap, hmx, hx⟩ := hr.full (by simp)
    rw [hv] at e
    injection e with e1 e2 e3
    injection e1 with e1
    injection e1 with e1
    subst e1; subst e3
    obtain ⟨_, h2 | ⟨g2, cap2, cur2, e, hB, hb2, hc2, hm2, hs2, ht2⟩⟩ := hr
    · rw [hv] at h2; exact absurd h2.1 (by simp)
    · rw [hv] at e
      injection e with e1 e2 e3
      injection e1 with e1
      injection e1 with e1
      subst e1; subst e3
      refine ⟨by simp, Or.inr ⟨g, cap, cur2, rfl, hB, hb2, by simp at hc2; omega, hm2, hs2, ?_⟩⟩
      rw [Nat.mul_one] at ht2 ⊢
      have e5 := congrArg (List.take s0.length) ht2
      rw [List.take_take] at e5
      simp at e5
      exact e5
  have h1 : At B (w.setCell ⟨b, t, none⟩ (.slice (some ⟨g, 0, none⟩) s0.length cap)) b (upd V t (.slice (some ⟨g, 0, none⟩) s0.length cap)) { m with ls := upd m.ls t s0 } :=
    h.setRow (by omega) (h.blk.setStack ht _ _) (hk _ _ _) hr0 (fun k hkk => by rw [hv]; exact hkk)
  have h2 := h1.setRunner hc 0
  have h3 := h2.setRow (i := 128 + c) (v := .slice none 0 0) (l := []) (by omega) (h2.blk.setQueue hc _ _) (hk _ _ _) ⟨rfl, Or.inl ⟨rfl, rfl⟩⟩ (fun k hkk => absurd hkk (by simp [Value.ownBlock]))
  have ho1 : ∀ k, Own b (upd V t (.slice (some ⟨g, 0, none⟩) s0.length cap)) k → Own b V k := own_sub (by omega) (fun k hkk => by rw [hv]; exact hkk)
  have ho2 : ∀ k, Own b (upd (upd V t (.slice (some ⟨g, 0, none⟩) s0.length cap)) (128 + c) (.slice none 0 0)) k → Own b (upd V t (.slice (some ⟨g, 0, none⟩) s0.length cap)) k := own_sub (by omega) (fun k hkk => absurd hkk (by simp [Value.ownBlock]))
  refine ⟨h3, (((Chg.refl (Own b V) w).setCell (Or.inl rfl) _).setCell (Or.inl rfl) _).setCell (Or.inl rfl) _, ?_, fun k hkk => ho1 k (ho2 k hkk), ?_⟩
  · refine (h.row (128 + c) (by omega)).move (fun k hkk => ?_)
    have hne := h.ne (by omega) hkk
    rw [hk _ _ _ _ hne, hk _ _ _ _ hne, hk _ _ _ _ hne]
  · rintro k hkk (rfl | ⟨j, hj, hjk⟩)
    · exact h.ne (by omega) hkk rfl
    · by_cases e : j = 128 + c
      · subst e; rw [upd_same] at hjk; exact absurd hjk (by simp [Value.ownBlock])
      · rw [upd_other _ _ e] at hjk
        by_cases e2 : j = t
        · subst e2
          rw [upd_same] at hjk
          have : (V j).ownBlock = some k := by rw [hv]; exact hjk
          exact h.apart j (128 + c) (by omega) (by omega) (by omega) k this hkk
        · rw [upd_other _ _ e2] at hjk
          exact h.apart j (128 + c) hj (by omega) e k hjk hkk

set_option maxHeartbeats 2000000 in
set_option maxRecDepth 100000 in
theorem end_ok (B : Nat) (w : World) (b : Nat) (V : Nat → Value) (m : Web) (t c : Nat) (s0 : List Int) (ht : t < 128) (hc : c < 256) (h : At B w b V m) (hw : ¬ 0 < m.wai t) (hs : m.ls t = s0 ++ [(c : Int)]) (hlen : s0.length < 1000) (hq : ∀ x ∈ m.ls (128 + c), ∃ y : Nat, y < 128 ∧ x = y) (hlq : (m.ls (128 + c)).length ≤ 1000) :
    Calls Try.prog 18 #[.pointer (some ⟨b, 0, none⟩), .int .i64 t] w fun e w' => ∃ V', e = .returned (.tuple #[.int .i64 c, V (128 + c), .int .i64 0]) ∧ Lp B w w' b V V' (ended m t c s0) (V (128 + c)) (m.ls (128 + c)) := by
  have c0 := h.blk.waits ht
  have c1 := h.blk.stack ht
  have hr := h.row t (by omega)
  rw [hs] at hr
  obtain ⟨g, cap, cur, e, hb, hcap, hmx, hx⟩ := hr.full (by simp)
  have e' : V t = .slice (some ⟨g, 0, none⟩) (s0.length + 1) cap := by rw [e]; simp
  have HF := Lib.hid (fun w1 (k : At B w1 b V m) => lp_first k ht hc hs e')
  have HV := Lib.hid e'
  obtain ⟨Aq, capq, eq⟩ := (h.row (128 + c) (by omega)).shape
  have HQ := Lib.hid eq
  have HW := Lib.hid hq
  have hcap' : s0.length + 1 ≤ cap := by simpa using hcap
  have cg : w.cell? ⟨g, s0.length, none⟩ = some (.int .i64 c) := row_cells hb hx _ _ (by simp)
  rw [e'] at c1
  have ht' : (t : Int) < 128 := by omega
  have hc' : (c : Int) < 256 := by omega
  have f := h.blk.free
  have hn1 : IntKind.i64.wrap ((s0.length : Int) + 1 - 1) = s0.length := by rw [IntWalk.i64_in _ (by omega)]; omega
  have HA := Lib.hid h
  have HL := Lib.hid hlq
  refine Calls.mono (R := fun e w' => e = .returned (.tuple #[.int .i64 c, V (128 + c), .int .i64 0]) ∧ Lp B w w' b V (upd (upd V t (.slice (some ⟨g, 0, none⟩) s0.length cap)) (128 + c) (.slice none 0 0)) (ended m t c s0) (V (128 + c)) (m.ls (128 + c))) ?_ (fun _ _ ⟨a, k⟩ => ⟨_, a, k⟩)
  clear hr e e' hb hx hmx hcap h eq hq hlq hs
  go_enter Try.func18, Try.ntmps18
  go_wp2_with (first | (go_at_call 29; refine (task_in _ _ (by omega) (by omega)).mono ?_; rintro _ _ ⟨rfl, rfl⟩))
  refine region_tail 13 (by kernel_rfl) (by kernel_rfl) (fun w1 => At B w1 b V m ∧ Below w.heap.size w w1) ⟨HA.out.below ((Below.refl _ _).drew), (Below.refl _ _).drew⟩ ?_
  rintro w1 ⟨k1, k2⟩
  clear c0 c1 cg f HA
  have HF1 := Lib.hid (HF.out w1 k1)
  have HB := Lib.hid k2
  have c1 := k1.blk.stack ht
  rw [HV.out] at c1
  have c3 := k1.blk.queue hc
  rw [HQ.out] at c3
  have c4 := k1.blk.runner hc
  have f := k1.blk.free
  have hlt := blk_lt k1.blk
  have hcp : (s0.length : Int) ≤ cap := by omega
  have hcp2 : s0.length ≤ cap := by omega
  clear k1 k2 HF
  have hn1 : ¬ t = 128 + c := by omega
  have hn2 : ¬ t = 512 + c := by omega
  have hn3 : ¬ 128 + c = 512 + c := by omega
  simp only [List.take_succ_cons, List.take_zero, List.drop_succ_cons, List.drop_zero]
  iterate 13 (refine wpStill_step (fun K hK => ?_); go_simp; refine hK _ ?_; clear hK K)
  refine wpStill_nil ?_
  have HY0 := Lib.hid (show Lp B w _ b V _ { ls := upd (upd m.ls t s0) (128 + c) [], run := upd m.run c 0, wai := clr m.wai ((m.ls (128 + c)).take 0) } (V (128 + c)) (m.ls (128 + c)) from by rw [List.take_zero, clr_nil]; exact Lp.since HB.out HF1.out)
  clear HF1 HB
  go_wp2_with fail
  clear c1 c3 c4 f hlt hcap' hn1 hn2 hn3 hcp hcp2
  go_loopw [81] (fun i wr => ∃ j : Nat, i = .int .i64 j ∧ j ≤ (m.ls (128 + c)).length ∧ Hid (Lp B w wr b V (upd (upd V t (.slice (some ⟨g, 0, none⟩) s0.length cap)) (128 + c) (.slice none 0 0)) { ls := upd (upd m.ls t s0) (128 + c) [], run := upd m.run c 0, wai := clr m.wai ((m.ls (128 + c)).take j) } (V (128 + c)) (m.ls (128 + c)))) (fun i _ => ((m.ls (128 + c)).length - intOf i).toNat)
  case atStart => exact ⟨0, rfl, Nat.zero_le _, HY0⟩
  case round =>
    obtain ⟨j, rfl, hj, HY⟩ := hrel
    clear HY0
    by_cases hlt : j < (m.ls (128 + c)).length
    · have hne : m.ls (128 + c) ≠ [] := fun e => by rw [e] at hlt; simp at hlt
      obtain ⟨g2, cap2, cur2, e2, hb2, hcap2, hmx2, hx2⟩ := HY.out.row.full hne
      rw [HQ.out] at e2
      injection e2 with e3 _ e4
      subst e3; subst e4
      obtain ⟨y, hy, hy2⟩ := HW.out _ (List.getElem_mem hlt)
      have cy := row_cells hb2 hx2 j _ (List.getElem?_eq_getElem hlt)
      rw [hy2] at cy
      have HY2 := Lib.hid hy2
      have f := HY.out.at_.blk.free
      have cw := HY.out.at_.blk.waits hy
      have hy' : (y : Int) < 128 := by omega
      have hlt' : (j : Int) < (m.ls (128 + c)).length := by omega
      have hl2 := HL.out
      have hw : IntKind.i64.wrap ((j : Int) + 1) = j + 1 := IntWalk.i64_in _ (by omega)
      clear hne hb2 hcap2 hmx2 hx2 hy2
      go_wp2_with fail
      go_roundw
      case measure => simp [intOf]; omega
      case rel => exact ⟨j + 1, by rfl, by omega, Lib.hid (by
        have k := HY.out.setWaits hy 0
        have e : upd (clr m.wai ((m.ls (128 + c)).take j)) y 0 = clr m.wai ((m.ls (128 + c)).take (j + 1)) := by
          rw [clr_snoc, List.take_add_one, List.getElem?_eq_getElem hlt, HY2.out]; rfl
        rw [← e]; exact k)⟩
    · have hj2 : j = (m.ls (128 + c)).length := by omega
      have HYE := Lib.hid (show Lp B w wr b V _ (ended m t c s0) (V (128 + c)) (m.ls (128 + c)) from by
        have k := HY.out
        rw [hj2, List.take_length] at k
        exact k)
      have hlt' : ¬ (j : Int) < (m.ls (128 + c)).length := by omega
      clear hj2
      go_wp2_with fail
      go_ret3
      exact ⟨by rw [HQ.out]; rfl, HYE.out⟩
end Go.Proofs.Ytohkobfamofkgaa.Wb
