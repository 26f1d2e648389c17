/- A right web of one's own, and lists that were told of it and stand apart from it; what each call makes of both. -/
import Derived.Test.YtohkobfamofkgaaPy
namespace Go.Proofs.Ytohkobfamofkgaa.Wb
open Go.RowKit Go.Maps Go.Proofs.Ytohkobfamofkgaa Go.Proofs.YtohkobfamofkgaaW.PrintWords Go.Proofs.YtohkobfamofkgaaW.PrintLast Go.Proofs.YtohkobfamofkgaaW.PrintMore

/-- A right web, and lists beside it. -/
structure Kept (w0 w : World) (b : Nat) (m : Web) (vs : List (Value × List Int)) : Prop where
  iw : Iw m
  web : ∃ V, At w0.heap.size w b V m ∧ ∀ x ∈ vs, Row 0 w x.1 x.2 ∧ ∀ k, x.1.ownBlock = some k → ¬ Own b V k
  bel : Below w0.heap.size w0 w
section
variable {w0 w w' : World} {b : Nat} {m m' : Web} {vs : List (Value × List Int)}
theorem Kept.of_play (h : Play w0 w b) : ∃ m, Kept w0 w b m [] := by
  obtain ⟨m, ⟨V, h1, h2⟩, hi⟩ := h
  exact ⟨m, hi, ⟨V, h1, fun x hx => absurd hx (by simp)⟩, h2⟩
theorem Kept.mine (h : Kept w0 w b m vs) : Mine w0 w b m := by
  obtain ⟨V, h1, _⟩ := h.web
  exact ⟨V, h1, h.bel⟩
theorem Kept.to (h : Kept w0 w b m vs) (k : Below w.heap.size w w') : Kept w0 w' b m vs := by
  obtain ⟨V, h1, h2⟩ := h.web
  exact ⟨h.iw, ⟨V, h1.below k, fun x hx => ⟨(h2 x hx).1.below k, (h2 x hx).2⟩⟩, h.bel.trans ⟨k.os, k.tape, k.output, k.size, fun i hi => k.block i (Nat.lt_of_lt_of_le hi h.bel.size)⟩⟩
theorem Kept.add {v : Value} {l : List Int} (h : Kept w0 w b m vs) (hr : Row w.heap.size w' v l) (k : Below w.heap.size w w') : Kept w0 w' b m ((v, l) :: vs) := by
  have h' := h.to k
  obtain ⟨V, h1, h2⟩ := h.web
  refine ⟨h.iw, ⟨V, h1.below k, fun x hx => ?_⟩, h'.bel⟩
  rcases List.mem_cons.1 hx with rfl | hx
  · exact ⟨hr.lower (Nat.zero_le _), fun j hj hown => by have := (hr.block hj).1; have := (h1.own_lt hown).1; omega⟩
  · exact ⟨(h2 x hx).1.below k, (h2 x hx).2⟩
theorem Kept.post {V : Nat → Value} (hi : Iw m') (h1 : At w0.heap.size w b V m) (h2 : ∀ x ∈ vs, Row 0 w x.1 x.2 ∧ ∀ k, x.1.ownBlock = some k → ¬ Own b V k) (hb : Below w0.heap.size w0 w) (k : Post w0.heap.size w b V m' w') : Kept w0 w' b m' vs := by
  obtain ⟨V', k1, k2, k3⟩ := k
  refine ⟨hi, ⟨V', k1, fun x hx => ⟨(h2 x hx).1.move (fun j hj => k2.block j ((h2 x hx).1.block hj).2.1 ((h2 x hx).2 j hj)), fun j hj hown => ?_⟩⟩, Chg.below (S := Own b V) hb k2 (fun i hi => (h1.own_lt hi).2) hb.size⟩
  rcases k3 j hown with h | h
  · exact (h2 x hx).2 j hj h
  · have := ((h2 x hx).1.block hj).2.1; omega
theorem Kept.ints {v : Value} {l : List Int} (h : Kept w0 w b m vs) (hx : (v, l) ∈ vs) : IntsAt w v l := by
  obtain ⟨V, h1, h2⟩ := h.web
  exact IntsAt.of_row (h2 _ hx).1
theorem Kept.run0 (h : Kept w0 w b m vs) {c : Nat} (hc : c < 256) : 0 ≤ m.run c ∧ m.run c ≤ 128 := by
  rcases h.iw.wf.run c hc with k | ⟨r, k1, k2, _⟩ <;> omega
theorem Kept.wai0 (h : Kept w0 w b m vs) {t : Nat} (ht : t < 128) : 0 ≤ m.wai t ∧ m.wai t ≤ 256 := by
  rcases h.iw.wf.wai t ht with k | ⟨r, k1, k2⟩ <;> omega

theorem stack_k (t : Nat) (ht : t < 128) (h : Hid (Kept w0 w b m vs)) :
    Calls Try.prog 15 #[.pointer (some ⟨b, 0, none⟩), .int .i64 t] w fun e w' => ∃ A cap, e = .returned (.tuple #[.slice A (m.ls t).length cap, .int .i64 0]) ∧ Hid (Kept w0 w' b m ((.slice A (m.ls t).length cap, m.ls t) :: vs)) := by
  obtain ⟨V, h1, _⟩ := h.out.web
  refine (stack_ok _ w b V m t ht h1 (by have := h.out.iw.wf.len t ht; omega)).mono ?_
  rintro _ w' ⟨v, rfl, hr, hb⟩
  obtain ⟨A, cap, rfl⟩ := hr.shape
  exact ⟨A, cap, rfl, Lib.hid (h.out.add hr hb)⟩
theorem waiters_k (c : Nat) (hc : c < 256) (h : Hid (Kept w0 w b m vs)) :
    Calls Try.prog 16 #[.pointer (some ⟨b, 0, none⟩), .int .i64 c] w fun e w' => ∃ A cap, e = .returned (.tuple #[.slice A (m.ls (128 + c)).length cap, .int .i64 0]) ∧ Hid (Kept w0 w' b m ((.slice A (m.ls (128 + c)).length cap, m.ls (128 + c)) :: vs)) := by
  obtain ⟨V, h1, _⟩ := h.out.web
  refine (waiters_ok _ w b V m c hc h1 (by have := h.out.iw.few c hc; omega)).mono ?_
  rintro _ w' ⟨v, rfl, hr, hb⟩
  obtain ⟨A, cap, rfl⟩ := hr.shape
  exact ⟨A, cap, rfl, Lib.hid (h.out.add hr hb)⟩
theorem runner_k (c : Nat) (hc : c < 256) (h : Hid (Kept w0 w b m vs)) :
    Calls Try.prog 19 #[.pointer (some ⟨b, 0, none⟩), .int .i64 c] w fun e w' => e = .returned (.tuple #[.int .i64 (if m.run c = 0 then 0 else m.run c - 1), .bool (m.run c != 0), .int .i64 0]) ∧ w = w' := by
  obtain ⟨V, h1, _⟩ := h.out.web
  exact runner_in w b V m c hc h1.blk (h.out.run0 hc).1 (h.out.run0 hc).2
theorem waiting_k (t : Nat) (ht : t < 128) (h : Hid (Kept w0 w b m vs)) :
    Calls Try.prog 25 #[.pointer (some ⟨b, 0, none⟩), .int .i64 t] w fun e w' => e = .returned (.tuple #[.int .i64 (if m.wai t = 0 then 0 else m.wai t - 1), .bool (m.wai t != 0), .int .i64 0]) ∧ w = w' := by
  obtain ⟨V, h1, _⟩ := h.out.web
  exact waiting_in w b V m t ht h1.blk (h.out.wai0 ht).1 (h.out.wai0 ht).2
theorem begin_k (t c : Nat) (ht : t < 128) (hc : c < 256) (h : Hid (Kept w0 w b m vs)) :
    Calls Try.prog 17 #[.pointer (some ⟨b, 0, none⟩), .int .i64 t, .int .i64 c] w fun e w' => ∃ x : Int, e = .returned (.int .i64 x) ∧ ((x ≠ 0 ∧ Hid (Kept w0 w' b m vs)) ∨ (x = 0 ∧ m.wai t = 0 ∧ m.run c = 0 ∧ Hid (Kept w0 w' b (begun m t c) vs))) := by
  have h' := h.out
  obtain ⟨V, h1, h2⟩ := h'.web
  have hr0 := h'.run0 hc
  have hw0 := h'.wai0 ht
  by_cases a1 : 0 < m.wai t
  · exact (begin_state w b V m t c ht hc h1.blk a1).mono (fun e w' ⟨a, k⟩ => ⟨_, a, Or.inl ⟨by decide, k ▸ h⟩⟩)
  · by_cases a2 : 0 < m.run c
    · exact (begin_twice w b V m t c ht hc h1.blk a1 a2).mono (fun e w' ⟨a, k⟩ => ⟨_, a, Or.inl ⟨by decide, k ▸ h⟩⟩)
    · by_cases a3 : 48 ≤ ((m.ls t).length : Int)
      · exact (begin_deep _ w b V m t c ht hc h1 a1 a2 a3).mono (fun e w' ⟨a, k⟩ => ⟨_, a, Or.inl ⟨by decide, k ▸ h⟩⟩)
      · exact (begin_ok _ w b V m t c ht hc h1 a1 a2 a3).mono (fun e w' ⟨a, k⟩ => ⟨_, a, Or.inr ⟨rfl, by omega, by omega, Lib.hid (Kept.post (h'.iw.begun ht hc (by omega) (by omega)) h1 h2 h'.bel k)⟩⟩)
theorem Iw.nobody (h : Iw m) {c : Nat} (hc : c < 256) (hr : m.run c = 0) : m.ls (128 + c) = [] := by
  cases he : m.ls (128 + c) with
  | nil => rfl
  | cons x l =>
    obtain ⟨y, h1, _, h3⟩ := h.que c hc x (by rw [he]; simp)
    exact absurd hr (h.runs y c h1 h3)
theorem undone (h : Iw m) {t c : Nat} (ht : t < 128) (hc : c < 256) (hr : m.run c = 0) : ended (begun m t c) t c (m.ls t) = m := by
  have hn := h.nobody hc hr
  unfold ended begun
  cases m with
  | mk ls run wai =>
    simp only at hn hr ⊢
    congr 1
    · funext i
      by_cases h1 : i = 128 + c
      · subst h1; rw [upd_same, hn]
      · rw [upd_other _ _ h1]
        by_cases h2 : i = t
        · subst h2; rw [upd_same]
        · rw [upd_other _ _ h2, upd_other _ _ h2]
    · funext i
      by_cases h1 : i = c
      · subst h1; rw [upd_same, hr]
      · rw [upd_other _ _ h1, upd_other _ _ h1]
    · rw [upd_other _ _ (by omega), hn, clr_nil]
theorem end_undo (hi : Iw m) (t c : Nat) (ht : t < 128) (hc : c < 256) (hw : m.wai t = 0) (hr : m.run c = 0) (h : Hid (Kept w0 w b (begun m t c) vs)) :
    Calls Try.prog 18 #[.pointer (some ⟨b, 0, none⟩), .int .i64 t] w fun e w' => ∃ A cap, e = .returned (.tuple #[.int .i64 c, .slice A 0 cap, .int .i64 0]) ∧ Hid (Kept w0 w' b m vs) := by
  have h' := h.out
  obtain ⟨V, h1, h2⟩ := h'.web
  have hn : (begun m t c).ls (128 + c) = [] := (upd_other _ _ (by omega)).trans (hi.nobody hc hr)
  refine (end_ok _ w b V (begun m t c) t c (m.ls t) ht hc h1 (by show ¬ 0 < m.wai t; omega) (upd_same _ _ _) (by have := hi.wf.len t ht; omega) (by rw [hn]; simp) (by rw [hn]; simp)).mono ?_
  rintro e w' ⟨V', rfl, k⟩
  have kr := k.row
  rw [hn] at kr
  obtain ⟨A, cap, e2⟩ := kr.shape
  have ka := k.at_
  rw [undone hi ht hc hr] at ka
  exact ⟨A, cap, by rw [e2]; rfl, Lib.hid (Kept.post hi h1 h2 h'.bel ⟨V', ka, k.chg, fun j hj => Or.inl (k.own j hj)⟩)⟩
theorem wait_k (t c : Nat) (ht : t < 128) (hc : c < 256) (h : Hid (Kept w0 w b m vs)) :
    Calls Try.prog 20 #[.pointer (some ⟨b, 0, none⟩), .int .i64 t, .int .i64 c] w fun e w' => ∃ (v : Value) (x : Int), e = .returned (.tuple #[v, .int .i64 x]) ∧ ((x ≠ 0 ∧ Hid (Kept w0 w' b m vs)) ∨ (x = 0 ∧ m.wai t = 0 ∧ Hid (Kept w0 w' b (waited m t c) vs))) := by
  have h' := h.out
  obtain ⟨V, h1, h2⟩ := h'.web
  have hw0 := h'.wai0 ht
  have hi := h'.iw
  have he := hi.ends t c hc
  by_cases a1 : 0 < m.wai t
  · exact (wait_state w b V m t c ht hc h1.blk a1).mono (fun e w' ⟨a, k⟩ => ⟨_, _, a, Or.inl ⟨by decide, k ▸ h⟩⟩)
  · by_cases a2 : m.run c = 0
    · exact (wait_none _ w b V m t c 129 ht hc h1 hi.wf he (by omega) a1 a2).mono (fun e w' ⟨a, k⟩ => ⟨_, _, a, Or.inl ⟨by decide, Lib.hid (h'.to k)⟩⟩)
    · by_cases a3 : circle m t 129 c = []
      · exact (wait_ok _ w b V m t c 129 ht hc h1 hi.wf he (by omega) a1 a2 a3 (by have := hi.few c hc; omega)).mono (fun e w' ⟨a, k⟩ => ⟨_, _, a, Or.inr ⟨rfl, by omega, Lib.hid (Kept.post (hi.waited ht hc (by omega) a2 he a3) h1 h2 h'.bel k)⟩⟩)
      · exact (wait_cycle _ w b V m t c 129 ht hc h1 hi.wf he (by omega) a1 a2 a3).mono (fun e w' ⟨v, a, _, k⟩ => ⟨_, _, a, Or.inl ⟨by decide, Lib.hid (h'.to k)⟩⟩)
theorem woke (h : Iw m) {t c : Nat} (ht : t < 128) (hc : c < 256) (hw : m.wai t = 0) : woken (waited m t c) t c = m := by
  have hn : (t : Int) ∉ m.ls (128 + c) := fun k => by
    obtain ⟨y, _, h2, h3⟩ := h.que c hc _ k
    have : y = t := by omega
    subst this; omega
  unfold woken waited
  cases m with
  | mk ls run wai =>
    simp only at hn hw ⊢
    congr 1
    · funext i
      by_cases h1 : i = 128 + c
      · subst h1
        rw [upd_same, upd_same, List.filter_append]
        rw [List.filter_eq_self.2 (fun x hx => by simp; rintro rfl; exact hn hx)]
        simp
      · rw [upd_other _ _ h1, upd_other _ _ h1]
    · funext i
      by_cases h1 : i = t
      · subst h1; rw [upd_same, hw]
      · rw [upd_other _ _ h1, upd_other _ _ h1]
theorem wake_undo (hi : Iw m) (t c : Nat) (ht : t < 128) (hc : c < 256) (hw : m.wai t = 0) (h : Hid (Kept w0 w b (waited m t c) vs)) :
    Calls Try.prog 21 #[.pointer (some ⟨b, 0, none⟩), .int .i64 t] w fun e w' => e = .returned (.int .i64 0) ∧ Hid (Kept w0 w' b m vs) := by
  have h' := h.out
  obtain ⟨V, h1, h2⟩ := h'.web
  have a1 : (waited m t c).wai t = (c : Int) + 1 := upd_same _ _ _
  refine (wake_ok _ w b V _ t c ht hc h1 a1 (h'.iw.inq t c ht a1)).mono ?_
  rintro e w' ⟨rfl, k⟩
  rw [woke hi ht hc hw] at k
  exact ⟨rfl, Lib.hid (Kept.post hi h1 h2 h'.bel k)⟩
theorem wake_no (t : Nat) (ht : t < 128) (hw : m.wai t = 0) (h : Hid (Kept w0 w b m vs)) :
    Calls Try.prog 21 #[.pointer (some ⟨b, 0, none⟩), .int .i64 t] w fun e w' => e = .returned (.int .i64 4) ∧ Hid (Kept w0 w' b m vs) := by
  obtain ⟨V, h1, h2⟩ := h.out.web
  exact (wake_none _ w b V m t ht h1 hw).mono (fun e w' ⟨a, k⟩ => ⟨a, Lib.hid (h.out.to k)⟩)
end
end Go.Proofs.Ytohkobfamofkgaa.Wb
namespace Go.Proofs.Ytohkobfamofkgaa
open Go.RowKit Go.Maps Go.Proofs.Ytohkobfamofkgaa Go.Proofs.Ytohkobfamofkgaa.Wb Go.Proofs.YtohkobfamofkgaaW.PrintWords Go.Proofs.YtohkobfamofkgaaW.PrintLast Go.Proofs.YtohkobfamofkgaaW.PrintMore
theorem ints_k {w0 w : World} {b : Nat} {m : Web} {vs : List (Value × List Int)} (v u : Value) (l : List Int) (h : Hid (Kept w0 w b m vs)) (hv : (v, l) ∈ vs) (hu : (u, l) ∈ vs) (hl : l.length ≤ 1000000) :
    Calls Try.prog 11 #[v, u] w fun e w' => e = .returned (.bool true) ∧ Hid (Kept w0 w' b m vs) :=
  (ints_eq w v u l (h.out.ints hv) (h.out.ints hu) (by omega)).mono (fun _ _ ⟨a, k⟩ => ⟨a, Lib.hid (h.out.to k)⟩)
theorem played_k (A : Option Addr) (l : List (Int × Int × Int)) (c : Nat) (w0 w : World) (h : Hid (Below w0.heap.size w0 w)) (hl : l.length ≤ c) (hC : Hid (Kd.C kcall w0 A l.length l)) (hb : l.length * 24 ≤ 140737488351232) :
    Calls Try.prog 13 #[.slice A l.length c] w fun e w' => ∃ b m, e = .returned (.pointer (some ⟨b, 0, none⟩)) ∧ Hid (Kept w0 w' b m []) := by
  refine (played_any A l c w hl (Kd.C_below hC.out h.out) hb).mono ?_
  rintro _ w' ⟨b, rfl, m, k, hi⟩
  obtain ⟨m', k2⟩ := Kept.of_play (w0 := w0) (b := b) ⟨m, k.lower h.out, hi⟩
  exact ⟨b, m', rfl, Lib.hid k2⟩
theorem among_k {w0 w : World} {b : Nat} {m : Web} {vs : List (Value × List Int)} (x : Int) (n : Nat) (h0 : 0 < n) (h1 : n < 100000) (h : Hid (Kept w0 w b m vs)) :
    Calls Try.prog 14 #[.int .i64 x, .int .i64 n] w fun e w' => ∃ t : Nat, e = .returned (.int .i64 t) ∧ t < n ∧ Hid (Kept w0 w' b m vs) := by
  refine (among_any w x n (by omega) (by omega)).mono ?_
  rintro _ w' ⟨rfl, k⟩
  have a1 := Int.emod_nonneg x (show (n : Int) ≠ 0 by omega)
  have a2 := Int.emod_lt_of_pos x (show (0 : Int) < n by omega)
  exact ⟨(x % n).toNat, by rw [Int.toNat_of_nonneg a1], by omega, Lib.hid (h.out.to k)⟩
end Go.Proofs.Ytohkobfamofkgaa
