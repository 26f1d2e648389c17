/- What a call makes of a web of one's own, whatever its arguments: it stays one that is right. -/
import Derived.Test.YtohkobfamofkgaaCn
namespace Go.Proofs.Ytohkobfamofkgaa.Wb
open Go.RowKit Go.Maps Go.Proofs.Ytohkobfamofkgaa Go.Proofs.YtohkobfamofkgaaW.PrintWords Go.Proofs.YtohkobfamofkgaaW.PrintLast Go.Proofs.YtohkobfamofkgaaW.PrintMore

/-- A right web of one's own. -/
def Play (w0 w : World) (b : Nat) : Prop := ∃ m, Mine w0 w b m ∧ Iw m
theorem Mine.lower {w0 w w' : World} {x : Nat} {m : Web} (hb : Below w0.heap.size w0 w) (h : Mine w w' x m) : Mine w0 w' x m := by
  obtain ⟨V, k1, k2⟩ := h
  exact ⟨V, ⟨k1.blk, Nat.le_trans hb.size k1.hb, fun i hi => (k1.row i hi).lower hb.size, k1.apart⟩, hb.trans ⟨k2.os, k2.tape, k2.output, k2.size, fun i hi => k2.block i (Nat.lt_of_lt_of_le hi hb.size)⟩⟩
theorem Play.new (w : World) : Calls Try.prog 22 #[] w fun e w' => e = .returned (.pointer (some ⟨w.heap.size, 0, none⟩)) ∧ Play w w' w.heap.size :=
  (new_mine w).mono (fun _ _ ⟨a, k⟩ => ⟨a, m0, k, Iw.zero⟩)
theorem Play.below {w0 w w' : World} {b : Nat} (h : Play w0 w b) (k : Below w.heap.size w w') : Play w0 w' b := by
  obtain ⟨m, h1, h2⟩ := h
  exact ⟨m, h1.below k, h2⟩
theorem zero_or_pos {x : Int} {n : Nat} (h : x = 0 ∨ ∃ c : Nat, c < n ∧ x = (c : Int) + 1) : x = 0 ∨ 0 < x := by
  rcases h with h | ⟨c, _, h⟩
  · exact Or.inl h
  · exact Or.inr (by omega)

theorem begin_play (w0 w : World) (b : Nat) (t c : Int) (h : Play w0 w b) : Calls Try.prog 17 #[.pointer (some ⟨b, 0, none⟩), .int .i64 t, .int .i64 c] w fun e w' => (∃ x : Int, e = .returned (.int .i64 x)) ∧ Play w0 w' b := by
  by_cases hr : (0 ≤ t ∧ t < 128) ∧ (0 ≤ c ∧ c < 256)
  · obtain ⟨tn, rfl⟩ : ∃ n : Nat, t = n := ⟨t.toNat, by omega⟩
    obtain ⟨cn, rfl⟩ : ∃ n : Nat, c = n := ⟨c.toNat, by omega⟩
    have ht : tn < 128 := by omega
    have hc : cn < 256 := by omega
    obtain ⟨m, hm, hi⟩ := h
    have hm' := hm
    obtain ⟨V, h1, h2⟩ := hm'
    by_cases a1 : 0 < m.wai tn
    · exact (begin_state w b V m tn cn ht hc h1.blk a1).mono (fun e w' ⟨a, k⟩ => ⟨⟨_, a⟩, k ▸ ⟨m, hm, hi⟩⟩)
    · by_cases a2 : 0 < m.run cn
      · exact (begin_twice w b V m tn cn ht hc h1.blk a1 a2).mono (fun e w' ⟨a, k⟩ => ⟨⟨_, a⟩, k ▸ ⟨m, hm, hi⟩⟩)
      · by_cases a3 : 48 ≤ ((m.ls tn).length : Int)
        · exact (begin_deep _ w b V m tn cn ht hc h1 a1 a2 a3).mono (fun e w' ⟨a, k⟩ => ⟨⟨_, a⟩, k ▸ ⟨m, hm, hi⟩⟩)
        · have hr0 : m.run cn = 0 := by
            rcases hi.wf.run cn hc with k | ⟨r, _, k, _⟩
            · exact k
            · omega
          exact (begin_mine w0 w b m tn cn ht hc hm a1 a2 a3).mono (fun e w' ⟨a, k⟩ => ⟨⟨_, a⟩, _, k, hi.begun ht hc (by omega) hr0⟩)
  · exact (begin_range w b t c hr).mono (fun e w' ⟨a, k⟩ => ⟨⟨_, a⟩, k ▸ h⟩)

theorem snoc_of_ne {l : List Int} (h : l ≠ []) : ∃ s0 x, l = s0 ++ [x] := ⟨l.dropLast, l.getLast h, (List.dropLast_concat_getLast h).symm⟩
theorem end_play (w0 w : World) (b : Nat) (t : Int) (h : Play w0 w b) : Calls Try.prog 18 #[.pointer (some ⟨b, 0, none⟩), .int .i64 t] w fun e w' => (∃ x v y, e = .returned (.tuple #[x, v, y])) ∧ Play w0 w' b := by
  by_cases hr : 0 ≤ t ∧ t < 128
  · obtain ⟨tn, rfl⟩ : ∃ n : Nat, t = n := ⟨t.toNat, by omega⟩
    have ht : tn < 128 := by omega
    obtain ⟨m, hm, hi⟩ := h
    have hm' := hm
    obtain ⟨V, h1, h2⟩ := hm'
    by_cases a1 : 0 < m.wai tn
    · exact (end_state w b V m tn ht h1.blk a1).mono (fun e w' ⟨a, k⟩ => ⟨⟨_, _, _, a⟩, k ▸ ⟨m, hm, hi⟩⟩)
    · by_cases a2 : (m.ls tn).length = 0
      · exact (end_none _ w b V m tn ht h1 a1 a2).mono (fun e w' ⟨a, k⟩ => ⟨⟨_, _, _, a⟩, k ▸ ⟨m, hm, hi⟩⟩)
      · obtain ⟨s0, x, hs⟩ := snoc_of_ne (l := m.ls tn) (fun e => a2 (by rw [e]; rfl))
        obtain ⟨c, hc, rfl, _⟩ := hi.stk tn ht x (by rw [hs]; simp)
        have hlen := hi.wf.len tn ht
        rw [hs, List.length_append] at hlen
        refine (end_ok _ w b V m tn c s0 ht hc h1 a1 hs (by simp at hlen; omega) (fun y hy => ?_) (by have := hi.few c hc; omega)).mono ?_
        · obtain ⟨z, k1, k2, _⟩ := hi.que c hc y hy
          exact ⟨z, k1, k2⟩
        · rintro e w' ⟨V', rfl, k⟩
          exact ⟨⟨_, _, _, rfl⟩, _, Mine.post h1 h2 ⟨V', k.at_, k.chg, fun j hj => Or.inl (k.own j hj)⟩, hi.ended ht hc hs⟩
  · exact (end_range w b t hr).mono (fun e w' ⟨a, k⟩ => ⟨⟨_, _, _, a⟩, k ▸ h⟩)
theorem clone_play (w0 w : World) (b : Nat) (h : Play w0 w b) : Calls Try.prog 28 #[.pointer (some ⟨b, 0, none⟩)] w fun e w' => ∃ x, e = .returned (.pointer (some ⟨x, 0, none⟩)) ∧ Play w0 w' x := by
  obtain ⟨m, ⟨V, h1, h2⟩, hi⟩ := h
  refine (clone_web _ w b V m h1 (fun i hi2 => ?_)).mono (fun e w' ⟨x, a, k⟩ => ⟨x, a, m, k.lower h2, hi⟩)
  by_cases k : i < 128
  · have := hi.wf.len i k; omega
  · have := hi.few (i - 128) (by omega)
    rw [show 128 + (i - 128) = i by omega] at this; omega

theorem ask_play (w0 w : World) (b : Nat) (t c : Int) (h : Play w0 w b) : Calls Try.prog 26 #[.pointer (some ⟨b, 0, none⟩), .int .i64 t, .int .i64 c] w fun e w' => (∃ x y, e = .returned (.tuple #[x, y])) ∧ Play w0 w' b := by
  by_cases hr : (0 ≤ t ∧ t < 128) ∧ (0 ≤ c ∧ c < 256)
  · obtain ⟨tn, rfl⟩ : ∃ n : Nat, t = n := ⟨t.toNat, by omega⟩
    obtain ⟨cn, rfl⟩ : ∃ n : Nat, c = n := ⟨c.toNat, by omega⟩
    have ht : tn < 128 := by omega
    have hc : cn < 256 := by omega
    obtain ⟨m, hm, hi⟩ := h
    have hm' := hm
    obtain ⟨V, h1, h2⟩ := hm'
    by_cases a1 : 0 < m.wai tn
    · exact (ask_state w b V m tn cn ht hc h1.blk a1).mono (fun e w' ⟨a, k⟩ => ⟨⟨_, _, a⟩, k ▸ ⟨m, hm, hi⟩⟩)
    · exact (ask_ok _ w b V m tn cn 129 ht hc h1 hi.wf (hi.ends tn cn hc) (by omega) a1).mono (fun e w' ⟨v, a, _, k⟩ => ⟨⟨_, _, a⟩, m, hm.below k, hi⟩)
  · exact (ask_range w b t c hr).mono (fun e w' ⟨a, k⟩ => ⟨⟨_, _, a⟩, k ▸ h⟩)
theorem wait_play (w0 w : World) (b : Nat) (t c : Int) (h : Play w0 w b) : Calls Try.prog 20 #[.pointer (some ⟨b, 0, none⟩), .int .i64 t, .int .i64 c] w fun e w' => (∃ x y, e = .returned (.tuple #[x, y])) ∧ Play w0 w' b := by
  by_cases hr : (0 ≤ t ∧ t < 128) ∧ (0 ≤ c ∧ c < 256)
  · obtain ⟨tn, rfl⟩ : ∃ n : Nat, t = n := ⟨t.toNat, by omega⟩
    obtain ⟨cn, rfl⟩ : ∃ n : Nat, c = n := ⟨c.toNat, by omega⟩
    have ht : tn < 128 := by omega
    have hc : cn < 256 := by omega
    obtain ⟨m, hm, hi⟩ := h
    have hm' := hm
    obtain ⟨V, h1, h2⟩ := hm'
    have he := hi.ends tn cn hc
    by_cases a1 : 0 < m.wai tn
    · exact (wait_state w b V m tn cn ht hc h1.blk a1).mono (fun e w' ⟨a, k⟩ => ⟨⟨_, _, a⟩, k ▸ ⟨m, hm, hi⟩⟩)
    · by_cases a2 : m.run cn = 0
      · exact (wait_none _ w b V m tn cn 129 ht hc h1 hi.wf he (by omega) a1 a2).mono (fun e w' ⟨a, k⟩ => ⟨⟨_, _, a⟩, m, hm.below k, hi⟩)
      · by_cases a3 : circle m tn 129 cn = []
        · have hw0 : m.wai tn = 0 := by
            rcases zero_or_pos (hi.wf.wai tn ht) with k | k
            · exact k
            · exact absurd k a1
          exact (wait_mine w0 w b m tn cn 129 ht hc hm hi.wf he (by omega) a1 a2 a3 (by have := hi.few cn hc; omega)).mono (fun e w' ⟨a, k⟩ => ⟨⟨_, _, a⟩, _, k, hi.waited ht hc hw0 a2 he a3⟩)
        · exact (wait_cycle _ w b V m tn cn 129 ht hc h1 hi.wf he (by omega) a1 a2 a3).mono (fun e w' ⟨v, a, _, k⟩ => ⟨⟨_, _, a⟩, m, hm.below k, hi⟩)
  · exact (wait_range w b t c hr).mono (fun e w' ⟨a, k⟩ => ⟨⟨_, _, a⟩, k ▸ h⟩)
theorem wake_play (w0 w : World) (b : Nat) (t : Int) (h : Play w0 w b) : Calls Try.prog 21 #[.pointer (some ⟨b, 0, none⟩), .int .i64 t] w fun e w' => (∃ x : Int, e = .returned (.int .i64 x)) ∧ Play w0 w' b := by
  by_cases hr : 0 ≤ t ∧ t < 128
  · obtain ⟨tn, rfl⟩ : ∃ n : Nat, t = n := ⟨t.toNat, by omega⟩
    have ht : tn < 128 := by omega
    obtain ⟨m, hm, hi⟩ := h
    have hm' := hm
    obtain ⟨V, h1, h2⟩ := hm'
    rcases hi.wf.wai tn ht with a1 | ⟨c, hc, a1⟩
    · exact (wake_none _ w b V m tn ht h1 a1).mono (fun e w' ⟨a, k⟩ => ⟨⟨_, a⟩, m, hm.below k, hi⟩)
    · exact (wake_ok _ w b V m tn c ht hc h1 a1 (hi.inq tn c ht a1)).mono (fun e w' ⟨a, k⟩ => ⟨⟨_, a⟩, _, Mine.post h1 h2 k, hi.woken ht hc a1⟩)
  · exact (wake_range w b t hr).mono (fun e w' ⟨a, k⟩ => ⟨⟨_, a⟩, h.below k⟩)
end Go.Proofs.Ytohkobfamofkgaa.Wb
