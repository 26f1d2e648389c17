/- The walk of the law RetryTrips: it answers true and leaves what was there as it was: for all numbers. -/
import Derived.Test.YtklccnnmdlckfaaPRetryTripsx2
import Derived.Test.YtklccnnmdlckfaaBf
namespace Go.Proofs.Ytklccnnmdlckfaa.LwTrips
open Go.RowKit Go.Maps Go.Proofs.Ytklccnnmdlckfaa Go.Proofs.Ytklccnnmdlckfaa.Br Go.Proofs.Ytklccnnmdlckfaa.PRetryTrips Go.Proofs.YtklccnnmdlckfaaW.PrintWords Go.Proofs.YtklccnnmdlckfaaW.PrintLast Go.Proofs.YtklccnnmdlckfaaW.PrintMore

theorem drawn {w w' : World} (h : Drawn0 w w') : ∃ n, w' = w.drewN n := h.out

theorem needs : Needs where
  wait w := (retry_Wait.calls 10 5 10 3 50 2 30 0 w (by decide +kernel)).mono fun _ _ h => h
  times w := (retry_Times.calls 20 5 10 3 50 0 [0, 10, 40, 90, 140] 0 w (by decide +kernel)).mono fun _ _ ⟨v, h1, h2, h3⟩ => ⟨v, h1, IntsAt.of_R h2, h3⟩
  ints w v u hv hu := by
    obtain ⟨A, c, rfl, hc, h1⟩ := hv
    obtain ⟨A', c', rfl, hc', h2⟩ := hu
    exact (onceweblaw12_ints.calls 20 A c _ A' c' _ true w h1 hc h2 hc' (by decide +kernel)).mono fun _ _ ⟨h, h'⟩ => ⟨h, drawn h'⟩

/-- among: a number from 0 to m - 1. -/
theorem among_c (w : World) (x m : Int) (hm : 1 ≤ m) (hm2 : m ≤ 1000000) (hx : (Lit.int .i64 x).wf = true) :
    Calls Try.prog 33 #[.int .i64 x, .int .i64 m] w fun e w' => ∃ r : Int, e = .returned (.int .i64 r) ∧ 0 ≤ r ∧ r < m ∧ ∃ n, w' = w.drewN n := by
  have h1 : -m < Int.tmod x m ∧ Int.tmod x m < m := ⟨Int.lt_tmod_of_pos x (by omega), Int.tmod_lt_of_pos x (by omega)⟩
  have e : wrap64 (Int.tmod x m + m) = Int.tmod x m + m := by unfold wrap64; omega
  refine (onceweblaw12_among.calls x m (Int.tmod (Int.tmod x m + m) m) w (by unfold onceweblaw12_among.f; rw [if_neg (by omega), e])).mono ?_
  rintro _ _ ⟨h, h'⟩
  exact ⟨_, h, Int.tmod_nonneg _ (by omega), Int.tmod_lt_of_pos _ (by omega), drawn h'⟩

/-- The first breaker behind k failures, at the time 'at'. -/
def St (limit rest : Int) (k : Nat) (s : Brk) (at_ : Int) : Prop :=
  ((k : Int) < limit ∧ s = ⟨limit, rest, 1, k, 0, 0, k, 0⟩ ∧ at_ = 0) ∨
  (limit ≤ k ∧ 0 ≤ at_ ∧ at_ ≤ 1000 * k ∧ ∃ last ep : Int, s = ⟨limit, rest, 2, 0, at_, last, k, ep⟩ ∧ last ≤ at_ ∧ 0 ≤ last ∧ 0 ≤ ep ∧ ep ≤ 2 * k)

def Mid (limit rest : Int) (k : Nat) (s : Brk) (ep at_ : Int) : Prop :=
  ((k : Int) < limit ∧ s = ⟨limit, rest, 1, k, 0, 0, k + 1, 0⟩ ∧ ep = 0 ∧ at_ = 0) ∨
  (limit ≤ k ∧ s = ⟨limit, rest, 3, 0, 0, at_, k + 1, ep⟩ ∧ 1 ≤ ep ∧ ep ≤ 2 * k + 1)
def Aft (limit rest : Int) (k : Nat) (s : Brk) (at_ : Int) : Prop :=
  ((k : Int) + 1 < limit ∧ s = ⟨limit, rest, 1, k + 1, 0, 0, k + 1, 0⟩ ∧ at_ = 0) ∨
  (limit ≤ k + 1 ∧ ∃ ep : Int, s = ⟨limit, rest, 2, 0, at_ + rest, at_, k + 1, ep⟩ ∧ 0 ≤ ep ∧ ep ≤ 2 * k + 2)

/-- The bounds of a run. -/
structure Run (limit rest : Int) (k : Nat) (at_ : Int) : Prop where
  l1 : 1 ≤ limit
  l2 : limit ≤ 12
  r1 : 1 ≤ rest
  r2 : rest ≤ 1000
  k1 : k < 40
  a1 : 0 ≤ at_
  a2 : at_ ≤ 1000 * k

theorem wr64 {x : Int} (h : -1000000000 ≤ x ∧ x ≤ 1000000000) : wrap64 x = x := by unfold wrap64; omega
theorem wf64 {x : Int} (h : -1000000000 ≤ x ∧ x ≤ 1000000000) : (Lit.int .i64 x).wf = true := by have e := wrap64_wf x; rw [wr64 h] at e; exact e

section
variable {w wr : World} {b m n k : Nat} {s : Brk} {D : DataW Unit} {limit rest at_ ep : Int}
theorem ask_st (h : Full w wr b m n s D) (hD : Emp D) (hs : St limit rest k s at_) (R : Run limit rest k at_) (hn : n < 1000) :
    Calls Try.prog 34 #[.pointer (some ⟨b, 0, none⟩), .int .i64 at_] wr fun e w' => e = .returned (.tuple #[.int .i64 (k + 1), .bool true, .int .i64 0]) ∧
      (∃ s1 ep, Full w w' b m (n + 1) s1 (D.put (.int .i64 (k + 1)) (.lit (.int .i64 ep))) ∧ Mid limit rest k s1 ep at_) ∧ Chg (Own b m) wr w' := by
  obtain ⟨l1, l2, r1, r2, k1, a1, a2⟩ := R
  have hn' : n < maxLen := by unfold maxLen; omega
  have e1 : wrap64 ((k : Int) + 1) = k + 1 := wr64 (by omega)
  rcases hs with ⟨h1, rfl, rfl⟩ | ⟨h1, h2, h3, last, ep, rfl, h4, h5, h6, h7⟩
  · refine (ask_closed_f 0 h (by rfl) rfl (by rw [hD.1]; omega) hn' (wf64 (x := 0) (by omega))).mono ?_
    rintro e w' ⟨he, hf, hc⟩
    dsimp only at he hf
    rw [e1] at he hf
    refine ⟨he, ⟨_, 0, hf, Or.inl ⟨h1, ?_, rfl, rfl⟩⟩, hc⟩
    unfold asked; dsimp only; rw [e1]
  · have e2 : wrap64 (ep + 1) = ep + 1 := wr64 (by omega)
    refine (ask_open_f at_ h (by unfold late; dsimp only; rw [if_pos (by omega), if_neg (by omega)]) rfl (Int.le_refl _) (by rw [hD.1]; omega) hn').mono ?_
    rintro e w' ⟨he, hf, hc⟩
    dsimp only at he hf
    rw [e1] at he hf
    rw [e2] at hf
    refine ⟨he, ⟨_, ep + 1, hf, Or.inr ⟨h1, ?_, by omega, by omega⟩⟩, hc⟩
    unfold reopened turn; dsimp only; rw [e1, e2]

theorem tell_st (h : Full w wr b m n s (D.put (.int .i64 (k + 1)) (.lit (.int .i64 ep)))) (hD : Emp D) (hT : Maps.Tidy D) (hs : Mid limit rest k s ep at_) (R : Run limit rest k at_) :
    Calls Try.prog 36 #[.pointer (some ⟨b, 0, none⟩), .int .i64 (k + 1), .bool false, .int .i64 at_] wr fun e w' => e = .returned (.int .i64 0) ∧
      (∃ s1 D1, Full w w' b m n s1 D1 ∧ Emp D1 ∧ Aft limit rest k s1 at_) ∧ Chg (Own b m) wr w' := by
  obtain ⟨l1, l2, r1, r2, k1, a1, a2⟩ := R
  have hh := Maps.has_put_same hT.isMap (keyLit ((k : Int) + 1)) (.lit (.int .i64 ep))
  have hx := wf64 (x := (k : Int) + 1) (by omega)
  have ha := atI_put hT ((k : Int) + 1) ep
  rcases hs with ⟨h1, rfl, rfl, rfl⟩ | ⟨h1, rfl, h2, h3⟩
  · refine (tell_ok_f ((k : Int) + 1) false 0 h hx hh (by rfl) r1 (by dsimp only; omega) (by dsimp only; omega)).mono ?_
    rintro e w' ⟨he, hf, hc⟩
    rw [ha] at hf
    refine ⟨he, ⟨_, _, hf, hD.back hT _ _, ?_⟩, hc⟩
    by_cases hk : (k : Int) + 1 = limit
    · refine Or.inr ⟨by omega, 1, ?_, by omega, by omega⟩
      unfold told opened turn
      dsimp only
      rw [if_pos rfl, if_neg (by decide), if_neg (by decide), if_pos hk, if_pos (by omega), show wrap64 (0 + 1) = 1 from wr64 (by omega)]
    · refine Or.inl ⟨by omega, ?_, rfl⟩
      unfold told
      dsimp only
      rw [if_pos rfl, if_neg (by decide), if_neg (by decide), if_neg hk]
  · refine (tell_ok_f ((k : Int) + 1) false at_ h hx hh (by unfold late; dsimp only; rw [if_pos (by omega), if_neg (by omega)]) r1 (by dsimp only; omega) (by dsimp only; omega)).mono ?_
    rintro e w' ⟨he, hf, hc⟩
    rw [ha] at hf
    refine ⟨he, ⟨_, _, hf, hD.back hT _ _, Or.inr ⟨by omega, ep + 1, ?_, by omega, by omega⟩⟩, hc⟩
    unfold told opened turn
    dsimp only
    rw [if_pos rfl, if_pos rfl, if_neg (by decide), if_pos (by omega), show wrap64 (ep + 1) = ep + 1 from wr64 (by omega)]

/-- A little ahead of its time it lets none. -/
theorem ask_early (h : Full w wr b m n ⟨limit, rest, 2, 0, at_ + rest, at_, k + 1, ep⟩ D) (R : Run limit rest k at_) :
    Calls Try.prog 34 #[.pointer (some ⟨b, 0, none⟩), .int .i64 (at_ + rest - 1)] wr fun e w' => e = .returned (.tuple #[.int .i64 0, .bool false, .int .i64 0]) ∧
      Full w w' b m n ⟨limit, rest, 2, 0, at_ + rest, at_ + rest - 1, k + 1, ep⟩ D ∧ Chg (Own b m) wr w' := by
  obtain ⟨l1, l2, r1, r2, k1, a1, a2⟩ := R
  exact ask_not_f (at_ + rest - 1) h (by unfold late; dsimp only; rw [if_pos (by omega), if_neg (by omega)]) (by unfold lets; dsimp only; simp; omega)

/-- The second breaker behind k successes. -/
def Sc (limit rest : Int) (k : Nat) : Brk := ⟨limit, rest, 1, 0, 0, (if k = 0 then 0 else (k : Int) - 1), k, 0⟩

theorem ask_sc (h : Full w wr b m n (Sc limit rest k) D) (hD : Emp D) (hn : n < 1000) (hk : k < 40) :
    Calls Try.prog 34 #[.pointer (some ⟨b, 0, none⟩), .int .i64 k] wr fun e w' => e = .returned (.tuple #[.int .i64 (k + 1), .bool true, .int .i64 0]) ∧
      Full w w' b m (n + 1) ⟨limit, rest, 1, 0, 0, k, k + 1, 0⟩ (D.put (.int .i64 (k + 1)) (.lit (.int .i64 0))) ∧ Chg (Own b m) wr w' := by
  have hn' : n < maxLen := by unfold maxLen; omega
  have e1 : wrap64 ((k : Int) + 1) = k + 1 := wr64 (by omega)
  refine (ask_closed_f (k : Int) h (by unfold late Sc; dsimp only; rw [if_pos (by omega), if_neg (by split <;> omega)]) rfl (by rw [hD.1]; omega) hn' (wf64 (x := 0) (by omega))).mono ?_
  rintro e w' ⟨he, hf, hc⟩
  have e2 : asked (Sc limit rest k) k = ⟨limit, rest, 1, 0, 0, k, k + 1, 0⟩ := by unfold asked Sc; dsimp only; rw [e1]
  rw [e2] at hf
  have e3 : wrap64 ((Sc limit rest k).tries + 1) = (k : Int) + 1 := e1
  rw [e3] at he hf
  exact ⟨he, hf, hc⟩

theorem tell_sc (h : Full w wr b m n ⟨limit, rest, 1, 0, 0, k, k + 1, 0⟩ (D.put (.int .i64 (k + 1)) (.lit (.int .i64 0)))) (hD : Emp D) (hT : Maps.Tidy D) (hk : k < 40) (r1 : 1 ≤ rest) :
    Calls Try.prog 36 #[.pointer (some ⟨b, 0, none⟩), .int .i64 (k + 1), .bool true, .int .i64 k] wr fun e w' => e = .returned (.int .i64 0) ∧
      (∃ D1, Full w w' b m n (Sc limit rest (k + 1)) D1 ∧ Emp D1) ∧ Chg (Own b m) wr w' := by
  have hh := Maps.has_put_same hT.isMap (keyLit ((k : Int) + 1)) (.lit (.int .i64 0))
  refine (tell_ok_f ((k : Int) + 1) true k h (wf64 (by omega)) hh (by unfold late; dsimp only; rw [if_pos (by omega), if_neg (by omega)]) r1 (by dsimp only; omega) (by dsimp only; omega)).mono ?_
  rintro e w' ⟨he, hf, hc⟩
  rw [atI_put hT] at hf
  have e2 : told ⟨limit, rest, 1, 0, 0, k, k + 1, 0⟩ 0 true k = Sc limit rest (k + 1) := by
    unfold told Sc
    dsimp only
    rw [if_pos rfl, if_neg (by decide), if_pos rfl, if_neg (Nat.succ_ne_zero k)]
    congr 1
    omega
  rw [e2] at hf
  exact ⟨he, ⟨_, hf, hD.back hT _ _⟩, hc⟩
end
end Go.Proofs.Ytklccnnmdlckfaa.LwTrips
