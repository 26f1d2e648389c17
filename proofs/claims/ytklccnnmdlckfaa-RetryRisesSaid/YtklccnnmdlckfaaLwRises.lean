/- Of a right policy: its waits rise, none is above the cap; each time of its tries is due of the one ahead. Plain numbers and lists. -/
import Derived.Test.YtklccnnmdlckfaaLwWaits
namespace Go.Proofs.Ytklccnnmdlckfaa.LwRises
open Go.RowKit Go.Proofs.Ytklccnnmdlckfaa.LwWaits Go.Proofs.Ytklccnnmdlckfaa.PRetryWaits Go.Proofs.YtklccnnmdlckfaaW.PrintWords Go.Proofs.YtklccnnmdlckfaaW.PrintLast Go.Proofs.YtklccnnmdlckfaaW.PrintMore

theorem g_mono (c d : Int) (hc : 1 ≤ c) (j : Nat) : ∀ n, 0 ≤ n → g c d j n ≤ g c d (j + 1) n := by
  induction j with
  | zero =>
    intro n hn
    show mn n d ≤ if n ≥ d then mn n d else mn (n * c) d
    split
    · exact Int.le_refl _
    · have e1 : n * 1 ≤ n * c := Int.mul_le_mul_of_nonneg_left hc hn
      unfold mn
      (repeat' split) <;> omega
  | succ j ih =>
    intro n hn
    show (if n ≥ d then mn n d else g c d j (n * c)) ≤ if n ≥ d then mn n d else g c d (j + 1) (n * c)
    split
    · exact Int.le_refl _
    · exact ih _ (Int.mul_nonneg hn (by omega))

theorem wt_bound {a b c d : Int} (h : Right a b c d) (k : Int) : 0 ≤ wt b c d k ∧ wt b c d k ≤ d := g_bound c d h.c1 _ b h.b1 (by have := h.b1; have := h.d1; omega)
theorem wt_one {a b c d : Int} (h : Right a b c d) : wt b c d 1 = b := by
  show mn b d = b
  unfold mn
  have := h.d1
  split <;> omega
theorem wt_mono {a b c d : Int} (h : Right a b c d) (k : Int) (hk : 1 ≤ k) : wt b c d k ≤ wt b c d (k + 1) := by
  unfold wt
  rw [show (k + 1 - 1).toNat = (k - 1).toNat + 1 by omega]
  exact g_mono c d h.c1 _ b h.b1

/-- The times behind x, the i-th wait the next. -/
def tl (a b c d : Int) : Nat → Int → Int → List Int
  | 0, _, _ => []
  | j + 1, x, i => if i < a then (if x + wt b c d i > 1099511627776 then [] else (x + wt b c d i) :: tl a b c d j (x + wt b c d i) (i + 1)) else []

theorem times_l0 {a b c d : Int} (h : Right a b c d) (j : Nat) : ∀ (K : Nat) (x : Int) (l : List Int) (i : Int), 0 ≤ x → x ≤ 1099511627776 → 1 ≤ i → l.length ≤ i → a - i ≤ j → j + 101 < K →
    retry_Times.l0 K x l i a b c d = some (l ++ tl a b c d j x i, 0) := by
  induction j with
  | zero =>
    intro K x l i h0 h1 h2 h3 h4 hK
    obtain ⟨K, rfl⟩ : ∃ m, K = m + 1 := ⟨K - 1, by omega⟩
    simp only [retry_Times.l0]; rw [if_neg (by omega)]; simp [tl]
  | succ j ih =>
    intro K x l i h0 h1 h2 h3 h4 hK
    obtain ⟨K, rfl⟩ : ∃ m, K = m + 1 := ⟨K - 1, by omega⟩
    by_cases hi : i < a
    · have ha := h.a2
      have hd := h.d2
      obtain ⟨w1, w2⟩ := wt_bound h i
      simp only [retry_Times.l0, tl]
      rw [if_pos hi, if_pos hi, pause_some h i K (by omega) (by omega) (by omega)]
      simp only [Option.bind_some]
      rw [show wrap64 (1099511627776 - x) = 1099511627776 - x by unfold wrap64; omega, show wrap64 (x + wt b c d i) = x + wt b c d i by unfold wrap64; omega, show wrap64 (i + 1) = i + 1 by unfold wrap64; omega]
      by_cases ho : x + wt b c d i > 1099511627776
      · rw [if_pos ho, if_pos (by omega), List.append_nil]
      · rw [if_neg ho, if_neg (by omega), if_pos (by omega), ih K (x + wt b c d i) (l ++ [x + wt b c d i]) (i + 1) (by omega) (by omega) (by omega) (by simp; omega) (by omega) (by omega)]
        simp
    · simp only [retry_Times.l0, tl]; rw [if_neg hi, if_neg hi, List.append_nil]

/-- What is told of a list of times x :: l, whose first wait is the i-th. -/
structure Good (b c d a : Int) (T : List Int) (i : Int) : Prop where
  step : ∀ k : Nat, ∀ x y, T[k]? = some x → T[k + 1]? = some y → y = x + wt b c d (i + k)
  range : ∀ x ∈ T, 0 ≤ x ∧ x ≤ 1099511627776
  stop : ∀ x, T[T.length - 1]? = some x → i + T.length - 1 < a → x + wt b c d (i + T.length - 1) > 1099511627776
  len : (T.length : Int) ≤ a - i + 1

theorem good_tl {a b c d : Int} (h : Right a b c d) (j : Nat) : ∀ x i, 0 ≤ x → x ≤ 1099511627776 → 1 ≤ i → i ≤ a → a - i ≤ j → Good b c d a (x :: tl a b c d j x i) i := by
  induction j with
  | zero =>
    intro x i h0 h1 h2 h3 h4
    refine ⟨fun k y z hk hz => ?_, fun y hy => ?_, fun y hy hl => ?_, ?_⟩
    · simp [tl] at hz
    · simp [tl] at hy; subst hy; exact ⟨h0, h1⟩
    · simp [tl] at hl; omega
    · simp [tl]; omega
  | succ j ih =>
    intro x i h0 h1 h2 h3 h4
    obtain ⟨w1, w2⟩ := wt_bound h i
    by_cases hi : i < a
    · by_cases ho : x + wt b c d i > 1099511627776
      · have e : tl a b c d (j + 1) x i = [] := by simp only [tl]; rw [if_pos hi, if_pos ho]
        rw [e]
        refine ⟨fun k y z hk hz => ?_, fun y hy => ?_, fun y hy hl => ?_, ?_⟩
        · simp at hz
        · simp at hy; subst hy; exact ⟨h0, h1⟩
        · simp at hy; subst hy
          simpa using ho
        · simp; omega
      · have e : tl a b c d (j + 1) x i = (x + wt b c d i) :: tl a b c d j (x + wt b c d i) (i + 1) := by simp only [tl]; rw [if_pos hi, if_neg ho]
        rw [e]
        obtain ⟨g1, g2, g3, g4⟩ := ih (x + wt b c d i) (i + 1) (by omega) (by omega) (by omega) (by omega) (by omega)
        generalize tl a b c d j (x + wt b c d i) (i + 1) = T at *
        refine ⟨fun k y z hk hz => ?_, fun y hy => ?_, fun y hy hl => ?_, ?_⟩
        · cases k with
          | zero =>
            simp at hk hz
            subst hk hz
            simp
          | succ k =>
            rw [List.getElem?_cons_succ] at hk hz
            have := g1 k y z hk hz
            rw [this]
            congr 2
            push_cast
            omega
        · rcases List.mem_cons.1 hy with rfl | hy
          · exact ⟨h0, h1⟩
          · exact g2 y hy
        · have e1 : (x :: (x + wt b c d i) :: T).length - 1 = ((x + wt b c d i) :: T).length - 1 + 1 := by simp
          rw [e1, List.getElem?_cons_succ] at hy
          have e2 : i + ((x :: (x + wt b c d i) :: T).length : Nat) - 1 = i + 1 + (((x + wt b c d i) :: T).length : Nat) - 1 := by simp; omega
          rw [e2] at hl ⊢
          exact g3 y hy hl
        · have e2 : ((x :: (x + wt b c d i) :: T).length : Int) = ((x + wt b c d i) :: T).length + 1 := by simp
          rw [e2]; omega
    · have e : tl a b c d (j + 1) x i = [] := by simp only [tl]; rw [if_neg hi]
      rw [e]
      refine ⟨fun k y z hk hz => ?_, fun y hy => ?_, fun y hy hl => ?_, ?_⟩
      · simp at hz
      · simp at hy; subst hy; exact ⟨h0, h1⟩
      · simp at hl; omega
      · simp; omega

/-- What Times tells. -/
theorem times_some (a b c d t : Int) (K : Nat) (hK : 500 < K) :
    (∃ e, e ≠ 0 ∧ retry_Times.f K a b c d t = some ([], e)) ∨
    (0 ≤ t ∧ t ≤ 1099511627776 ∧ chk a b c d = 0 ∧ ∃ T, retry_Times.f K a b c d t = some (t :: T, 0) ∧ ((a = 0 ∧ T = []) ∨ (Right a b c d ∧ Good b c d a (t :: T) 1))) := by
  obtain ⟨K, rfl⟩ : ∃ m, K = m + 1 := ⟨K - 1, by omega⟩
  unfold retry_Times.f
  rw [check_some]
  simp only [Option.bind_some, in_some]
  by_cases h : chk a b c d = 0
  · rw [if_pos h]
    by_cases h1 : 0 ≤ t ∧ t ≤ 1099511627776
    · right
      have e : (decide (0 ≤ t) && decide (t ≤ 1099511627776)) = true := by simpa using h1
      rw [e, if_pos rfl]
      refine ⟨h1.1, h1.2, h, ?_⟩
      rcases chk_zero h with ⟨rfl, rfl, rfl, rfl⟩ | hr
      · exact ⟨[], by simp only [retry_Times.l0]; rw [if_neg (by omega)], Or.inl ⟨rfl, rfl⟩⟩
      · have ha := hr.a2
        have ha1 := hr.a1
        refine ⟨_, times_l0 hr 64 (K + 1) t [t] 1 h1.1 h1.2 (by omega) (by simp) (by omega) (by omega), Or.inr ⟨hr, good_tl hr 64 t 1 h1.1 h1.2 (by omega) ha1 (by omega)⟩⟩
    · left
      have e : (decide (0 ≤ t) && decide (t ≤ 1099511627776)) = false := by simp; omega
      rw [e, if_neg (by simp)]
      exact ⟨1, by omega, rfl⟩
  · left
    rw [if_neg h]
    exact ⟨_, h, rfl⟩
end Go.Proofs.Ytklccnnmdlckfaa.LwRises
