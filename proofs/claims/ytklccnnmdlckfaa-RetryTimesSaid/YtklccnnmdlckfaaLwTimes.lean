/- The times and the total of the program and of the document's answer are the same lists and numbers: for every policy and time. -/
import Derived.Test.YtklccnnmdlckfaaPRetryTimesx4
import Derived.Test.YtklccnnmdlckfaaPRetryTimesx3
namespace Go.Proofs.Ytklccnnmdlckfaa.LwTimes
open Go.RowKit Go.Proofs.Ytklccnnmdlckfaa.PRetryTimes Go.Proofs.YtklccnnmdlckfaaW.PrintWords Go.Proofs.YtklccnnmdlckfaaW.PrintLast Go.Proofs.YtklccnnmdlckfaaW.PrintMore

/-- What is right of a policy. -/
structure Right (a b c d : Int) : Prop where
  a1 : 1 ≤ a
  a2 : a ≤ 64
  b1 : 0 ≤ b
  b2 : b ≤ 1073741824
  c1 : 1 ≤ c
  c2 : c ≤ 16
  d1 : b ≤ d
  d2 : d ≤ 1099511627776

def isRight (a b c d : Int) : Bool := decide (1 ≤ a) && decide (a ≤ 64) && decide (0 ≤ b) && decide (b ≤ 1073741824) && decide (1 ≤ c) && decide (c ≤ 16) && decide (b ≤ d) && decide (d ≤ 1099511627776)
theorem isRight_iff (a b c d : Int) : isRight a b c d = true ↔ Right a b c d := by
  unfold isRight
  simp only [Bool.and_eq_true, decide_eq_true_eq]
  constructor
  · rintro ⟨⟨⟨⟨⟨⟨⟨h1, h2⟩, h3⟩, h4⟩, h5⟩, h6⟩, h7⟩, h8⟩; exact ⟨h1, h2, h3, h4, h5, h6, h7, h8⟩
  · rintro ⟨h1, h2, h3, h4, h5, h6, h7, h8⟩; exact ⟨⟨⟨⟨⟨⟨⟨h1, h2⟩, h3⟩, h4⟩, h5⟩, h6⟩, h7⟩, h8⟩

def isZero (a b c d : Int) : Bool := a == 0 && (b == 0 && (c == 0 && d == 0))
def chk (a b c d : Int) : Int := if isZero a b c d then 0 else if isRight a b c d then 0 else 50

theorem in_some (a lo hi : Int) : retry_in.f a lo hi = some (decide (lo ≤ a) && decide (a ≤ hi)) := by
  unfold retry_in.f
  by_cases h : a ≥ lo
  · rw [if_pos h]; simp [show lo ≤ a from h]
  · rw [if_neg h]; simp [show ¬ lo ≤ a from h]

theorem check_some (a b c d : Int) : retry_Check.f a b c d = some (chk a b c d) := by
  unfold retry_Check.f chk isZero isRight
  simp only [in_some, Option.bind_some]
  cases h1 : (a == 0) <;> cases h2 : (b == 0) <;> cases h3 : (c == 0) <;> cases h4 : (d == 0) <;> simp <;>
    (repeat' split) <;> simp_all <;> omega

theorem rcheck_some (k : Nat) (a b c d : Int) (hk : 0 < k) : oncewebref12_Check.f k a b c d = some (chk a b c d) := by
  obtain ⟨k, rfl⟩ : ∃ m, k = m + 1 := ⟨k - 1, by omega⟩
  unfold oncewebref12_Check.f chk isZero isRight
  simp only [oncewebref12_Check.j0]
  by_cases h1 : a = 0 <;> by_cases h2 : b = 0 <;> by_cases h3 : c = 0 <;> by_cases h4 : d = 0 <;> simp [h1, h2, h3, h4] <;>
    (repeat' split) <;> simp_all <;> omega

/-- The wait behind the k-th failure: j = k - 1 steps from n. -/
def g (c d : Int) : Nat → Int → Int
  | 0, n => mn n d
  | j + 1, n => if n ≥ d then mn n d else g c d j (n * c)

theorem g_cap (c d n : Int) (j : Nat) (h : n ≥ d) : g c d j n = d := by
  cases j <;> simp [g, mn, h] <;> omega
theorem g_bound (c d : Int) (hc : 1 ≤ c) (j : Nat) : ∀ n, 0 ≤ n → 0 ≤ d → 0 ≤ g c d j n ∧ g c d j n ≤ d := by
  induction j with
  | zero => intro n hn hd; simp only [g, mn]; split <;> omega
  | succ j ih =>
    intro n hn hd
    simp only [g]
    split
    · simp only [mn]; split <;> omega
    · exact ih _ (Int.mul_nonneg hn (by omega)) hd

theorem mul_bound {n c d : Int} (h0 : 0 ≤ n) (h1 : n ≤ 1099511627776) (hc : 1 ≤ c) (hc2 : c ≤ 16) : n ≤ n * c ∧ n * c ≤ 17592186044416 := by
  have e1 : n * 1 ≤ n * c := Int.mul_le_mul_of_nonneg_left hc h0
  have e2 : n * c ≤ n * 16 := Int.mul_le_mul_of_nonneg_left hc2 h0
  omega

theorem pause_l0 (a b c d : Int) (hc : 1 ≤ c) (hc2 : c ≤ 16) (hd : d ≤ 1099511627776) (j : Nat) : ∀ (K : Nat) (n x9 x10 : Int), 0 ≤ n → x10 ≤ x9 → x9 ≤ 100 → 0 ≤ x10 → x9 - x10 = j → j < K →
    retry_pause.l0 K n x9 x10 a b c d = some (g c d j n) := by
  induction j with
  | zero =>
    intro K n x9 x10 hn h1 _ _ hj hK
    obtain ⟨K, rfl⟩ : ∃ m, K = m + 1 := ⟨K - 1, by omega⟩
    simp only [retry_pause.l0]
    rw [if_neg (by omega)]
    rfl
  | succ j ih =>
    intro K n x9 x10 hn h1 h2 h3 hj hK
    obtain ⟨K, rfl⟩ : ∃ m, K = m + 1 := ⟨K - 1, by omega⟩
    simp only [retry_pause.l0, g]
    rw [if_pos (by omega)]
    by_cases h : n ≥ d
    · rw [if_pos h, if_pos h]
    · rw [if_neg h, if_neg h]
      obtain ⟨m1, m2⟩ := mul_bound (n := n) (c := c) (d := d) hn (by omega) hc hc2
      have e1 : wrap64 (n * c) = n * c := by unfold wrap64; omega
      have e2 : wrap64 (x10 + 1) = x10 + 1 := by unfold wrap64; omega
      rw [e1, e2]
      exact ih K _ _ _ (by omega) (by omega) h2 (by omega) (by omega) (by omega)

/-- The wait of a policy behind the k-th failure. -/
def wt (b c d k : Int) : Int := g c d (k - 1).toNat b

theorem pause_some {a b c d : Int} (h : Right a b c d) (k : Int) (K : Nat) (h1 : 1 ≤ k) (h2 : k ≤ 100) (hK : 100 < K) : retry_pause.f K a b c d k = some (wt b c d k) := by
  unfold retry_pause.f wt
  rw [show wrap64 (k - 1) = k - 1 by unfold wrap64; omega]
  exact pause_l0 a b c d h.c1 h.c2 h.d2 _ K b _ _ h.b1 (by omega) (by omega) (by omega) (by omega) (by omega)

theorem rwait_l0 (a b c d : Int) (hc : 1 ≤ c) (hc2 : c ≤ 16) (hd : d ≤ 1099511627776) (j : Nat) : ∀ (K : Nat) (n x1 x6 : Int), 0 ≤ n → n ≤ d → x6 ≤ x1 → x1 ≤ 100 → 0 ≤ x6 → x1 - x6 = j → j < K →
    oncewebref12_wait.l0 K x1 n x6 a b c d = some (g c d j n) := by
  induction j with
  | zero =>
    intro K n x9 x10 hn hnd h1 _ _ hj hK
    obtain ⟨K, rfl⟩ : ∃ m, K = m + 1 := ⟨K - 1, by omega⟩
    simp only [oncewebref12_wait.l0]
    rw [if_neg (by omega)]
    rfl
  | succ j ih =>
    intro K n x9 x10 hn hnd h1 h2 h3 hj hK
    obtain ⟨K, rfl⟩ : ∃ m, K = m + 1 := ⟨K - 1, by omega⟩
    simp only [oncewebref12_wait.l0, g]
    rw [if_pos (by omega)]
    obtain ⟨m1, m2⟩ := mul_bound (n := n) (c := c) (d := d) hn (by omega) hc hc2
    have e1 : wrap64 (n * c) = n * c := by unfold wrap64; omega
    have e2 : wrap64 (x10 + 1) = x10 + 1 := by unfold wrap64; omega
    rw [e1, e2]
    by_cases h : n * c > d
    · rw [if_pos h]
      by_cases h' : n ≥ d
      · rw [if_pos h']; simp only [mn]; split <;> simp <;> omega
      · rw [if_neg h', g_cap c d _ j (by omega)]
    · rw [if_neg h, ih K _ _ _ (by omega) (by omega) (by omega) h2 (by omega) (by omega) (by omega)]
      by_cases h' : n ≥ d
      · rw [if_pos h', g_cap c d _ j (by omega)]; simp only [mn]; split <;> simp <;> omega
      · rw [if_neg h']

theorem rwait_some {a b c d : Int} (h : Right a b c d) (k : Int) (K : Nat) (h1 : 1 ≤ k) (h2 : k ≤ 100) (hK : 100 < K) : oncewebref12_wait.f K a b c d k = some (wt b c d k) := by
  unfold oncewebref12_wait.f wt
  exact rwait_l0 a b c d h.c1 h.c2 h.d2 _ K b _ _ h.b1 h.d1 (by omega) (by omega) (by omega) (by omega) (by omega)

theorem wt_bound {a b c d : Int} (h : Right a b c d) (k : Int) : 0 ≤ wt b c d k ∧ wt b c d k ≤ d := g_bound c d h.c1 _ b h.b1 (by have := h.b1; have := h.d1; omega)

theorem times_l0 {a b c d : Int} (h : Right a b c d) (j : Nat) : ∀ (K : Nat) (x : Int) (l : List Int) (i : Int), 0 ≤ x → x ≤ 1099511627776 → 1 ≤ i → l.length ≤ i → a - i ≤ j → j + 101 < K →
    ∃ r : List Int, r.length ≤ l.length + j ∧ retry_Times.l0 K x l i a b c d = some (r, 0) ∧ oncewebref12_Times.l0 K x l i a b c d = some (r, 0) := by
  induction j with
  | zero =>
    intro K x l i h0 h1 h2 h3 h4 hK
    obtain ⟨K, rfl⟩ : ∃ m, K = m + 1 := ⟨K - 1, by omega⟩
    refine ⟨l, by omega, ?_, ?_⟩
    · simp only [retry_Times.l0]; rw [if_neg (by omega)]
    · simp only [oncewebref12_Times.l0]; rw [if_neg (by omega)]
  | succ j ih =>
    intro K x l i h0 h1 h2 h3 h4 hK
    obtain ⟨K, rfl⟩ : ∃ m, K = m + 1 := ⟨K - 1, by omega⟩
    by_cases hi : i < a
    · have ha := h.a2
      have hd := h.d2
      obtain ⟨w1, w2⟩ := wt_bound h i
      simp only [retry_Times.l0, oncewebref12_Times.l0]
      rw [if_pos hi, if_pos hi, pause_some h i K (by omega) (by omega) (by omega), rwait_some h i K (by omega) (by omega) (by omega)]
      simp only [Option.bind_some]
      rw [show wrap64 (1099511627776 - x) = 1099511627776 - x by unfold wrap64; omega, show wrap64 (x + wt b c d i) = x + wt b c d i by unfold wrap64; omega, show wrap64 (i + 1) = i + 1 by unfold wrap64; omega]
      by_cases ho : x + wt b c d i > 1099511627776
      · rw [if_pos ho, if_pos (by omega)]
        exact ⟨l, by omega, rfl, rfl⟩
      · rw [if_neg ho, if_neg (by omega), if_pos (by omega), if_pos (by omega)]
        obtain ⟨r, e0, e1, e2⟩ := ih K (x + wt b c d i) (l ++ [x + wt b c d i]) (i + 1) (by omega) (by omega) (by omega) (by simp; omega) (by omega) (by omega)
        exact ⟨r, by simp at e0; omega, e1, e2⟩
    · refine ⟨l, by omega, ?_, ?_⟩
      · simp only [retry_Times.l0]; rw [if_neg hi]
      · simp only [oncewebref12_Times.l0]; rw [if_neg hi]

theorem total_l0 {a b c d : Int} (h : Right a b c d) (j : Nat) : ∀ (K : Nat) (x : Int) (i : Int), 1 ≤ i → a - i ≤ j → j + 101 < K →
    ∃ r : Int, retry_Total.l0 K x i a b c d = some (r, 0) ∧ oncewebref12_Total.l0 K x i a b c d = some (r, 0) := by
  induction j with
  | zero =>
    intro K x i h2 h4 hK
    obtain ⟨K, rfl⟩ : ∃ m, K = m + 1 := ⟨K - 1, by omega⟩
    refine ⟨x, ?_, ?_⟩
    · simp only [retry_Total.l0]; rw [if_neg (by omega)]
    · simp only [oncewebref12_Total.l0]; rw [if_neg (by omega)]
  | succ j ih =>
    intro K x i h2 h4 hK
    obtain ⟨K, rfl⟩ : ∃ m, K = m + 1 := ⟨K - 1, by omega⟩
    by_cases hi : i < a
    · have ha := h.a2
      simp only [retry_Total.l0, oncewebref12_Total.l0]
      rw [if_pos hi, if_pos hi, pause_some h i K (by omega) (by omega) (by omega), rwait_some h i K (by omega) (by omega) (by omega)]
      simp only [Option.bind_some]
      rw [show wrap64 (i + 1) = i + 1 by unfold wrap64; omega]
      exact ih K _ _ (by omega) (by omega) (by omega)
    · refine ⟨x, ?_, ?_⟩
      · simp only [retry_Total.l0]; rw [if_neg hi]
      · simp only [oncewebref12_Total.l0]; rw [if_neg hi]

theorem chk_zero {a b c d : Int} (h : chk a b c d = 0) : (a = 0 ∧ b = 0 ∧ c = 0 ∧ d = 0) ∨ Right a b c d := by
  unfold chk at h
  by_cases h0 : isZero a b c d = true
  · left; simpa [isZero] using h0
  · rw [if_neg h0] at h
    by_cases h1 : isRight a b c d = true
    · exact Or.inr ((isRight_iff _ _ _ _).1 h1)
    · rw [if_neg h1] at h; omega

theorem both_times (a b c d t : Int) (K : Nat) (hK : 500 < K) : ∃ (r : List Int) (e : Int), r.length ≤ 1000 ∧ retry_Times.f K a b c d t = some (r, e) ∧ oncewebref12_Times.f K a b c d t = some (r, e) := by
  obtain ⟨K, rfl⟩ : ∃ m, K = m + 1 + 1 := ⟨K - 2, by omega⟩
  unfold retry_Times.f oncewebref12_Times.f
  rw [check_some, rcheck_some _ _ _ _ _ (by omega)]
  simp only [Option.bind_some, in_some]
  by_cases h : chk a b c d = 0
  · rw [if_pos h, if_pos h]
    by_cases h1 : t < 0
    · rw [if_pos h1]
      exact ⟨[], 1, by simp, by simp [show ¬ (0 ≤ t) by omega], by simp only [oncewebref12_Times.j0, if_true]⟩
    · rw [if_neg h1]
      by_cases h2 : t > 1099511627776
      · exact ⟨[], 1, by simp, by simp [show ¬ (t ≤ 1099511627776) by omega], by simp only [oncewebref12_Times.j0, decide_eq_true h2, if_true]⟩
      · have e : (decide (0 ≤ t) && decide (t ≤ 1099511627776)) = true := by simp; omega
        have e2 : decide (t > 1099511627776) = false := by simp; omega
        rw [e, e2]
        simp only [if_true]
        rcases chk_zero h with ⟨rfl, rfl, rfl, rfl⟩ | hr
        · exact ⟨[t], 0, by simp, by simp only [retry_Times.l0]; rw [if_neg (by omega)], by
            simp only [oncewebref12_Times.j0, oncewebref12_Times.l0]; rw [if_neg (by simp), if_neg (by omega)]⟩
        · obtain ⟨r, e0, e1, _⟩ := times_l0 hr 64 (K + 1 + 1) t [t] 1 (by omega) (by omega) (by omega) (by simp) (by have := hr.a2; omega) (by omega)
          obtain ⟨r', _, e1', e2'⟩ := times_l0 hr 64 (K + 1) t [t] 1 (by omega) (by omega) (by omega) (by simp) (by have := hr.a2; omega) (by omega)
          have hm := retry_Times.mono_l (K + 1) _ _ _ _ _ _ _ _ e1'
          rw [e1] at hm
          have hrr : r = r' := by injection hm with hm; injection hm
          subst hrr
          exact ⟨r, 0, by simp at e0; omega, e1, by simp only [oncewebref12_Times.j0]; rw [if_neg (by simp)]; exact e2'⟩
  · rw [if_neg h, if_neg h]
    exact ⟨[], _, by simp, rfl, rfl⟩

theorem both_totals (a b c d : Int) (K : Nat) (hK : 500 < K) : ∃ (r e : Int), retry_Total.f K a b c d = some (r, e) ∧ oncewebref12_Total.f K a b c d = some (r, e) := by
  obtain ⟨K, rfl⟩ : ∃ m, K = m + 1 := ⟨K - 1, by omega⟩
  unfold retry_Total.f oncewebref12_Total.f
  rw [check_some, rcheck_some _ _ _ _ _ (by omega)]
  simp only [Option.bind_some]
  by_cases h : chk a b c d = 0
  · rw [if_pos h, if_pos h]
    rcases chk_zero h with ⟨rfl, rfl, rfl, rfl⟩ | hr
    · exact ⟨0, 0, by simp only [retry_Total.l0]; rw [if_neg (by omega)], by simp only [oncewebref12_Total.l0]; rw [if_neg (by omega)]⟩
    · obtain ⟨r, e1, e2⟩ := total_l0 hr 64 (K + 1) 0 1 (by omega) (by have := hr.a2; omega) (by omega)
      exact ⟨r, 0, e1, e2⟩
  · rw [if_neg h, if_neg h]
    exact ⟨0, _, rfl, rfl⟩

theorem ints_same (l : List Int) (hl : l.length ≤ 1000) (j : Nat) : ∀ (K : Nat) (i : Int), 0 ≤ i → i ≤ l.length → l.length - i = (j : Int) → j < K → onceweblaw12_ints.l0 K l l (l.length : Int) i = some true := by
  induction j with
  | zero =>
    intro K i h0 h1 h2 hK
    obtain ⟨K, rfl⟩ : ∃ m, K = m + 1 := ⟨K - 1, by omega⟩
    simp only [onceweblaw12_ints.l0]
    rw [if_neg (by omega)]
  | succ j ih =>
    intro K i h0 h1 h2 hK
    obtain ⟨K, rfl⟩ : ∃ m, K = m + 1 := ⟨K - 1, by omega⟩
    simp only [onceweblaw12_ints.l0]
    rw [if_pos (by omega), if_pos h0, if_pos (by omega), if_pos (by omega), show wrap64 (i + 1) = i + 1 by unfold wrap64; omega]
    simp only [if_true]
    exact ih K _ (by omega) (by omega) (by omega) (by omega)

theorem ints_self (l : List Int) (hl : l.length ≤ 1000) : onceweblaw12_ints.f 1001 l l = some true := by
  unfold onceweblaw12_ints.f
  rw [if_pos rfl]
  exact ints_same l hl l.length 1001 0 (by omega) (by omega) (by omega) (by omega)
end Go.Proofs.Ytklccnnmdlckfaa.LwTimes
