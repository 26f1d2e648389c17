/- Of any policy the program and the document's answer tell the same wait, the same time when one tries again, and the same leave: for all numbers. -/
import Derived.Test.YtklccnnmdlckfaaPRetryWaitsx4
import Derived.Test.YtklccnnmdlckfaaPRetryWaitsx3
namespace Go.Proofs.Ytklccnnmdlckfaa.LwWaits
open Go.RowKit Go.Proofs.Ytklccnnmdlckfaa.PRetryWaits Go.Proofs.YtklccnnmdlckfaaW.PrintWords Go.Proofs.YtklccnnmdlckfaaW.PrintLast Go.Proofs.YtklccnnmdlckfaaW.PrintMore

/-- What is right of a policy. -/
structure Right (a b c d : Int) : Prop where
  a1 : 1 ≤ a
  a2 : a ≤ 64
  b1 : 0 ≤ b
  b2 : b ≤ 1073741824
  c1 : 1 ≤ c
  c2 : c ≤ 16
  d1 : b ≤ d
  d2 : d ≤ 1099511627776

def isRight (a b c d : Int) : Bool := decide (1 ≤ a) && decide (a ≤ 64) && decide (0 ≤ b) && decide (b ≤ 1073741824) && decide (1 ≤ c) && decide (c ≤ 16) && decide (b ≤ d) && decide (d ≤ 1099511627776)
theorem isRight_iff (a b c d : Int) : isRight a b c d = true ↔ Right a b c d := by
  unfold isRight
  simp only [Bool.and_eq_true, decide_eq_true_eq]
  constructor
  · rintro ⟨⟨⟨⟨⟨⟨⟨h1, h2⟩, h3⟩, h4⟩, h5⟩, h6⟩, h7⟩, h8⟩; exact ⟨h1, h2, h3, h4, h5, h6, h7, h8⟩
  · rintro ⟨h1, h2, h3, h4, h5, h6, h7, h8⟩; exact ⟨⟨⟨⟨⟨⟨⟨h1, h2⟩, h3⟩, h4⟩, h5⟩, h6⟩, h7⟩, h8⟩

def isZero (a b c d : Int) : Bool := a == 0 && (b == 0 && (c == 0 && d == 0))
def chk (a b c d : Int) : Int := if isZero a b c d then 0 else if isRight a b c d then 0 else 50

theorem in_some (a lo hi : Int) : retry_in.f a lo hi = some (decide (lo ≤ a) && decide (a ≤ hi)) := by
  unfold retry_in.f
  by_cases h : a ≥ lo
  · rw [if_pos h]; simp [show lo ≤ a from h]
  · rw [if_neg h]; simp [show ¬ lo ≤ a from h]

theorem check_some (a b c d : Int) : retry_Check.f a b c d = some (chk a b c d) := by
  unfold retry_Check.f chk isZero isRight
  simp only [in_some, Option.bind_some]
  cases h1 : (a == 0) <;> cases h2 : (b == 0) <;> cases h3 : (c == 0) <;> cases h4 : (d == 0) <;> simp <;>
    (repeat' split) <;> simp_all <;> omega

theorem rcheck_some (k : Nat) (a b c d : Int) (hk : 0 < k) : oncewebref12_Check.f k a b c d = some (chk a b c d) := by
  obtain ⟨k, rfl⟩ : ∃ m, k = m + 1 := ⟨k - 1, by omega⟩
  unfold oncewebref12_Check.f chk isZero isRight
  simp only [oncewebref12_Check.j0]
  by_cases h1 : a = 0 <;> by_cases h2 : b = 0 <;> by_cases h3 : c = 0 <;> by_cases h4 : d = 0 <;> simp [h1, h2, h3, h4] <;>
    (repeat' split) <;> simp_all <;> omega

/-- The wait behind the k-th failure: j = k - 1 steps from n. -/
def g (c d : Int) : Nat → Int → Int
  | 0, n => mn n d
  | j + 1, n => if n ≥ d then mn n d else g c d j (n * c)

theorem g_cap (c d n : Int) (j : Nat) (h : n ≥ d) : g c d j n = d := by
  cases j <;> simp [g, mn, h] <;> omega
theorem g_bound (c d : Int) (hc : 1 ≤ c) (j : Nat) : ∀ n, 0 ≤ n → 0 ≤ d → 0 ≤ g c d j n ∧ g c d j n ≤ d := by
  induction j with
  | zero => intro n hn hd; simp only [g, mn]; split <;> omega
  | succ j ih =>
    intro n hn hd
    simp only [g]
    split
    · simp only [mn]; split <;> omega
    · exact ih _ (Int.mul_nonneg hn (by omega)) hd

theorem mul_bound {n c d : Int} (h0 : 0 ≤ n) (h1 : n ≤ 1099511627776) (hc : 1 ≤ c) (hc2 : c ≤ 16) : n ≤ n * c ∧ n * c ≤ 17592186044416 := by
  have e1 : n * 1 ≤ n * c := Int.mul_le_mul_of_nonneg_left hc h0
  have e2 : n * c ≤ n * 16 := Int.mul_le_mul_of_nonneg_left hc2 h0
  omega

theorem pause_l0 (a b c d : Int) (hc : 1 ≤ c) (hc2 : c ≤ 16) (hd : d ≤ 1099511627776) (j : Nat) : ∀ (K : Nat) (n x9 x10 : Int), 0 ≤ n → x10 ≤ x9 → x9 ≤ 100 → 0 ≤ x10 → x9 - x10 = j → j < K →
    retry_pause.l0 K n x9 x10 a b c d = some (g c d j n) := by
  induction j with
  | zero =>
    intro K n x9 x10 hn h1 _ _ hj hK
    obtain ⟨K, rfl⟩ : ∃ m, K = m + 1 := ⟨K - 1, by omega⟩
    simp only [retry_pause.l0]
    rw [if_neg (by omega)]
    rfl
  | succ j ih =>
    intro K n x9 x10 hn h1 h2 h3 hj hK
    obtain ⟨K, rfl⟩ : ∃ m, K = m + 1 := ⟨K - 1, by omega⟩
    simp only [retry_pause.l0, g]
    rw [if_pos (by omega)]
    by_cases h : n ≥ d
    · rw [if_pos h, if_pos h]
    · rw [if_neg h, if_neg h]
      obtain ⟨m1, m2⟩ := mul_bound (n := n) (c := c) (d := d) hn (by omega) hc hc2
      have e1 : wrap64 (n * c) = n * c := by unfold wrap64; omega
      have e2 : wrap64 (x10 + 1) = x10 + 1 := by unfold wrap64; omega
      rw [e1, e2]
      exact ih K _ _ _ (by omega) (by omega) h2 (by omega) (by omega) (by omega)

/-- The wait of a policy behind the k-th failure. -/
def wt (b c d k : Int) : Int := g c d (k - 1).toNat b

theorem pause_some {a b c d : Int} (h : Right a b c d) (k : Int) (K : Nat) (h1 : 1 ≤ k) (h2 : k ≤ 100) (hK : 100 < K) : retry_pause.f K a b c d k = some (wt b c d k) := by
  unfold retry_pause.f wt
  rw [show wrap64 (k - 1) = k - 1 by unfold wrap64; omega]
  exact pause_l0 a b c d h.c1 h.c2 h.d2 _ K b _ _ h.b1 (by omega) (by omega) (by omega) (by omega) (by omega)

theorem rwait_l0 (a b c d : Int) (hc : 1 ≤ c) (hc2 : c ≤ 16) (hd : d ≤ 1099511627776) (j : Nat) : ∀ (K : Nat) (n x1 x6 : Int), 0 ≤ n → n ≤ d → x6 ≤ x1 → x1 ≤ 100 → 0 ≤ x6 → x1 - x6 = j → j < K →
    oncewebref12_wait.l0 K x1 n x6 a b c d = some (g c d j n) := by
  induction j with
  | zero =>
    intro K n x9 x10 hn hnd h1 _ _ hj hK
    obtain ⟨K, rfl⟩ : ∃ m, K = m + 1 := ⟨K - 1, by omega⟩
    simp only [oncewebref12_wait.l0]
    rw [if_neg (by omega)]
    rfl
  | succ j ih =>
    intro K n x9 x10 hn hnd h1 h2 h3 hj hK
    obtain ⟨K, rfl⟩ : ∃ m, K = m + 1 := ⟨K - 1, by omega⟩
    simp only [oncewebref12_wait.l0, g]
    rw [if_pos (by omega)]
    obtain ⟨m1, m2⟩ := mul_bound (n := n) (c := c) (d := d) hn (by omega) hc hc2
    have e1 : wrap64 (n * c) = n * c := by unfold wrap64; omega
    have e2 : wrap64 (x10 + 1) = x10 + 1 := by unfold wrap64; omega
    rw [e1, e2]
    by_cases h : n * c > d
    · rw [if_pos h]
      by_cases h' : n ≥ d
      · rw [if_pos h']; simp only [mn]; split <;> simp <;> omega
      · rw [if_neg h', g_cap c d _ j (by omega)]
    · rw [if_neg h, ih K _ _ _ (by omega) (by omega) (by omega) h2 (by omega) (by omega) (by omega)]
      by_cases h' : n ≥ d
      · rw [if_pos h', g_cap c d _ j (by omega)]; simp only [mn]; split <;> simp <;> omega
      · rw [if_neg h']

theorem rwait_some {a b c d : Int} (h : Right a b c d) (k : Int) (K : Nat) (h1 : 1 ≤ k) (h2 : k ≤ 100) (hK : 100 < K) : oncewebref12_wait.f K a b c d k = some (wt b c d k) := by
  unfold oncewebref12_wait.f wt
  exact rwait_l0 a b c d h.c1 h.c2 h.d2 _ K b _ _ h.b1 h.d1 (by omega) (by omega) (by omega) (by omega) (by omega)

theorem wt_bound {a b c d : Int} (h : Right a b c d) (k : Int) : 0 ≤ wt b c d k ∧ wt b c d k ≤ d := g_bound c d h.c1 _ b h.b1 (by have := h.b1; have := h.d1; omega)

theorem chk_zero {a b c d : Int} (h : chk a b c d = 0) : (a = 0 ∧ b = 0 ∧ c = 0 ∧ d = 0) ∨ Right a b c d := by
  unfold chk at h
  by_cases h0 : isZero a b c d = true
  · left; simpa [isZero] using h0
  · rw [if_neg h0] at h
    by_cases h1 : isRight a b c d = true
    · exact Or.inr ((isRight_iff _ _ _ _).1 h1)
    · rw [if_neg h1] at h; omega

theorem ints_same (l : List Int) (hl : l.length ≤ 1000) (j : Nat) : ∀ (K : Nat) (i : Int), 0 ≤ i → i ≤ l.length → l.length - i = (j : Int) → j < K → onceweblaw12_ints.l0 K l l (l.length : Int) i = some true := by
  induction j with
  | zero =>
    intro K i h0 h1 h2 hK
    obtain ⟨K, rfl⟩ : ∃ m, K = m + 1 := ⟨K - 1, by omega⟩
    simp only [onceweblaw12_ints.l0]
    rw [if_neg (by omega)]
  | succ j ih =>
    intro K i h0 h1 h2 hK
    obtain ⟨K, rfl⟩ : ∃ m, K = m + 1 := ⟨K - 1, by omega⟩
    simp only [onceweblaw12_ints.l0]
    rw [if_pos (by omega), if_pos h0, if_pos (by omega), if_pos (by omega), show wrap64 (i + 1) = i + 1 by unfold wrap64; omega]
    simp only [if_true]
    exact ih K _ (by omega) (by omega) (by omega) (by omega)

theorem ints_self (l : List Int) (hl : l.length ≤ 1000) : onceweblaw12_ints.f 1001 l l = some true := by
  unfold onceweblaw12_ints.f
  rw [if_pos rfl]
  exact ints_same l hl l.length 1001 0 (by omega) (by omega) (by omega) (by omega)

/-- The wait as both tell it. -/
def wait (a b c d f : Int) : Int × Int := if chk a b c d = 0 then (if f < 1 then (0, 1) else if f ≥ a then (0, 4) else (wt b c d f, 0)) else (0, chk a b c d)

theorem wait_some (a b c d f : Int) (K : Nat) (hK : 100 < K) : retry_Wait.f K a b c d f = some (wait a b c d f) := by
  unfold retry_Wait.f wait
  rw [check_some]
  simp only [Option.bind_some]
  by_cases h : chk a b c d = 0
  · rw [if_pos h, if_pos h]
    by_cases h1 : f < 1
    · rw [if_pos h1, if_pos h1]
    · rw [if_neg h1, if_neg h1]
      by_cases h2 : f ≥ a
      · rw [if_pos h2, if_pos h2]
      · rw [if_neg h2, if_neg h2]
        rcases chk_zero h with ⟨rfl, rfl, rfl, rfl⟩ | hr
        · omega
        · rw [pause_some hr f K (by omega) (by have := hr.a2; omega) hK]
          rfl
  · rw [if_neg h, if_neg h]

theorem rwait2_some (a b c d f : Int) (K : Nat) (hK : 100 < K) : oncewebref12_Wait.f K a b c d f = some (wait a b c d f) := by
  unfold oncewebref12_Wait.f wait
  rw [rcheck_some _ _ _ _ _ (by omega)]
  simp only [Option.bind_some]
  by_cases h : chk a b c d = 0
  · rw [if_pos h, if_pos h]
    by_cases h1 : f < 1
    · rw [if_pos h1, if_pos h1]
    · rw [if_neg h1, if_neg h1]
      by_cases h2 : f ≥ a
      · rw [if_pos h2, if_pos (by unfold mx; split <;> omega)]
      · rw [if_neg h2, if_neg (by unfold mx; split <;> omega)]
        rcases chk_zero h with ⟨rfl, rfl, rfl, rfl⟩ | hr
        · omega
        · rw [rwait_some hr f K (by omega) (by have := hr.a2; omega) hK]
          rfl
  · rw [if_neg h, if_neg h]

theorem wait_bound (a b c d f : Int) : 0 ≤ (wait a b c d f).1 ∧ (wait a b c d f).1 ≤ 1099511627776 := by
  unfold wait
  by_cases h : chk a b c d = 0
  · rw [if_pos h]
    split
    · simp
    · split
      · simp
      · rcases chk_zero h with ⟨rfl, rfl, rfl, rfl⟩ | hr
        · omega
        · have hb := hr.b1
          have hd := hr.d1
          have := hr.d2
          obtain ⟨h1, h2⟩ := g_bound c d hr.c1 (f - 1).toNat b hb (by omega)
          exact ⟨h1, by show g c d _ b ≤ _; omega⟩
  · rw [if_neg h]; simp

/-- When one tries again. -/
def due (a b c d f t : Int) : Int × Int :=
  if (wait a b c d f).2 = 0 then (if 0 ≤ t ∧ t ≤ 1099511627776 then (if t + (wait a b c d f).1 > 1099511627776 then (0, 3) else (t + (wait a b c d f).1, 0)) else (0, 1)) else (0, (wait a b c d f).2)

theorem due_some (a b c d f t : Int) (K : Nat) (hK : 100 < K) : retry_Due.f K a b c d f t = some (due a b c d f t) := by
  unfold retry_Due.f due
  rw [wait_some _ _ _ _ _ _ hK]
  obtain ⟨h0, h1⟩ := wait_bound a b c d f
  generalize wait a b c d f = x at *
  simp only [Option.bind_some, in_some]
  by_cases h : x.2 = 0
  · rw [if_pos h, if_pos h]
    by_cases h2 : 0 ≤ t ∧ t ≤ 1099511627776
    · have e : (decide (0 ≤ t) && decide (t ≤ 1099511627776)) = true := by simpa using h2
      rw [e, if_pos rfl, if_pos h2, show wrap64 (1099511627776 - t) = 1099511627776 - t by unfold wrap64; omega, show wrap64 (t + x.1) = t + x.1 by unfold wrap64; omega]
      by_cases h3 : t + x.1 > 1099511627776
      · rw [if_pos h3, if_pos (by omega)]
      · rw [if_neg h3, if_neg (by omega)]
    · have e : (decide (0 ≤ t) && decide (t ≤ 1099511627776)) = false := by simp; omega
      rw [e, if_neg (by simp), if_neg h2]
  · rw [if_neg h, if_neg h]

theorem rdue_some (a b c d f t : Int) (K : Nat) (hK : 100 < K) : oncewebref12_Due.f K a b c d f t = some (due a b c d f t) := by
  unfold oncewebref12_Due.f due
  rw [rwait2_some _ _ _ _ _ _ hK]
  obtain ⟨h0, h1⟩ := wait_bound a b c d f
  generalize wait a b c d f = x at *
  obtain ⟨K, rfl⟩ : ∃ m, K = m + 1 := ⟨K - 1, by omega⟩
  simp only [Option.bind_some, oncewebref12_Due.j0]
  by_cases h : x.2 = 0
  · rw [if_pos h, if_pos h]
    by_cases h2 : t < 0
    · rw [if_pos h2, if_pos trivial, if_neg (show ¬ (0 ≤ t ∧ t ≤ 1099511627776) by omega)]
    · rw [if_neg h2]
      by_cases h3 : t > 1099511627776
      · rw [if_neg (show ¬ (0 ≤ t ∧ t ≤ 1099511627776) by omega)]; simp [h3]
      · rw [if_pos (show 0 ≤ t ∧ t ≤ 1099511627776 by omega), if_neg (by simpa using h3), show wrap64 (t + x.1) = t + x.1 by unfold wrap64; omega]
        split <;> rfl
  · rw [if_neg h, if_neg h]

/-- May one? -/
def may (a b c d f t n : Int) : Bool × Int :=
  if (due a b c d f t).2 = 0 then (if 0 ≤ n ∧ n ≤ 1099511627776 then (decide (n ≥ (due a b c d f t).1), 0) else (false, 1)) else (false, (due a b c d f t).2)

theorem may_some (a b c d f t n : Int) (K : Nat) (hK : 100 < K) : retry_May.f K a b c d f t n = some (may a b c d f t n) := by
  unfold retry_May.f may
  rw [due_some _ _ _ _ _ _ _ hK]
  generalize due a b c d f t = x at *
  simp only [Option.bind_some, in_some]
  by_cases h : x.2 = 0
  · rw [if_pos h, if_pos h]
    by_cases h2 : 0 ≤ n ∧ n ≤ 1099511627776
    · have e : (decide (0 ≤ n) && decide (n ≤ 1099511627776)) = true := by simpa using h2
      rw [e, if_pos rfl, if_pos h2]
    · have e : (decide (0 ≤ n) && decide (n ≤ 1099511627776)) = false := by simp; omega
      rw [e, if_neg (by simp), if_neg h2]
  · rw [if_neg h, if_neg h]

theorem rmay_some (a b c d f t n : Int) (K : Nat) (hK : 100 < K) : oncewebref12_May.f K a b c d f t n = some (may a b c d f t n) := by
  unfold oncewebref12_May.f may
  rw [rdue_some _ _ _ _ _ _ _ hK]
  generalize due a b c d f t = x at *
  simp only [Option.bind_some]
  by_cases h : x.2 = 0
  · rw [if_pos h, if_pos h]
    by_cases h2 : n < 0
    · rw [if_pos h2, if_neg (by omega)]
    · rw [if_neg h2]
      by_cases h3 : n > 1099511627776
      · rw [if_pos h3, if_neg (by omega)]
      · rw [if_neg h3, if_pos (by omega)]
  · rw [if_neg h, if_neg h]
end Go.Proofs.Ytklccnnmdlckfaa.LwWaits
