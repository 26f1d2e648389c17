/- The document's breaker and the one in memory tell the same: in plain Lean. -/
import Derived.Test.YtklccnnmdlckfaaPRetryBreakerx4
import Derived.Test.YtklccnnmdlckfaaPRetryBreakerx5
import Derived.Test.YtklccnnmdlckfaaBf
namespace Go.Proofs.Ytklccnnmdlckfaa.PRetryBreaker
open Go.RowKit Go.Maps Go.Proofs.Ytklccnnmdlckfaa Go.Proofs.Ytklccnnmdlckfaa.Br Go.Proofs.YtklccnnmdlckfaaW.PrintWords Go.Proofs.YtklccnnmdlckfaaW.PrintLast Go.Proofs.YtklccnnmdlckfaaW.PrintMore

abbrev AskF (k : Nat) (s : Brk) (L : List S93) (t : Int) := oncewebref12_Breaker_Ask.f k s.limit s.rest s.state s.epoch s.fails s.untl s.last s.tries L t
abbrev TellF (k : Nat) (s : Brk) (L : List S93) (x : Int) (fine : Bool) (t : Int) := oncewebref12_Breaker_Tell.f k s.limit s.rest s.state s.epoch s.fails s.untl s.last s.tries L x fine t
abbrev out3 (s : Brk) (L : List S93) (a : Int) (b : Bool) (c : Int) := (s.limit, s.rest, s.state, s.epoch, s.fails, s.untl, s.last, s.tries, L, a, b, c)
abbrev out1 (s : Brk) (L : List S93) (c : Int) := (s.limit, s.rest, s.state, s.epoch, s.fails, s.untl, s.last, s.tries, L, c)

theorem timed_is (s : Brk) (L : List S93) (t : Int) (k : Nat) : oncewebref12_Breaker_timed.f (k + 1) s.limit s.rest s.state s.epoch s.fails s.untl s.last s.tries L t = some (late s t) := by
  unfold oncewebref12_Breaker_timed.f late
  by_cases h0 : t < 0
  · rw [if_pos h0, if_neg (by omega)]
    simp only [oncewebref12_Breaker_timed.j0]
    rw [if_pos trivial]
  · rw [if_neg h0]
    simp only [oncewebref12_Breaker_timed.j0]
    by_cases h1 : t > 1099511627776
    · rw [if_pos (decide_eq_true h1), if_neg (by omega)]
    · have h2 : 0 ≤ t ∧ t ≤ 1099511627776 := by omega
      rw [if_neg (by simpa using h1), if_pos h2]
      split <;> rfl
theorem ask_late_is (s : Brk) (L : List S93) (t : Int) (k : Nat) (h : late s t ≠ 0) : AskF (k + 2) s L t = some (out3 s L 0 false (late s t)) := by
  show oncewebref12_Breaker_Ask.f (k + 2) _ _ _ _ _ _ _ _ _ _ = _
  unfold oncewebref12_Breaker_Ask.f
  rw [timed_is s L t (k + 1)]
  simp only [Option.bind_some]
  rw [if_neg h]
theorem ask_head (s : Brk) (L : List S93) (t : Int) (k : Nat) (h : late s t = 0) : AskF (k + 2) s L t = oncewebref12_Breaker_Ask.j0 (k + 2) t (lets s t) s.limit s.rest s.state s.epoch s.fails s.untl s.last s.tries L := by
  show oncewebref12_Breaker_Ask.f (k + 2) _ _ _ _ _ _ _ _ _ _ = _
  unfold oncewebref12_Breaker_Ask.f
  rw [timed_is s L t (k + 1), h]
  simp only [Option.bind_some]
  rw [if_pos trivial]
  unfold lets
  by_cases h1 : s.state = 1
  · rw [if_pos h1]; simp [h1]
  · rw [if_neg h1]
    by_cases h2 : s.state = 2
    · rw [if_pos h2]; simp [h2]
    · have e : (s.state == 1 || (s.state == 2 && decide (s.untl ≤ t))) = false := by simp [h1, h2]
      rw [if_neg h2, e]
theorem ask_not_is (s : Brk) (L : List S93) (t : Int) (k : Nat) (h : late s t = 0) (hn : lets s t = false) : AskF (k + 2) s L t = some (out3 { s with last := t } L 0 false 0) := by
  rw [ask_head s L t k h, hn]
  simp only [oncewebref12_Breaker_Ask.j0, oncewebref12_Breaker_Ask.j1]
  rw [if_neg (by simp), if_neg (by simp), if_neg (by simp)]
theorem ask_long_is (s : Brk) (L : List S93) (t : Int) (k : Nat) (h : late s t = 0) (hn : lets s t = true) (hz : 1024 ≤ L.length) : AskF (k + 2) s L t = some (out3 s L 0 false 3) := by
  rw [ask_head s L t k h, hn]
  simp only [oncewebref12_Breaker_Ask.j0, oncewebref12_Breaker_Ask.j1]
  rw [if_pos trivial, if_pos (decide_eq_true (by omega))]
theorem ask_closed_is (s : Brk) (L : List S93) (t : Int) (k : Nat) (h : late s t = 0) (h1 : s.state = 1) (hz : L.length < 1024) : AskF (k + 2) s L t = some (out3 (asked s t) (L ++ [⟨wrap64 (s.tries + 1), s.epoch⟩]) (wrap64 (s.tries + 1)) true 0) := by
  have hn : lets s t = true := by unfold lets; simp [h1]
  rw [ask_head s L t k h, hn]
  simp only [oncewebref12_Breaker_Ask.j0, oncewebref12_Breaker_Ask.j1]
  rw [if_pos trivial, if_neg (by simp; omega), if_pos trivial, if_neg (by omega)]
  simp only [Option.bind_some, List.nil_append, List.length_nil, List.length_singleton]
  rw [if_pos (by omega), if_pos (by omega)]
  rfl
theorem ask_open_is (s : Brk) (L : List S93) (t : Int) (k : Nat) (h : late s t = 0) (h2 : s.state = 2) (h3 : s.untl ≤ t) (hz : L.length < 1024) : AskF (k + 2) s L t = some (out3 (reopened s t) (L ++ [⟨wrap64 (s.tries + 1), wrap64 (s.epoch + 1)⟩]) (wrap64 (s.tries + 1)) true 0) := by
  have hn : lets s t = true := by unfold lets; simp [h2, h3]
  rw [ask_head s L t k h, hn]
  simp only [oncewebref12_Breaker_Ask.j0, oncewebref12_Breaker_Ask.j1]
  rw [if_pos trivial, if_neg (by simp; omega), if_pos trivial, if_pos h2]
  unfold oncewebref12_Breaker_turned.f
  simp only [Option.bind_some, List.nil_append, List.length_nil, List.length_singleton]
  rw [if_pos (by omega), if_pos (by omega)]
  rfl

/-- What a Tell finds. -/
def scan (x : Int) : Int → Bool → List S93 → Int × Bool
  | o, b, [] => (o, b)
  | o, b, w :: l => if w.f0 = x then scan x w.f1 true l else scan x o b l
def rest93 (x : Int) (l : List S93) : List S93 := l.filter (fun w => !(w.f0 == x))
theorem rest93_cons (x : Int) (w : S93) (l : List S93) : rest93 x (w :: l) = if w.f0 = x then rest93 x l else w :: rest93 x l := by
  unfold rest93
  by_cases h : w.f0 = x
  · rw [if_pos h, List.filter_cons_of_neg (by simpa using h)]
  · rw [if_neg h, List.filter_cons_of_pos (by simpa using h)]
theorem rd93_at (R : List S93) (j : Nat) (hj : j < R.length) : rd_T93 R (j : Int) = R[j] := by
  unfold rd_T93
  rw [Int.toNat_natCast, List.getD_eq_getElem?_getD, List.getElem?_eq_getElem hj]; rfl
abbrev TellL (k : Nat) (s : Brk) (L : List S93) (x : Int) (fine : Bool) (t o : Int) (b : Bool) (l : List S93) (j : Int) := oncewebref12_Breaker_Tell.l0 k x fine t o b l j s.limit s.rest s.state s.epoch s.fails s.untl s.last s.tries L
theorem tell_from {r : Int × Int × Int × Int × Int × Int × Int × Int × (List S93) × Int} (s : Brk) (L : List S93) (x : Int) (fine : Bool) (t : Int) (hL : L.length ≤ 100000) : ∀ d (j : Nat) (o : Int) (b : Bool) (l : List S93), l.length ≤ j → j + d = L.length →
    Ev (fun k => TellL k s L x fine t (scan x o b (L.drop j)).1 (scan x o b (L.drop j)).2 (l ++ rest93 x (L.drop j)) (L.length : Int)) r → Ev (fun k => TellL k s L x fine t o b l (j : Int)) r := by
  intro d
  induction d with
  | zero =>
    intro j o b l hl hj h
    rw [List.drop_eq_nil_of_le (by omega)] at h
    have : l ++ rest93 x [] = l := by simp [rest93]
    rw [this] at h
    rw [show (j : Int) = (L.length : Int) by omega]
    exact h
  | succ d ih =>
    intro j o b l hl hj h
    have hlt : j < L.length := by omega
    rw [List.drop_eq_getElem_cons hlt, rest93_cons] at h
    have hw : wrap64 ((j : Int) + 1) = ((j + 1 : Nat) : Int) := by unfold wrap64; omega
    by_cases hx : L[j].f0 = x
    · rw [if_pos hx, show scan x o b (L[j] :: L.drop (j + 1)) = scan x L[j].f1 true (L.drop (j + 1)) by conv => lhs; unfold scan; rw [if_pos hx]] at h
      refine Ev.step (fun k => ?_) (ih (j + 1) L[j].f1 true l (by omega) (by omega) h)
      show oncewebref12_Breaker_Tell.l0 (k + 1) _ _ _ _ _ _ _ _ _ _ _ _ _ _ _ _ = _
      simp only [oncewebref12_Breaker_Tell.l0]
      rw [if_pos (by omega), if_pos (by omega), rd93_at L j hlt, if_pos hx, hw]
    · rw [if_neg hx, show scan x o b (L[j] :: L.drop (j + 1)) = scan x o b (L.drop (j + 1)) by conv => lhs; unfold scan; rw [if_neg hx]] at h
      have h' := ih (j + 1) o b (l ++ [L[j]]) (by simp; omega) (by omega) (by rw [List.append_assoc]; exact h)
      refine Ev.step (fun k => ?_) h'
      show oncewebref12_Breaker_Tell.l0 (k + 1) _ _ _ _ _ _ _ _ _ _ _ _ _ _ _ _ = _
      simp only [oncewebref12_Breaker_Tell.l0]
      rw [if_pos (by omega), if_pos (by omega), rd93_at L j hlt, if_neg hx, if_pos (by omega), hw]
theorem scan_not (x : Int) : ∀ (L : List S93) (o : Int) (b : Bool), (∀ w ∈ L, w.f0 ≠ x) → scan x o b L = (o, b)
  | [], _, _, _ => rfl
  | w :: l, o, b, h => by
    unfold scan
    rw [if_neg (h w (by simp))]
    exact scan_not x l o b (fun v hv => h v (List.mem_cons_of_mem _ hv))
theorem scan_mem (v : S93) : ∀ (L : List S93) (o : Int) (b : Bool), (L.map (·.f0)).Nodup → v ∈ L → scan v.f0 o b L = (v.f1, true)
  | [], _, _, _, h => absurd h (by simp)
  | w :: l, o, b, hn, h => by
    rw [List.map_cons, List.nodup_cons] at hn
    unfold scan
    rcases List.mem_cons.1 h with rfl | h
    · rw [if_pos rfl]
      exact scan_not _ l _ _ (fun z hz e => hn.1 (List.mem_map.2 ⟨z, hz, e⟩))
    · rw [if_neg (fun e => hn.1 (List.mem_map.2 ⟨v, h, e.symm⟩))]
      exact scan_mem v l o b hn.2 h
theorem rest_len (v : S93) : ∀ (L : List S93), (L.map (·.f0)).Nodup → v ∈ L → (rest93 v.f0 L).length + 1 = L.length
  | [], _, h => absurd h (by simp)
  | w :: l, hn, h => by
    rw [List.map_cons, List.nodup_cons] at hn
    rw [rest93_cons]
    rcases List.mem_cons.1 h with rfl | h
    · rw [if_pos rfl]
      have : rest93 v.f0 l = l := by
        unfold rest93
        exact List.filter_eq_self.2 (fun z hz => by simpa using (fun e => hn.1 (List.mem_map.2 ⟨z, hz, e⟩)))
      rw [this]; rfl
    · rw [if_neg (fun e => hn.1 (List.mem_map.2 ⟨v, h, e.symm⟩))]
      have := rest_len v l hn.2 h
      simp only [List.length_cons]; omega

/-- Both tell the same; N: how much was called. -/
structure Bre (s : Brk) (D : DataW Unit) (n : Nat) (L : List S93) (N : Nat) : Prop where
  tidy : Tidy D
  wk : ∀ k : Int, Maps.has D (.int .i64 k) = true ↔ ∃ w ∈ L, w.f0 = k
  ep : ∀ w ∈ L, atI D w.f0 = w.f1
  sz : Maps.size D = L.length
  nd : (L.map (·.f0)).Nodup
  le : ∀ w ∈ L, w.f0 ≤ s.tries
  tr : 0 ≤ s.tries ∧ s.tries ≤ N
  en : 0 ≤ s.epoch ∧ s.epoch ≤ N
  cnt : n ≤ N
  lim : 1 ≤ s.limit ∧ s.limit ≤ 1000
  rst : 1 ≤ s.rest ∧ s.rest ≤ 1099511627776
  fl : 0 ≤ s.fails ∧ s.fails < s.limit
  few : L.length ≤ 1024
theorem Bre.fresh (l r : Int) (h1 : 1 ≤ l ∧ l ≤ 1000) (h2 : 1 ≤ r ∧ r ≤ 1099511627776) : Bre (fresh l r) (.map []) 0 [] 0 :=
  ⟨Maps.tidy_empty, fun k => ⟨fun h => absurd h (by rw [show Maps.has (.map []) (.int .i64 k) = false from rfl]; simp), fun ⟨w, h, _⟩ => absurd h (by simp)⟩, by simp, rfl, by simp, by simp, ⟨Int.le_refl _, Int.le_refl _⟩, ⟨Int.le_refl _, Int.le_refl _⟩, Nat.le_refl _, h1, h2, ⟨Int.le_refl _, by show (0 : Int) < l; omega⟩, by simp⟩
section
variable {s : Brk} {D : DataW Unit} {n N : Nat} {L : List S93} (h : Bre s D n L N) (hN : N ≤ 1000000000000000)
include h
theorem Bre.more {s' : Brk} (e1 : s'.tries = s.tries) (e2 : 0 ≤ s'.epoch ∧ s'.epoch ≤ (N : Int) + 1) (e3 : s'.limit = s.limit) (e4 : s'.rest = s.rest) (e5 : 0 ≤ s'.fails ∧ s'.fails < s.limit) : Bre s' D n L (N + 1) :=
  ⟨h.tidy, h.wk, h.ep, h.sz, h.nd, by rw [e1]; exact h.le, by rw [e1]; have := h.tr; omega, by omega, by have := h.cnt; omega, by rw [e3]; exact h.lim, by rw [e4]; exact h.rst, by rw [e3]; exact e5, h.few⟩
theorem Bre.same : Bre s D n L (N + 1) := h.more rfl (by have := h.en; omega) rfl rfl h.fl
include hN
/-- One more is on its way. -/
theorem Bre.add {s' : Brk} (e : Int) (e1 : s'.tries = s.tries + 1) (e2 : 0 ≤ s'.epoch ∧ s'.epoch ≤ (N : Int) + 1) (e3 : s'.limit = s.limit) (e4 : s'.rest = s.rest) (e5 : 0 ≤ s'.fails ∧ s'.fails < s.limit) (hL : L.length < 1024) :
    Bre s' (D.put (.int .i64 (wrap64 (s.tries + 1))) (.lit (.int .i64 e))) (n + 1) (L ++ [⟨wrap64 (s.tries + 1), e⟩]) (N + 1) := by
  have ht := h.tr
  have hw : wrap64 (s.tries + 1) = s.tries + 1 := by unfold wrap64; omega
  rw [hw]
  have hno : ∀ w ∈ L, w.f0 ≠ s.tries + 1 := fun w hw e => by have := h.le w hw; omega
  have hno2 : Maps.has D (.int .i64 (s.tries + 1)) = false := by
    cases hd : Maps.has D (.int .i64 (s.tries + 1)) with
    | false => rfl
    | true =>
      obtain ⟨w, h1, h2⟩ := (h.wk _).1 hd
      exact absurd h2 (hno w h1)
  refine ⟨h.tidy.put (keyLit _) _, fun k => ?_, fun w hw => ?_, ?_, ?_, fun w hw => ?_, by omega, by omega, by have := h.cnt; omega, by rw [e3]; exact h.lim, by rw [e4]; exact h.rst, by rw [e3]; exact e5, by simp; omega⟩
  · by_cases hk : k = s.tries + 1
    · subst hk
      rw [Maps.has_put_same h.tidy.isMap (keyLit _)]
      exact ⟨fun _ => ⟨_, List.mem_append_right _ (List.mem_singleton.2 rfl), rfl⟩, fun _ => rfl⟩
    · rw [Maps.has_put_other (key_ne hk), h.wk k]
      constructor
      · rintro ⟨w, h1, h2⟩
        exact ⟨w, List.mem_append_left _ h1, h2⟩
      · rintro ⟨w, h1, h2⟩
        rcases List.mem_append.1 h1 with h1 | h1
        · exact ⟨w, h1, h2⟩
        · obtain rfl := List.mem_singleton.1 h1
          exact absurd h2.symm hk
  · rcases List.mem_append.1 hw with h1 | h1
    · have hk := hno w h1
      rw [← h.ep w h1]
      unfold atI
      rw [Maps.atKey_put_other (key_ne hk)]
    · obtain rfl := List.mem_singleton.1 h1
      exact atI_put h.tidy _ _
  · rw [Maps.size_put h.tidy, hno2, h.sz]; simp
  · rw [List.map_append, List.nodup_append]
    refine ⟨h.nd, by simp, fun a ha b hb e => ?_⟩
    obtain ⟨w, hw, rfl⟩ := List.mem_map.1 ha
    have : b = s.tries + 1 := by simpa using hb
    exact hno w hw (e.trans this)
  · rcases List.mem_append.1 hw with h1 | h1
    · have := h.le w h1; omega
    · obtain rfl := List.mem_singleton.1 h1
      show s.tries + 1 ≤ s'.tries; omega
omit hN
/-- One has come back. -/
theorem Bre.gone {s' : Brk} (v : S93) (hv : v ∈ L) (e1 : s'.tries = s.tries) (e2 : 0 ≤ s'.epoch ∧ s'.epoch ≤ (N : Int) + 1) (e3 : s'.limit = s.limit) (e4 : s'.rest = s.rest) (e5 : 0 ≤ s'.fails ∧ s'.fails < s.limit) :
    Bre s' (D.del (.int .i64 v.f0)) n (rest93 v.f0 L) (N + 1) := by
  have hm : ∀ w, w ∈ rest93 v.f0 L ↔ w ∈ L ∧ w.f0 ≠ v.f0 := fun w => by unfold rest93; rw [List.mem_filter]; simp
  have hh : Maps.has D (.int .i64 v.f0) = true := (h.wk _).2 ⟨v, hv, rfl⟩
  refine ⟨h.tidy.del _, fun k => ?_, fun w hw => ?_, ?_, ?_, fun w hw => ?_, by rw [e1]; have := h.tr; omega, by omega, by have := h.cnt; omega, by rw [e3]; exact h.lim, by rw [e4]; exact h.rst, by rw [e3]; exact e5, ?_⟩
  · by_cases hk : k = v.f0
    · subst hk
      rw [Maps.has_del_same]
      refine ⟨fun h => absurd h (by simp), fun ⟨w, h1, h2⟩ => absurd h2 ((hm w).1 h1).2⟩
    · rw [Maps.has_del_other (key_ne hk), h.wk k]
      constructor
      · rintro ⟨w, h1, h2⟩
        exact ⟨w, (hm w).2 ⟨h1, by rw [h2]; exact hk⟩, h2⟩
      · rintro ⟨w, h1, h2⟩
        exact ⟨w, ((hm w).1 h1).1, h2⟩
  · obtain ⟨h1, h2⟩ := (hm w).1 hw
    rw [← h.ep w h1]
    unfold atI
    rw [Maps.atKey_del_other (key_ne h2)]
  · have h1 := Maps.size_del (k := .int .i64 v.f0) h.tidy
    rw [hh, h.sz] at h1
    have h2 := rest_len v L h.nd hv
    simp at h1; omega
  · exact h.nd.sublist (List.filter_sublist.map _)
  · rw [e1]; exact h.le w ((hm w).1 hw).1
  · have h2 := rest_len v L h.nd hv
    have := h.few
    omega
end
/-- Where it is told. -/
theorem told_tries (s : Brk) (e : Int) (fine : Bool) (t : Int) : (told s e fine t).tries = s.tries ∧ (told s e fine t).limit = s.limit ∧ (told s e fine t).rest = s.rest := by
  unfold told opened turn
  dsimp only
  split
  · split
    · split <;> exact ⟨rfl, rfl, rfl⟩
    · split
      · exact ⟨rfl, rfl, rfl⟩
      · split <;> exact ⟨rfl, rfl, rfl⟩
  · exact ⟨rfl, rfl, rfl⟩
theorem told_more (s : Brk) (e : Int) (fine : Bool) (t : Int) {N : Nat} (hN : N ≤ 1000000000000000) (he : 0 ≤ s.epoch ∧ s.epoch ≤ N) (hl : 1 ≤ s.limit) (hf : 0 ≤ s.fails ∧ s.fails < s.limit) : (0 ≤ (told s e fine t).epoch ∧ (told s e fine t).epoch ≤ (N : Int) + 1) ∧ (0 ≤ (told s e fine t).fails ∧ (told s e fine t).fails < s.limit) := by
  have hw : wrap64 (s.epoch + 1) = s.epoch + 1 := by unfold wrap64; omega
  unfold told opened turn
  dsimp only
  rw [hw]
  split
  · split
    · split
      · exact ⟨⟨by dsimp only; omega, by dsimp only; omega⟩, ⟨by dsimp only; omega, by dsimp only; omega⟩⟩
      · exact ⟨⟨by dsimp only; omega, by dsimp only; omega⟩, ⟨by dsimp only; omega, by dsimp only; omega⟩⟩
    · split
      · exact ⟨⟨by dsimp only; omega, by dsimp only; omega⟩, ⟨by dsimp only; omega, by dsimp only; omega⟩⟩
      · split
        · exact ⟨⟨by dsimp only; omega, by dsimp only; omega⟩, ⟨by dsimp only; omega, by dsimp only; omega⟩⟩
        · rename_i h
          exact ⟨⟨by dsimp only; omega, by dsimp only; omega⟩, ⟨by dsimp only; omega, by dsimp only; omega⟩⟩
  · exact ⟨⟨by dsimp only; omega, by dsimp only; omega⟩, ⟨by dsimp only; omega, by dsimp only; omega⟩⟩
theorem late_in {s : Brk} {t : Int} (h : late s t = 0) : 0 ≤ t ∧ t ≤ 1099511627776 := by
  unfold late at h
  split at h
  · rename_i k; exact k
  · exact absurd h (by decide)
theorem tell_end {s : Brk} {L : List S93} (l : List S93) (x : Int) (fine : Bool) (t o : Int) (k : Nat) (h : late s t = 0) (hr : 1 ≤ s.rest ∧ s.rest ≤ 1099511627776) (hf : 0 ≤ s.fails ∧ s.fails ≤ 1000) : TellL (k + 2) s L x fine t o true l (L.length : Int) = some (out1 (told s o fine t) l 0) := by
  show oncewebref12_Breaker_Tell.l0 (k + 2) _ _ _ _ _ _ _ _ _ _ _ _ _ _ _ _ = _
  simp only [oncewebref12_Breaker_Tell.l0]
  have ht := late_in h
  have hw : wrap64 (t + s.rest) = t + s.rest := by unfold wrap64; omega
  have hw2 : wrap64 (s.fails + 1) = s.fails + 1 := by unfold wrap64; omega
  have hm : mn (t + s.rest) 1099511627776 = if t + s.rest ≤ 1099511627776 then t + s.rest else 1099511627776 := by unfold mn; split <;> split <;> omega
  rw [if_neg (by omega), if_pos trivial, timed_is s L t k, h]
  simp only [Option.bind_some]
  rw [if_pos trivial, hw, hw2, hm]
  unfold told oncewebref12_Breaker_turned.f
  dsimp only
  by_cases h1 : o = s.epoch
  · rw [if_pos h1, if_pos h1]
    by_cases h2 : s.state = 3
    · rw [if_pos h2, if_pos h2]
      cases fine <;> rfl
    · rw [if_neg h2, if_neg h2]
      cases fine with
      | true => rfl
      | false =>
        rw [if_neg (show ¬ (false = true) by decide), if_neg (show ¬ (false = true) by decide)]
        by_cases h3 : s.fails + 1 = s.limit
        · rw [if_pos h3, if_pos h3]; rfl
        · rw [if_neg h3, if_neg h3]
  · rw [if_neg h1, if_neg h1]
theorem tell_late {s : Brk} {L : List S93} (l : List S93) (x : Int) (fine : Bool) (t o : Int) (k : Nat) (h : late s t ≠ 0) : TellL (k + 2) s L x fine t o true l (L.length : Int) = some (out1 s L (late s t)) := by
  show oncewebref12_Breaker_Tell.l0 (k + 2) _ _ _ _ _ _ _ _ _ _ _ _ _ _ _ _ = _
  simp only [oncewebref12_Breaker_Tell.l0]
  rw [if_neg (by omega), if_pos trivial, timed_is s L t k]
  simp only [Option.bind_some]
  rw [if_neg h]
theorem tell_no {s : Brk} {L : List S93} (l : List S93) (x : Int) (fine : Bool) (t o : Int) (k : Nat) : TellL (k + 2) s L x fine t o false l (L.length : Int) = some (out1 s L 4) := by
  show oncewebref12_Breaker_Tell.l0 (k + 2) _ _ _ _ _ _ _ _ _ _ _ _ _ _ _ _ = _
  simp only [oncewebref12_Breaker_Tell.l0]
  rw [if_neg (by omega), if_neg (by decide)]
theorem ev2 {α : Type} {g : Nat → Option α} {r : α} (h : ∀ k, g (k + 2) = some r) : Ev g r := ⟨2, fun k hk => by obtain ⟨j, rfl⟩ : ∃ j, k = j + 2 := ⟨k - 2, by omega⟩; exact h j⟩
/-- Tell, by what it finds. -/
theorem Bre.tell_none {s : Brk} {D : DataW Unit} {n N : Nat} {L : List S93} (h : Bre s D n L N) (x : Int) (fine : Bool) (t : Int) (hx : Maps.has D (.int .i64 x) = false) : Ev (fun k => TellF k s L x fine t) (out1 s L 4) := by
  have hno : ∀ w ∈ L, w.f0 ≠ x := fun w hw e => by rw [(h.wk x).2 ⟨w, hw, e⟩] at hx; exact absurd hx (by simp)
  refine tell_from s L x fine t (by have := h.few; omega) L.length 0 0 false [] (by simp) (by omega) ?_
  rw [List.drop_zero, scan_not x L 0 false hno]
  exact ev2 (fun k => tell_no _ x fine t 0 k)
theorem Bre.tell_found {s : Brk} {D : DataW Unit} {n N : Nat} {L : List S93} (h : Bre s D n L N) (x : Int) (fine : Bool) (t : Int) (hx : Maps.has D (.int .i64 x) = true) : ∃ v ∈ L, v.f0 = x ∧ atI D x = v.f1 ∧ (late s t ≠ 0 → Ev (fun k => TellF k s L x fine t) (out1 s L (late s t))) ∧ (late s t = 0 → Ev (fun k => TellF k s L x fine t) (out1 (told s (atI D x) fine t) (rest93 x L) 0)) := by
  obtain ⟨v, hv, rfl⟩ := (h.wk x).1 hx
  have hs := scan_mem v L 0 false h.nd hv
  refine ⟨v, hv, rfl, h.ep v hv, fun hl => ?_, fun hl => ?_⟩
  · refine tell_from s L v.f0 fine t (by have := h.few; omega) L.length 0 0 false [] (by simp) (by omega) ?_
    rw [List.drop_zero, hs]
    exact ev2 (fun k => tell_late _ v.f0 fine t _ k hl)
  · refine tell_from s L v.f0 fine t (by have := h.few; omega) L.length 0 0 false [] (by simp) (by omega) ?_
    rw [List.drop_zero, hs, h.ep v hv]
    exact ev2 (fun k => tell_end _ v.f0 fine t _ k hl h.rst (by have := h.fl; have := h.lim; omega))
end Go.Proofs.Ytklccnnmdlckfaa.PRetryBreaker
