/- What a web keeps under any calls, in plain Lean: every number in its place, and no circle of waits. -/
import Derived.Test.YtohkobfamofkgaaEn
import Derived.Test.YtohkobfamofkgaaCy
namespace Go.Proofs.Ytohkobfamofkgaa.Wb
open Go.RowKit Go.Proofs.Ytohkobfamofkgaa

structure Iw (m : Web) : Prop where
  wf : Wf m
  stk : ∀ t, t < 128 → ∀ x ∈ m.ls t, ∃ d : Nat, d < 256 ∧ x = (d : Int) ∧ m.run d = (t : Int) + 1
  snd : ∀ t, t < 128 → (m.ls t).Nodup
  que : ∀ c, c < 256 → ∀ x ∈ m.ls (128 + c), ∃ y : Nat, y < 128 ∧ x = (y : Int) ∧ m.wai y = (c : Int) + 1
  qnd : ∀ c, c < 256 → (m.ls (128 + c)).Nodup
  inq : ∀ t c : Nat, t < 128 → m.wai t = (c : Int) + 1 → (t : Int) ∈ m.ls (128 + c)
  runs : ∀ t c : Nat, t < 128 → m.wai t = (c : Int) + 1 → m.run c ≠ 0
  rank : ∃ rk : Nat → Nat, ∀ t c r : Nat, t < 128 → m.wai t = (c : Int) + 1 → m.run c = (r : Int) + 1 → rk r < rk t

theorem Iw.zero : Iw m0 := by
  have hw : ∀ (t c : Nat), m0.wai t ≠ (c : Int) + 1 := fun t c e => by have : (0 : Int) = (c : Int) + 1 := e; omega
  exact ⟨Wf.zero, fun _ _ x hx => absurd hx (by simp [m0]), fun _ _ => by simp [m0], fun _ _ x hx => absurd hx (by simp [m0]), fun _ _ => by simp [m0], fun t c _ e => absurd e (hw t c), fun t c _ e => absurd e (hw t c), fun _ => 0, fun t c r _ e => absurd e (hw t c)⟩

section
variable {m : Web} (h : Iw m)
include h
theorem Iw.few (c : Nat) (hc : c < 256) : (m.ls (128 + c)).length ≤ 128 := Cy.pigeon 128 _ (h.qnd c hc) (fun x hx => by
  obtain ⟨y, h1, rfl, _⟩ := h.que c hc x hx
  omega)
/-- The way ends within 129 steps. -/
theorem Iw.way (task : Nat) (rk : Nat → Nat) (hrk : ∀ t c r : Nat, t < 128 → m.wai t = (c : Int) + 1 → m.run c = (r : Int) + 1 → rk r < rk t) :
    ∀ n (vs : List Int) (c : Nat), c < 256 → vs.Nodup → (∀ x ∈ vs, 0 ≤ x ∧ x < 128) → vs.length + n = 129 → (∀ r : Nat, m.run c = (r : Int) + 1 → ∀ x ∈ vs, rk r < rk x.toNat) → ends m task n c
  | 0, vs, c, hc, hn, hx, hl, hr => by
    have := Cy.pigeon 128 vs hn (fun x h => by have := hx x h; omega)
    omega
  | n + 1, vs, c, hc, hn, hx, hl, hr => by
    unfold ends
    rcases h.wf.run c hc with h0 | ⟨r, hr1, hr2, hm⟩
    · exact Or.inl h0
    · have e : (m.run c - 1).toNat = r := by omega
      rw [e]
      by_cases h1 : r = task
      · exact Or.inr (Or.inl h1)
      · rcases h.wf.wai r hr1 with h2 | ⟨d, hd, h3⟩
        · exact Or.inr (Or.inr (Or.inl h2))
        · refine Or.inr (Or.inr (Or.inr ?_))
          have e2 : (m.wai r - 1).toNat = d := by omega
          rw [e2]
          refine Iw.way task rk hrk n ((r : Int) :: vs) d hd ?_ ?_ (by simp; omega) ?_
          · rw [List.nodup_cons]
            exact ⟨fun hmem => by have := hr r hr2 _ hmem; rw [Int.toNat_natCast] at this; omega, hn⟩
          · intro x hxm
            rcases List.mem_cons.1 hxm with rfl | h4
            · omega
            · exact hx x h4
          · intro r' hr' x hxm
            have h5 := hrk r d r' hr1 h3 hr'
            rcases List.mem_cons.1 hxm with rfl | h4
            · rw [Int.toNat_natCast]; exact h5
            · have := hr r hr2 x h4; omega
theorem Iw.ends (task c : Nat) (hc : c < 256) : ends m task 129 c := by
  obtain ⟨rk, hrk⟩ := h.rank
  exact h.way task rk hrk 129 [] c hc (by simp) (fun x hx => absurd hx (by simp)) (by simp) (fun _ _ x hx => absurd hx (by simp))

theorem Iw.begun {t c : Nat} (ht : t < 128) (hc : c < 256) (hl : (m.ls t).length < 48) (hr : m.run c = 0) : Iw (Wb.begun m t c) := by
  have hls : ∀ i, i ≠ t → (Wb.begun m t c).ls i = m.ls i := fun i hi => upd_other _ _ hi
  have hlt : (Wb.begun m t c).ls t = m.ls t ++ [(c : Int)] := upd_same _ _ _
  have hrn : ∀ d, d ≠ c → (Wb.begun m t c).run d = m.run d := fun d hd => upd_other _ _ hd
  have hrc : (Wb.begun m t c).run c = (t : Int) + 1 := upd_same _ _ _
  refine ⟨h.wf.begun ht hl hr, fun s hs x hx => ?_, fun s hs => ?_, fun d hd x hx => ?_, fun d hd => ?_, fun s d hs e => ?_, fun s d hs e => ?_, ?_⟩
  · by_cases e : s = t
    · subst e
      rw [hlt, List.mem_append, List.mem_singleton] at hx
      rcases hx with hx | rfl
      · obtain ⟨d, h1, h2, h3⟩ := h.stk s hs x hx
        exact ⟨d, h1, h2, by rw [hrn d (fun e => by subst e; omega)]; exact h3⟩
      · exact ⟨c, hc, rfl, hrc⟩
    · rw [hls s e] at hx
      obtain ⟨d, h1, h2, h3⟩ := h.stk s hs x hx
      exact ⟨d, h1, h2, by rw [hrn d (fun e => by subst e; omega)]; exact h3⟩
  · by_cases e : s = t
    · subst e
      rw [hlt, List.nodup_append]
      refine ⟨h.snd s hs, by simp, fun a ha b hb e => ?_⟩
      obtain rfl : b = (c : Int) := by simpa using hb
      obtain ⟨d, h1, h2, h3⟩ := h.stk s hs a ha
      have : d = c := by omega
      subst this; omega
    · rw [hls s e]; exact h.snd s hs
  · rw [hls _ (by omega)] at hx; exact h.que d hd x hx
  · rw [hls _ (by omega)]; exact h.qnd d hd
  · rw [hls _ (by omega)]; exact h.inq s d hs e
  · by_cases e2 : d = c
    · subst e2; exact absurd hr (h.runs s d hs e)
    · rw [hrn d e2]; exact h.runs s d hs e
  · obtain ⟨rk, hrk⟩ := h.rank
    refine ⟨rk, fun s d r hs e k => ?_⟩
    by_cases e2 : d = c
    · subst e2; exact absurd hr (h.runs s d hs e)
    · rw [hrn d e2] at k; exact hrk s d r hs e k

theorem Iw.ended {t c : Nat} {s0 : List Int} (ht : t < 128) (hc : c < 256) (hs : m.ls t = s0 ++ [(c : Int)]) : Iw (Wb.ended m t c s0) := by
  have hlt : (Wb.ended m t c s0).ls t = s0 := (upd_other _ _ (by omega)).trans (upd_same _ _ _)
  have hlq : (Wb.ended m t c s0).ls (128 + c) = [] := upd_same _ _ _
  have hls : ∀ i, i ≠ t → i ≠ 128 + c → (Wb.ended m t c s0).ls i = m.ls i := fun i h1 h2 => (upd_other _ _ h2).trans (upd_other _ _ h1)
  have hrn : ∀ d, d ≠ c → (Wb.ended m t c s0).run d = m.run d := fun d hd => upd_other _ _ hd
  have hrc : (Wb.ended m t c s0).run c = 0 := upd_same _ _ _
  have hwz : ∀ s : Nat, (s : Int) ∈ m.ls (128 + c) → (Wb.ended m t c s0).wai s = 0 := fun s k => by show clr _ _ s = 0; unfold clr; rw [if_pos k]
  have hwo : ∀ s : Nat, ¬ (s : Int) ∈ m.ls (128 + c) → (Wb.ended m t c s0).wai s = m.wai s := fun s k => by show clr _ _ s = _; unfold clr; rw [if_neg k]
  have hwp : ∀ s d : Nat, (Wb.ended m t c s0).wai s = (d : Int) + 1 → m.wai s = (d : Int) + 1 ∧ ¬ (s : Int) ∈ m.ls (128 + c) := fun s d e => by
    by_cases k : (s : Int) ∈ m.ls (128 + c)
    · rw [hwz s k] at e; omega
    · rw [hwo s k] at e; exact ⟨e, k⟩
  have hdc : ∀ s d : Nat, s < 128 → (Wb.ended m t c s0).wai s = (d : Int) + 1 → d ≠ c := fun s d hs' e e2 => by
    obtain ⟨h1, h2⟩ := hwp s d e
    subst e2; exact h2 (h.inq s d hs' h1)
  have hnd := h.snd t ht
  rw [hs, List.nodup_append] at hnd
  have hcn : ∀ x ∈ s0, x ≠ (c : Int) := fun x hx => hnd.2.2 x hx _ (by simp)
  have hin : ∀ s, s < 128 → ∀ x ∈ (Wb.ended m t c s0).ls s, x ∈ m.ls s ∧ x ≠ (c : Int) := fun s hs' x hx => by
    by_cases e : s = t
    · subst e; rw [hlt] at hx; exact ⟨by rw [hs]; exact List.mem_append_left _ hx, hcn x hx⟩
    · rw [hls s e (by omega)] at hx
      refine ⟨hx, fun e2 => ?_⟩
      obtain ⟨d, h1, h2, h3⟩ := h.stk s hs' x hx
      have hd : d = c := by omega
      subst hd
      obtain ⟨d2, h4, h5, h6⟩ := h.stk t ht (d : Int) (by rw [hs]; simp)
      have hd2 : d2 = d := by omega
      subst hd2; omega
  refine ⟨⟨fun d hd => ?_, fun s hs' => ?_, fun s hs' => ?_⟩, fun s hs' x hx => ?_, fun s hs' => ?_, fun d hd x hx => ?_, fun d hd => ?_, fun s d hs' e => ?_, fun s d hs' e => ?_, ?_⟩
  · by_cases e : d = c
    · subst e; exact Or.inl hrc
    · rw [hrn d e]
      rcases h.wf.run d hd with h0 | ⟨r, h1, h2, h3⟩
      · exact Or.inl h0
      · refine Or.inr ⟨r, h1, h2, ?_⟩
        by_cases e2 : r = t
        · subst e2
          rw [hlt]
          rw [hs, List.mem_append, List.mem_singleton] at h3
          rcases h3 with h3 | h3
          · exact h3
          · exact absurd (by omega) e
        · rw [hls r e2 (by omega)]; exact h3
  · by_cases k : (s : Int) ∈ m.ls (128 + c)
    · exact Or.inl (hwz s k)
    · rw [hwo s k]; exact h.wf.wai s hs'
  · by_cases e : s = t
    · subst e; rw [hlt]; have := h.wf.len s hs'; rw [hs, List.length_append] at this; omega
    · rw [hls s e (by omega)]; exact h.wf.len s hs'
  · obtain ⟨k1, k2⟩ := hin s hs' x hx
    obtain ⟨d, h1, h2, h3⟩ := h.stk s hs' x k1
    exact ⟨d, h1, h2, by rw [hrn d (fun e => by subst e; exact k2 h2)]; exact h3⟩
  · by_cases e : s = t
    · subst e; rw [hlt]; exact hnd.1
    · rw [hls s e (by omega)]; exact h.snd s hs'
  · by_cases e : d = c
    · subst e; rw [hlq] at hx; exact absurd hx (by simp)
    · rw [hls _ (by omega) (by omega)] at hx
      obtain ⟨y, h1, rfl, h3⟩ := h.que d hd x hx
      refine ⟨y, h1, rfl, ?_⟩
      rw [hwo y (fun k => ?_)]
      · exact h3
      · obtain ⟨y2, _, e3, h4⟩ := h.que c hc _ k
        have : y2 = y := by omega
        subst this; omega
  · by_cases e : d = c
    · subst e; rw [hlq]; simp
    · rw [hls _ (by omega) (by omega)]; exact h.qnd d hd
  · have hd := hdc s d hs' e
    rw [hls _ (by omega) (by omega)]; exact h.inq s d hs' (hwp s d e).1
  · rw [hrn d (hdc s d hs' e)]; exact h.runs s d hs' (hwp s d e).1
  · obtain ⟨rk, hrk⟩ := h.rank
    refine ⟨rk, fun s d r hs' e k => ?_⟩
    rw [hrn d (hdc s d hs' e)] at k
    exact hrk s d r hs' (hwp s d e).1 k
end
end Go.Proofs.Ytohkobfamofkgaa.Wb
