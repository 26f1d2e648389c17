/- What a web keeps where a task begins to wait, or waits no more, in plain Lean. -/
import Derived.Test.YtohkobfamofkgaaIv
namespace Go.Proofs.Ytohkobfamofkgaa.Wb
open Go.RowKit Go.Proofs.Ytohkobfamofkgaa

/-- From a task one comes to another, going from each to the one that runs what it waits for. -/
inductive Rch (m : Web) : Nat → Nat → Prop
  | refl (x : Nat) : Rch m x x
  | step (x c y z : Nat) (hx : x < 128) (hw : m.wai x = (c : Int) + 1) (hr : m.run c = (y : Int) + 1) (h : Rch m y z) : Rch m x z

theorem after_ne {a : Int} {l : List Int} (h : a ∈ l) : after a l ≠ [] := by
  have := pos_lt h
  intro e
  have h2 := congrArg List.length e
  rw [after_length] at h2
  simp at h2; omega

section
variable {m : Web} (h : Iw m)
include h
theorem Iw.circ_ne (t : Nat) : ∀ n c, c < 256 → circ m t n c ≠ some []
  | 0, c, _ => by simp [circ]
  | n + 1, c, hc => by
    rcases h.wf.run c hc with h0 | ⟨r, hr1, hr2, hm⟩
    · rw [circ_zero h0]; simp
    · by_cases e : r = t
      · subst e
        rw [circ_hit hr2]
        intro e
        injection e with e
        exact after_ne hm e
      · rcases h.wf.wai r hr1 with hw | ⟨d, hd, hw⟩
        · rw [circ_end hr2 e hw]; simp
        · rw [circ_on hr2 e hw]
          intro e2
          cases hq : circ m t n d with
          | none => rw [hq] at e2; simp at e2
          | some l =>
            rw [hq] at e2
            injection e2 with e2
            exact after_ne hm (List.append_eq_nil_iff.1 e2).1
theorem Iw.no_way (t : Nat) : ∀ n c r : Nat, c < 256 → Wb.ends m t n c → circ m t n c = none → m.run c = (r : Int) + 1 → ¬ Rch m r t
  | 0, c, r, _, he, _, _ => absurd he (by simp [Wb.ends])
  | n + 1, c, r, hc, he, hn, hr => by
    rcases h.wf.run c hc with h0 | ⟨r', hr1, hr2, hm⟩
    · omega
    · obtain rfl : r' = r := by omega
      by_cases e : r' = t
      · subst e; rw [circ_hit hr2] at hn; exact absurd hn (by simp)
      · rcases h.wf.wai r' hr1 with hw | ⟨d, hd, hw⟩
        · intro k
          cases k with
          | refl => exact e rfl
          | step _ c' y _ hx hw' _ _ => omega
        · rw [circ_on hr2 e hw] at hn
          have hn' : circ m t n d = none := by
            cases hq : circ m t n d with
            | none => rfl
            | some l => rw [hq] at hn; simp at hn
          have he' := ends_on he hr2 e hw
          rcases h.wf.run d hd with h0 | ⟨r2, _, hr3, _⟩
          · exact absurd h0 (h.runs r' d hr1 hw)
          · have ih := Iw.no_way t n d r2 hd he' hn' hr3
            intro k
            cases k with
            | refl => exact e rfl
            | step _ c' y _ hx hw' hy hk =>
              have : c' = d := by omega
              subst this
              have : y = r2 := by omega
              subst this
              exact ih hk
theorem Iw.idle {t : Nat} (hl : (m.ls t).length = 0) : ∀ x, Rch m x t → x = t := by
  have hn : ∀ d, d < 256 → m.run d ≠ (t : Int) + 1 := fun d hd e => by
    rcases h.wf.run d hd with h0 | ⟨r, _, h2, h3⟩
    · omega
    · have : r = t := by omega
      subst this
      rw [List.eq_nil_of_length_eq_zero hl] at h3
      exact absurd h3 (by simp)
  intro x k
  induction k with
  | refl => rfl
  | step x c y z hx hw hr _ ih =>
    have := ih hl hn
    subst this
    rcases h.wf.wai x hx with h0 | ⟨d, hd, h1⟩
    · omega
    · have : c = d := by omega
      subst this
      exact absurd hr (hn c hd)
/-- Where no circle is told, the one that runs the cell does not wait for the task. -/
theorem Iw.free_way {t n c r : Nat} (hc : c < 256) (he : Wb.ends m t n c) (hl : circle m t n c = []) (hr : m.run c = (r : Int) + 1) : ¬ Rch m r t := by
  unfold circle at hl
  split at hl
  · rename_i h0
    intro k
    have := h.idle h0 r k
    subst this
    rcases h.wf.run c hc with h1 | ⟨r', _, h2, h3⟩
    · omega
    · have : r' = r := by omega
      subst this
      rw [List.eq_nil_of_length_eq_zero h0] at h3
      exact absurd h3 (by simp)
  · refine h.no_way t n c r hc he ?_ hr
    cases hq : circ m t n c with
    | none => rfl
    | some l => rw [hq] at hl; obtain rfl : l = [] := hl; exact absurd hq (h.circ_ne t n c hc)

theorem Iw.waited {t c n : Nat} (ht : t < 128) (hc : c < 256) (hw : m.wai t = 0) (hr : m.run c ≠ 0) (he : Wb.ends m t n c) (hl : circle m t n c = []) : Iw (Wb.waited m t c) := by
  have hlc : (Wb.waited m t c).ls (128 + c) = m.ls (128 + c) ++ [(t : Int)] := upd_same _ _ _
  have hls : ∀ i, i ≠ 128 + c → (Wb.waited m t c).ls i = m.ls i := fun i hi => upd_other _ _ hi
  have hwt : (Wb.waited m t c).wai t = (c : Int) + 1 := upd_same _ _ _
  have hws : ∀ s, s ≠ t → (Wb.waited m t c).wai s = m.wai s := fun s hs => upd_other _ _ hs
  have hnt : ∀ d, d < 256 → ¬ (t : Int) ∈ m.ls (128 + d) := fun d hd k => by
    obtain ⟨y, _, e, h3⟩ := h.que d hd _ k
    have : y = t := by omega
    subst this; omega
  refine ⟨h.wf.waited hc, fun s hs x hx => ?_, fun s hs => ?_, fun d hd x hx => ?_, fun d hd => ?_, fun s d hs e => ?_, fun s d hs e => ?_, ?_⟩
  · rw [hls s (by omega)] at hx; exact h.stk s hs x hx
  · rw [hls s (by omega)]; exact h.snd s hs
  · by_cases e : d = c
    · subst e
      rw [hlc, List.mem_append, List.mem_singleton] at hx
      rcases hx with hx | rfl
      · obtain ⟨y, h1, h2, h3⟩ := h.que d hd x hx
        exact ⟨y, h1, h2, by rw [hws y (fun e => by subst e; omega)]; exact h3⟩
      · exact ⟨t, ht, rfl, hwt⟩
    · rw [hls _ (by omega)] at hx
      obtain ⟨y, h1, h2, h3⟩ := h.que d hd x hx
      exact ⟨y, h1, h2, by rw [hws y (fun e => by subst e; omega)]; exact h3⟩
  · by_cases e : d = c
    · subst e
      rw [hlc, List.nodup_append]
      refine ⟨h.qnd d hd, by simp, fun a ha b hb e => ?_⟩
      obtain rfl : b = (t : Int) := by simpa using hb
      subst e; exact hnt d hd ha
    · rw [hls _ (by omega)]; exact h.qnd d hd
  · by_cases e2 : s = t
    · subst e2
      have : d = c := by omega
      subst this
      rw [hlc]; simp
    · rw [hws s e2] at e
      have k := h.inq s d hs e
      by_cases e3 : d = c
      · subst e3; rw [hlc]; exact List.mem_append_left _ k
      · rw [hls _ (by omega)]; exact k
  · by_cases e2 : s = t
    · subst e2
      have : d = c := by omega
      subst this; exact hr
    · rw [hws s e2] at e; exact h.runs s d hs e
  · obtain ⟨rk, hrk⟩ := h.rank
    rcases h.wf.run c hc with h0 | ⟨r0, hr1, hr2, hm⟩
    · exact absurd h0 hr
    · have hno := h.free_way hc he hl hr2
      refine ⟨fun x => open Classical in if Rch m x t then rk x + rk r0 + 1 else rk x, fun s d r hs e k => ?_⟩
      have k' : m.run d = (r : Int) + 1 := k
      by_cases e2 : s = t
      · subst e2
        have : d = c := by omega
        subst this
        have : r = r0 := by omega
        subst this
        simp only
        rw [if_neg hno, if_pos (Rch.refl _)]
        omega
      · rw [hws s e2] at e
        have hlt := hrk s d r hs e k'
        simp only
        by_cases h5 : Rch m r t
        · rw [if_pos h5, if_pos (Rch.step s d r t hs e k' h5)]; omega
        · rw [if_neg h5]
          split <;> omega

def woken (m : Web) (t c : Nat) : Web := { m with ls := upd m.ls (128 + c) ((m.ls (128 + c)).filter (fun x => x ≠ (t : Int))), wai := upd m.wai t 0 }
theorem Iw.woken {t c : Nat} (ht : t < 128) (hc : c < 256) (hw : m.wai t = (c : Int) + 1) : Iw (Wb.woken m t c) := by
  have hlc : (Wb.woken m t c).ls (128 + c) = (m.ls (128 + c)).filter (fun x => x ≠ (t : Int)) := upd_same _ _ _
  have hls : ∀ i, i ≠ 128 + c → (Wb.woken m t c).ls i = m.ls i := fun i hi => upd_other _ _ hi
  have hwt : (Wb.woken m t c).wai t = 0 := upd_same _ _ _
  have hws : ∀ s, s ≠ t → (Wb.woken m t c).wai s = m.wai s := fun s hs => upd_other _ _ hs
  have hwp : ∀ s d : Nat, (Wb.woken m t c).wai s = (d : Int) + 1 → s ≠ t ∧ m.wai s = (d : Int) + 1 := fun s d e => by
    by_cases e2 : s = t
    · subst e2; rw [hwt] at e; omega
    · rw [hws s e2] at e; exact ⟨e2, e⟩
  refine ⟨⟨fun d hd => ?_, fun s hs => ?_, fun s hs => ?_⟩, fun s hs x hx => ?_, fun s hs => ?_, fun d hd x hx => ?_, fun d hd => ?_, fun s d hs e => ?_, fun s d hs e => ?_, ?_⟩
  · rcases h.wf.run d hd with h0 | ⟨r, h1, h2, h3⟩
    · exact Or.inl h0
    · exact Or.inr ⟨r, h1, h2, by rw [hls r (by omega)]; exact h3⟩
  · by_cases e : s = t
    · subst e; exact Or.inl hwt
    · rw [hws s e]; exact h.wf.wai s hs
  · rw [hls s (by omega)]; exact h.wf.len s hs
  · rw [hls s (by omega)] at hx; exact h.stk s hs x hx
  · rw [hls s (by omega)]; exact h.snd s hs
  · by_cases e : d = c
    · subst e
      rw [hlc, List.mem_filter] at hx
      obtain ⟨y, h1, h2, h3⟩ := h.que d hd x hx.1
      have h4 : x ≠ (t : Int) := by simpa using hx.2
      exact ⟨y, h1, h2, by rw [hws y (fun e => by subst e; exact h4 h2)]; exact h3⟩
    · rw [hls _ (by omega)] at hx
      obtain ⟨y, h1, h2, h3⟩ := h.que d hd x hx
      exact ⟨y, h1, h2, by rw [hws y (fun e2 => by subst e2; omega)]; exact h3⟩
  · by_cases e : d = c
    · subst e; rw [hlc]; exact (h.qnd d hd).filter _
    · rw [hls _ (by omega)]; exact h.qnd d hd
  · obtain ⟨e1, e2⟩ := hwp s d e
    have k := h.inq s d hs e2
    by_cases e3 : d = c
    · subst e3
      rw [hlc, List.mem_filter]
      exact ⟨k, by simpa using (fun e => e1 (by omega))⟩
    · rw [hls _ (by omega)]; exact k
  · exact h.runs s d hs (hwp s d e).2
  · obtain ⟨rk, hrk⟩ := h.rank
    exact ⟨rk, fun s d r hs e k => hrk s d r hs (hwp s d e).2 k⟩
end
end Go.Proofs.Ytohkobfamofkgaa.Wb
