/- leads: where a cell leads to another one, it says so. -/
import Derived.Test.YtohkobfamofkgaaTl
namespace Go.Proofs.Ytohkobfamofkgaa
open Go.RowKit Go.Maps Go.Proofs.Ytohkobfamofkgaa Go.Proofs.Ytohkobfamofkgaa.Wb Go.Proofs.YtohkobfamofkgaaW.PrintWords Go.Proofs.YtohkobfamofkgaaW.PrintLast Go.Proofs.YtohkobfamofkgaaW.PrintMore

theorem add_pos_ (ad : Addr) (n : Nat) (h : 0 < n) : ad.add n = ⟨ad.block, ad.off + n, none⟩ := by
  unfold Addr.add
  rw [if_neg (by omega)]
theorem IntsAt.head_ {w : World} {A : Option Addr} {l : List Int} {n c : Nat} (h : IntsAt w (.slice A n c) l) (hl : 0 < l.length) : ∃ ad, A = some ad := by
  obtain ⟨A', c', e, hc, hC⟩ := h
  injection e with e1 e2 e3
  subst e1
  obtain ⟨ad, e, _⟩ := hC.2.2 (by omega)
  exact ⟨ad, e⟩
theorem IntsAt.cell_ {w : World} {ad : Addr} {l : List Int} {n c : Nat} (h : IntsAt w (.slice (some ad) n c) l) (j : Int) (h0 : 0 ≤ j) (h1 : j < l.length) : w.cell? (ad.add j.toNat) = some (.int .i64 (rd l j)) := by
  obtain ⟨A', c', e, hc, hC⟩ := h
  injection e with e1 e2 e3
  subst e1
  obtain ⟨ad', e, hx⟩ := Kd.at_int hC j h0 h1
  cases e
  exact hx
theorem nodup_ne {l : List Int} (hn : l.Nodup) {p j : Nat} {a : Int} (hp : l[p]? = some a) (hj : j < l.length) (hne : j ≠ p) : rd l (j : Int) ≠ a := by
  intro e
  have h1 := rd_at l (j : Int) (by omega) (by omega)
  rw [Int.toNat_natCast, e] at h1
  have hpl : p < l.length := by
    rcases Nat.lt_or_ge p l.length with k | k
    · exact k
    · rw [List.getElem?_eq_none k] at hp; exact absurd hp (by simp)
  exact hne ((List.getElem?_inj hj hn).1 (h1.trans hp.symm))

set_option maxHeartbeats 2000000 in
set_option maxRecDepth 100000 in
theorem leads_k {w0 w : World} {b : Nat} {m : Web} {vs : List (Value × List Int)} (x y : Int) (hd : Hid (Lead m x y)) (h : Hid (Kept w0 w b m vs)) :
    Calls Try.prog 27 #[.pointer (some ⟨b, 0, none⟩), .int .i64 x, .int .i64 y] w fun e w' => e = .returned (.bool true) ∧ Hid (Kept w0 w' b m vs) ∧ Hid (Below w.heap.size w w') := by
  obtain ⟨a, r, p, rfl, ha, hr, k1, k2, k3⟩ := hd.out
  have hb3 : ((r : Int) + 1 != 0) = true := by simpa using (by omega : ¬ (r : Int) + 1 = 0)
  have hp : p < (m.ls r).length := by
    rcases Nat.lt_or_ge p (m.ls r).length with k | k
    · exact k
    · rw [List.getElem?_eq_none k] at k2; exact absurd k2 (by simp)
  have hlen := h.out.iw.wf.len r hr
  have HK := Lib.hid (And.intro k2 k3)
  have HE := Lib.hid hb3
  clear k2 k3 hd hb3
  go_enter Try.func27, Try.ntmps27
  go_wp2_with (go_at_call 19; refine (runner_k a ha h).mono ?_; rintro _ w3 ⟨rfl, rfl⟩; rw [k1, if_neg (by omega), show (r : Int) + 1 - 1 = r by omega, HE.out])
  obtain ⟨V, h1, _⟩ := h.out.web
  refine (stack_ok _ w b V m r hr h1 (by omega)).mono ?_
  clear h1
  rintro _ w4 ⟨v4, rfl, hrow, hbel⟩
  obtain ⟨A, cap, rfl⟩ := hrow.shape
  have H4 := Lib.hid (And.intro (h.out.to hbel) (And.intro hbel (IntsAt.of_row hrow)))
  clear hrow hbel
  obtain ⟨ad, rfl⟩ := H4.out.2.2.head_ (by omega)
  have HN := Lib.hid (h.out.iw.snd r hr)
  clear h
  generalize m.ls r = s at *
  go_wp2_with fail
  go_loopw [36] (fun i wr => ∃ j : Nat, i = .int .i64 j ∧ (j ≤ p ∨ (j = p + 1 ∧ p + 1 = s.length)) ∧ wr = w4) (fun i _ => (s.length + 1 - intOf i).toNat)
  case atStart => exact ⟨0, rfl, by omega, rfl⟩
  case round =>
    obtain ⟨j, rfl, hj, rfl⟩ := hrel
    have hw : IntKind.i64.wrap ((j : Int) + 1) = ((j + 1 : Nat) : Int) := by rw [IntWalk.i64_in _ (by omega)]; omega
    have hw2 : IntKind.i64.wrap ((j : Int) + 1) = (j : Int) + 1 := by rw [IntWalk.i64_in _ (by omega)]
    by_cases hjl : j < s.length
    · have q0 := H4.out.2.2.cell_ (j : Int) (by omega) (by omega)
      rw [Int.toNat_natCast] at q0
      have hj2 : (j : Int) < s.length := by omega
      by_cases hjp : j = p
      · subst hjp
        rw [rd_some HK.out.1] at q0
        rcases HK.out.2 with k | ⟨k, d, hd, rfl, k4⟩
        · have hjl2 : j + 1 < s.length := by
            rcases Nat.lt_or_ge (j + 1) s.length with k5 | k5
            · exact k5
            · rw [List.getElem?_eq_none k5] at k; exact absurd k (by simp)
          have hj3 : (j : Int) + 1 < s.length := by omega
          have q1 := H4.out.2.2.cell_ ((j + 1 : Nat) : Int) (by omega) (by omega)
          rw [Int.toNat_natCast, rd_some k, add_pos_ ad (j + 1) (by omega)] at q1
          clear k hj
          go_wp2_with fail
          go_ret
          exact ⟨rfl, Lib.hid H4.out.1, Lib.hid H4.out.2.1⟩
        · have hj3 : ¬ ((j : Int) + 1 < s.length) := by omega
          have HJ := Lib.hid k
          clear hj k
          go_wp2_with fail
          go_roundw
          case measure => have := HJ.out; simp [intOf]; omega
          case rel => exact ⟨j + 1, rfl, by have := HJ.out; omega, trivial⟩
      · have hne := nodup_ne HN.out HK.out.1 hjl hjp
        have hne2 : (rd s (j : Int) == (a : Int)) = false := by simpa using hne
        have hj4 : j + 1 ≤ p := by omega
        clear hne hj
        generalize rd s (j : Int) = z at *
        go_wp2_with fail
        go_roundw
        case measure => simp [intOf]; omega
        case rel => exact ⟨j + 1, rfl, by omega, trivial⟩
    · obtain rfl : j = s.length := by omega
      rcases HK.out.2 with k | ⟨k, d, hd, rfl, k4⟩
      · have : p + 1 < s.length := by
          rcases Nat.lt_or_ge (p + 1) s.length with k5 | k5
          · exact k5
          · rw [List.getElem?_eq_none k5] at k; exact absurd k (by simp)
        omega
      · have HX := Lib.hid k4
        have hb4 : ((d : Int) + 1 != 0) = true := by simpa using (by omega : ¬ (d : Int) + 1 = 0)
        have HE4 := Lib.hid hb4
        clear k4 hj hb4
        go_wp2_with (go_at_call 25; refine (waiting_k r hr (Lib.hid H4.out.1)).mono ?_; rintro _ w5 ⟨rfl, rfl⟩; rw [HX.out, if_neg (by omega), show (d : Int) + 1 - 1 = d by omega, HE4.out])
        go_ret
        exact ⟨rfl, Lib.hid H4.out.1, Lib.hid H4.out.2.1⟩
end Go.Proofs.Ytohkobfamofkgaa
