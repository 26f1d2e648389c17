/- A circle that is told leads from each to the next one; where none is told, one comes to an end: the walk of DependRound. -/
import Derived.Test.YtohkobfamofkgaaWlCircles
namespace Go.Proofs.Ytohkobfamofkgaa
open Go.RowKit Go.Maps Go.Proofs.Ytohkobfamofkgaa Go.Proofs.Ytohkobfamofkgaa.Wb Go.Proofs.Ytohkobfamofkgaa.PDependCircles Go.Proofs.YtohkobfamofkgaaW.PrintWords Go.Proofs.YtohkobfamofkgaaW.PrintLast Go.Proofs.YtohkobfamofkgaaW.PrintMore

/-- What is told of a circle. -/
structure Cy.Ring (of L : List Int) : Prop where
  len : L.length ≤ 4096
  least : ∀ j : Int, 0 ≤ j → j < L.length → rd L 0 ≤ rd L j
  range : ∀ j : Int, 0 ≤ j → j < L.length → 0 ≤ rd L j ∧ rd L j < of.length
  next : ∀ j : Int, 0 ≤ j → j < L.length → rd of (rd L j) = rd L ((j + 1) % L.length)
theorem Cy.orb_at (of : List Int) (p : Nat) (m : Int) (j : Int) (h0 : 0 ≤ j) (h1 : j < p) : rd (Cy.orb of p m) j = Cy.it of j.toNat m := by
  unfold rd Cy.orb
  rw [List.getD_eq_getElem?_getD, List.getElem?_map, List.getElem?_range (by omega)]; rfl
theorem Cy.ring {of L : List Int} {e : Int} (h : Cy.Says of L e) (hl : L ≠ []) : Cy.Ring of L := by
  rcases h with ⟨_, rfl, _⟩ | ⟨_, _, rfl, _⟩ | ⟨h1, hg, _, h2⟩
  · exact absurd rfl hl
  · exact absurd rfl hl
  · cases h2 with
    | none _ => exact absurd rfl hl
    | some m p hc hle hp hp2 e hmin =>
      have hlen := Cy.orb_length (of := of) p m
      refine ⟨by rw [hlen]; omega, fun j h0 hj => ?_, fun j h0 hj => ?_, fun j h0 hj => ?_⟩
      · rw [hlen] at hj
        rw [Cy.orb_at of p m 0 (by omega) (by omega), Cy.orb_at of p m j h0 hj]
        exact hle _ (Cy.cyc_it hg hc _)
      · rw [hlen] at hj
        rw [Cy.orb_at of p m j h0 hj]
        have := Cy.cyc_it hg hc j.toNat
        exact ⟨this.1, this.2.1⟩
      · rw [hlen] at hj ⊢
        have hb := Int.emod_nonneg (j + 1) (show (p : Int) ≠ 0 by omega)
        have hb2 := Int.emod_lt_of_pos (j + 1) (show (0 : Int) < p by omega)
        rw [Cy.orb_at of p m j h0 hj, Cy.orb_at of p m _ hb hb2, ← Cy.nx_pos (Cy.cyc_pos hc j.toNat), ← Cy.it_succ]
        by_cases e2 : j + 1 = p
        · rw [e2, Int.emod_self, show j.toNat + 1 = p by omega, e]; rfl
        · rw [Int.emod_eq_of_lt (by omega) (by omega), show (j + 1).toNat = j.toNat + 1 by omega]
/-- Where none is told, from everywhere one comes to an end. -/
structure Cy.Flat (of : List Int) : Prop where
  good : Cy.Good of
  off : ∀ x : Int, 0 ≤ x → x < of.length → Cy.it of of.length x < 0
theorem Cy.flat {of L : List Int} (h : Cy.Says of L 0) (hl : L = []) : Cy.Flat of := by
  rcases h with ⟨_, _, h⟩ | ⟨_, _, _, h⟩ | ⟨h1, hg, _, h2⟩
  · omega
  · omega
  · subst hl
    refine ⟨hg, fun x h0 hx => ?_⟩
    rcases Int.lt_or_le (Cy.it of of.length x) 0 with h3 | h3
    · exact h3
    · obtain ⟨y, hy⟩ := Cy.cyc_of_long hg h0 hx h3
      generalize hq : ([] : List Int) = L at h2
      cases h2 with
      | none hn => exact absurd hy (hn y)
      | some m p _ _ hp =>
        have := congrArg List.length hq
        rw [Cy.orb_length] at this
        simp at this; omega
theorem Cy.says_err {of L : List Int} {e : Int} (h : Cy.Says of L e) (he : e ≠ 0) : L = [] := by
  rcases h with ⟨_, h, _⟩ | ⟨_, _, h, _⟩ | ⟨_, _, h, _⟩
  · exact h
  · exact h
  · exact absurd h he

/-- How a list that is read lies. -/
theorem IntsAt.cell {w : World} {A : Option Addr} {l : List Int} {n c : Nat} (h : IntsAt w (.slice A n c) l) (hl : l ≠ []) : ∃ ad, A = some ad ∧ n = l.length ∧ l.length ≤ c := by
  obtain ⟨A', c', e, hc, hC⟩ := h
  injection e with e1 e2 e3
  subst e1; subst e2; subst e3
  obtain ⟨ad, e, _⟩ := hC.2.2 (by cases l with | nil => exact absurd rfl hl | cons x l => simp)
  exact ⟨ad, e, rfl, hc⟩
theorem IntsAt.at_ {w : World} {ad : Addr} {l : List Int} {n c : Nat} (h : IntsAt w (.slice (some ad) n c) l) (j : Int) (h0 : 0 ≤ j) (h1 : j < l.length) : w.cell? (ad.add j.toNat) = some (.int .i64 (rd l j)) := by
  obtain ⟨A', c', e, hc, hC⟩ := h
  injection e with e1 e2 e3
  subst e1
  obtain ⟨ad', e, hx⟩ := Kd.at_int hC j h0 h1
  cases e
  exact hx

/-- What stands behind the call of Circle. -/
structure Beh (w0 w : World) (v : Value) (l : List Int) (u : Value) (L : List Int) : Prop where
  a : IntsAt w v l
  b : IntsAt w u L
  bel : Below w0.heap.size w0 w

theorem Beh.drewN {w0 w : World} {v u : Value} {l L : List Int} (h : Beh w0 w v l u L) (n : Nat) : Beh w0 (w.drewN n) v l u L :=
  ⟨h.a.below (below_drewN (Below.refl _ _) n), h.b.below (below_drewN (Below.refl _ _) n), below_drewN h.bel n⟩

set_option maxHeartbeats 2000000 in
set_option maxRecDepth 100000 in
theorem walk_round_some (ad : Addr) (l : List Int) (c : Nat) (w : World) (hl : l.length ≤ c) (hC : Kd.C (Kd.int .i64) w (some ad) l.length l) (hb : l.length * 8 ≤ 140737488351232) :
    Calls Try.prog 4 #[.slice (some ad) l.length c] w fun e w' => e = .returned (.bool true) ∧ Below w.heap.size w w' := by
  have HS := Lib.hid (show IntsAt w (.slice (some ad) l.length c) l from ⟨some ad, c, rfl, hl, hC⟩)
  have HLn := Lib.hid hb
  obtain ⟨i0, hi, hz0, hz1, hz2⟩ := info_parts Wb.info3
  have HI := Lib.hid (And.intro hi (And.intro hz0 (And.intro hz1 hz2)))
  clear hi hz0 hz1 hz2 hb hC hl
  go_enter Try.func4, Try.ntmps4
  go_wp2_with fail
  refine (works_true w).mono ?_
  rintro _ w1 ⟨rfl, hb1⟩
  have HB1 := Lib.hid hb1
  clear hb1
  have HO := Lib.hid (show (w1.alloc (.cells #[] 3)).ownsRow w1.heap.size 3 1 (.slice (some ⟨w1.heap.size, 0, none⟩) 0 0) 0 [] from ⟨rfl, Or.inr ⟨w1.heap.size, 0, #[], rfl, Nat.le_refl _, blk_new w1 _, Nat.le_refl _, Nat.zero_le _, rfl, rfl⟩⟩)
  have HC := Lib.hid (show Kd.C (Kd.int .i64) (w1.alloc (.cells #[] 3)) (some ad) l.length l from by
    obtain ⟨A', c', e, hc, hC⟩ := (HS.out.below HB1.out).below ((Below.refl w1.heap.size w1).alloc (Nat.le_refl _) (.cells #[] 3))
    injection e with e1 e2 e3
    subst e1; exact hC)
  have HN := Lib.hid (show 0 + l.length ≤ maxLen ∧ (0 + l.length) * 8 ≤ 140737488355328 ∧ w1.heap.size ≤ (w1.alloc (.cells #[] 3)).heap.size from ⟨by have := HLn.out; unfold maxLen; omega, by have := HLn.out; omega, by rw [World.size_alloc]; exact Nat.le_succ _⟩)
  go_wp2_with (at_builtin; refine wpList_append_own_at _ rfl _ _ 22 rfl w1.heap.size 3 i0 (.int .i64 0) 1 8 Try.underlying22 HI.out.1 HI.out.2.1 HI.out.2.2.1 HI.out.2.2.2 rfl (by decide) (.slice (some ⟨w1.heap.size, 0, none⟩) 0 0) 0 [] rfl HO.out ad l.length c (l.map (Value.int .i64)) rfl (news_in HC.out).1 (news_in HC.out).2.1 (news_in HC.out).2.2 HN.out.1 HN.out.2.1 HN.out.2.2 ?_; intro v' w2 hown hgrow hnil hloc; have HR := Lib.hid (show Row w1.heap.size w2 v' l from (by have e := hown; rw [Nat.zero_add, List.nil_append] at e; exact e)); have HB := Lib.hid (show Below w1.heap.size w1 w2 from ((Below.refl w1.heap.size w1).alloc (Nat.le_refl _) _).grown hgrow (by rw [World.size_alloc]; exact Nat.le_succ _) (fun k hk => Nat.le_of_eq (Option.some.inj hk))); clear hown hgrow hnil hloc)
  obtain ⟨L, e, HSy, HC1⟩ := dep_call w2 v' l (Lib.hid (IntsAt.of_row HR.out))
  refine HC1.mono ?_
  clear HC1
  rintro _ w3 ⟨u, rfl, HU, HB3⟩
  have HBe := Lib.hid (show Beh w w3 (.slice (some ad) l.length c) l u L from ⟨((HS.out.below HB1.out).below HB.out).below HB3.out, HU.out, bt (bt HB1.out HB.out) HB3.out⟩)
  clear HU HB3 HB1 HB HR HS HO HC HN HI
  obtain ⟨A, c2, hu, _, _⟩ := HBe.out.b
  subst hu
  by_cases he : e = 0
  · subst he
    by_cases hL : L = []
    · have HFl := Lib.hid (Cy.flat HSy.out hL)
      subst hL
      clear HSy
      go_wp2_with fail
      go_loopw [69] (fun i wr => ∃ j : Int, i = .int .i64 j ∧ 0 ≤ j ∧ j ≤ l.length ∧ Hid (Beh w wr (.slice (some ad) l.length c) l (.slice A ([] : List Int).length c2) [])) (fun i _ => (l.length - intOf i).toNat)
      case atStart => exact ⟨0, rfl, by omega, by omega, HBe⟩
      case round =>
        obtain ⟨j, rfl, h0, h1, HY⟩ := hrel
        clear HBe
        by_cases hj : j < l.length
        · go_wp2_with fail
          go_loopw [7, 8] (fun k n wr => ∃ q : Nat, n = .int .i64 q ∧ k = .int .i64 (Cy.it l q j) ∧ q ≤ l.length + 1 ∧ Hid (Beh w wr (.slice (some ad) l.length c) l (.slice A ([] : List Int).length c2) [])) (fun _ n _ => (l.length + 1 - intOf n).toNat)
          case atStart => exact ⟨0, rfl, rfl, by omega, HY⟩
          case round =>
            obtain ⟨q, rfl, rfl, hq, HZ⟩ := hrel
            clear HY
            have hr := Cy.it_range HFl.out.good h0 hj q
            have hoff := HFl.out.off j h0 hj
            have HX := Lib.hid (show Cy.it l (q + 1) j = Cy.nx l (Cy.it l q j) from rfl)
            have hback : 0 ≤ Cy.it l q j → q ≤ l.length := fun h => by
              rcases Nat.lt_or_ge l.length q with k | k
              · have := Cy.it_back (of := l) (x := j) (Nat.le_of_lt k) h; omega
              · exact k
            have HB := Lib.hid hback
            clear hback hoff
            generalize Cy.it l q j = x at *
            by_cases hx : 0 ≤ x
            · have hq2 : (q : Int) ≤ l.length := by have := HB.out hx; omega
              have q0 := HZ.out.a.at_ x hx hr.1
              have hx1 := hr.1
              have hw : IntKind.i64.wrap ((q : Int) + 1) = q + 1 := IntWalk.i64_in _ (by have := HLn.out; omega)
              clear hr
              go_wp2_with fail
              go_roundw
              case measure => simp [intOf]; omega
              case rel => exact ⟨q + 1, by rfl, by rw [HX.out, Cy.nx_pos hx], by omega, HZ⟩
            · have hx' : x < 0 := by omega
              have hw : IntKind.i64.wrap (j + 1) = j + 1 := IntWalk.i64_in _ (by have := HLn.out; omega)
              by_cases hq2 : (q : Int) ≤ l.length
              · go_wp2_with fail
                go_roundw
                case measure => simp [intOf]; omega
                case rel => exact ⟨j + 1, rfl, by omega, by omega, HZ⟩
              · go_wp2_with fail
                go_roundw
                case measure => simp [intOf]; omega
                case rel => exact ⟨j + 1, rfl, by omega, by omega, HZ⟩
        · go_wp2_with fail
          go_ret
          exact ⟨rfl, HY.out.bel⟩
    · have HRi := Lib.hid (Cy.ring HSy.out hL)
      obtain ⟨ad2, e2, _, _⟩ := HBe.out.b.cell hL
      subst e2
      have hlen : (0 : Int) < L.length := by cases L with | nil => exact absurd rfl hL | cons x l => simp
      have hlen2 : 0 < L.length := by omega
      clear hL HSy
      go_wp2_with fail
      go_loopg [28] L.length (fun gk i wr => ∃ j : Int, i = .int .i64 j ∧ 0 ≤ j ∧ j + gk = L.length ∧ Hid (Beh w wr (.slice (some ad) l.length c) l (.slice (some ad2) L.length c2) L))
      case atStart => exact ⟨0, rfl, by omega, by omega, HBe⟩
      case round =>
        obtain ⟨j, rfl, h0, h1, HY⟩ := hrel
        clear HBe
        by_cases hj : j < L.length
        · have q0 := HY.out.b.at_ j h0 hj
          have q1 := HY.out.b.at_ 0 (by omega) hlen
          have e0 : ad2.add (0 : Int).toNat = ad2 := by show ad2.add 0 = ad2; unfold Addr.add; rw [if_pos rfl]
          rw [e0] at q1
          clear e0
          obtain ⟨r0, r1⟩ := HRi.out.range j h0 hj
          have r2 := HRi.out.least j h0 hj
          have q2 := HY.out.a.at_ (rd L j) r0 r1
          have hm0 := Int.emod_nonneg (j + 1) (show (L.length : Int) ≠ 0 by omega)
          have hm1 := Int.emod_lt_of_pos (j + 1) hlen
          have q3 := HY.out.b.at_ ((j + 1) % L.length) hm0 hm1
          rw [HRi.out.next j h0 hj] at q2
          have r3 : ¬ (rd L j < rd L 0) := by omega
          have r4 : ¬ ((l.length : Int) ≤ rd L j) := by omega
          have hw : IntKind.i64.wrap (j + 1) = j + 1 := IntWalk.i64_in _ (by have := HRi.out.len; omega)
          have ht : IntKind.i64.wrap ((j + 1).tmod L.length) = (j + 1) % L.length := by rw [Int.tmod_eq_emod_of_nonneg (by omega)]; exact IntWalk.i64_in _ (by have := HRi.out.len; omega)
          go_wp2_with fail
          have hz1 : ((L.length : Int) == 0) = false := by simpa using (by omega : ¬ (L.length : Int) = 0)
          have hz2 : ¬ (L = []) := fun e => by rw [e] at hlen; simp at hlen
          have ht2 : (j + 1).tmod L.length = (j + 1) % L.length := Int.tmod_eq_emod_of_nonneg (by omega)
          go_quiet (fail)
          clear q0 q1 q2 q3
          go_wp2_with fail
          go_roundg (gk - 1)
          case measure => omega
          case rel => exact ⟨j + 1, rfl, by omega, by omega, Lib.hid (HY.out.drewN _)⟩
        · have hj' : ¬ (j < L.length) := hj
          go_wp2_with fail
          go_ret
          exact ⟨rfl, HY.out.bel⟩
  · have h0 := Cy.says_err HSy.out he
    subst h0
    have hb1 : (e != 0) = true := by simpa using he
    go_wp2_with fail
    go_ret
    exact ⟨rfl, HBe.out.bel⟩

theorem Cy.says_nil {L : List Int} {e : Int} (h : Cy.Says [] L e) : L = [] ∧ e = 0 := by
  have hg : Cy.Good [] := fun j h0 h1 => by simp at h1; omega
  rcases h with ⟨h1, _⟩ | ⟨_, h2, _⟩ | ⟨_, _, he, h3⟩
  · simp at h1
  · exact absurd hg h2
  · refine ⟨?_, he⟩
    cases h3 with
    | none _ => rfl
    | some m p hc => have h1 := hc.1; have h2 := hc.2.1; simp at h2; omega

set_option maxHeartbeats 2000000 in
set_option maxRecDepth 100000 in
theorem walk_round_none (c : Nat) (w : World) :
    Calls Try.prog 4 #[.slice none 0 c] w fun e w' => e = .returned (.bool true) ∧ Below w.heap.size w w' := by
  go_enter Try.func4, Try.ntmps4
  go_wp2_with fail
  refine (works_true w).mono ?_
  rintro _ w1 ⟨rfl, hb1⟩
  have HB1 := Lib.hid hb1
  clear hb1
  have HR := Lib.hid (show Row w1.heap.size (w1.alloc (.cells #[] 3)) (.slice (some ⟨w1.heap.size, 0, none⟩) 0 0) [] from ⟨rfl, Or.inr ⟨w1.heap.size, 0, #[], rfl, Nat.le_refl _, blk_new w1 _, Nat.le_refl _, Nat.zero_le _, rfl, rfl⟩⟩)
  have HB := Lib.hid ((Below.refl w1.heap.size w1).alloc (Nat.le_refl _) (.cells #[] 3))
  go_wp2_with fail
  obtain ⟨L, e, HSy, HC1⟩ := dep_call _ _ [] (Lib.hid (IntsAt.of_row HR.out))
  obtain ⟨rfl, rfl⟩ := Cy.says_nil HSy.out
  refine HC1.mono ?_
  clear HC1
  rintro _ w3 ⟨u, rfl, HU, HB3⟩
  obtain ⟨A, c2, hu, _, _⟩ := HU.out
  subst hu
  have HE := Lib.hid (bt (bt HB1.out HB.out) HB3.out)
  clear HU HB3 HB HB1 HR
  go_wp2_with fail
  go_loopw [69] (fun i wr => i = .int .i64 0 ∧ wr = w3) (fun _ _ => 0)
  case atStart => exact ⟨rfl, rfl⟩
  case round =>
    obtain ⟨rfl, rfl⟩ := hrel
    go_wp2_with fail
    go_ret
    exact ⟨rfl, HE.out⟩

theorem walk_round (A : Option Addr) (l : List Int) (c : Nat) (w : World) (hl : l.length ≤ c) (hC : Kd.C (Kd.int .i64) w A l.length l) (hb : l.length * 8 ≤ 140737488351232) :
    Calls Try.prog 4 #[.slice A l.length c] w fun e w' => e = .returned (.bool true) ∧ Below w.heap.size w w' := by
  cases A with
  | none =>
    obtain rfl : l = [] := by
      cases l with
      | nil => rfl
      | cons x l =>
        obtain ⟨ad, e, _⟩ := hC.2.2 (by simp)
        exact absurd e (by simp)
    exact walk_round_none c w
  | some ad => exact walk_round_some ad l c w hl hC hb
end Go.Proofs.Ytohkobfamofkgaa
