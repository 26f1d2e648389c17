/- The circle of any list: the walk of DependCircles. -/
import Derived.Test.YtohkobfamofkgaaIn
import Derived.Test.YtohkobfamofkgaaCd
namespace Go.Proofs.Ytohkobfamofkgaa
open Go.RowKit Go.Maps Go.Proofs.Ytohkobfamofkgaa Go.Proofs.Ytohkobfamofkgaa.Wb Go.Proofs.Ytohkobfamofkgaa.PDependCircles Go.Proofs.YtohkobfamofkgaaW.PrintWords Go.Proofs.YtohkobfamofkgaaW.PrintLast Go.Proofs.YtohkobfamofkgaaW.PrintMore

theorem dep_call (w : World) (v : Value) (l : List Int) (h : Hid (IntsAt w v l)) : ∃ L e, Hid (Cy.Says l L e) ∧ Calls Try.prog 9 #[v] w fun x w' => ∃ u, x = .returned (.tuple #[u, .int .i64 e]) ∧ Hid (IntsAt w' u L) ∧ Hid (Below w.heap.size w w') := by
  obtain ⟨A, c, rfl, hc, hC⟩ := h.out
  obtain ⟨k, L, e, h1, h2⟩ := Cy.dep_says l
  refine ⟨L, e, Lib.hid h2, (depend_Circle.calls k A c l L e w hC hc h1).mono ?_⟩
  rintro _ w' ⟨u, rfl, hr, hb⟩
  exact ⟨u, rfl, Lib.hid (IntsAt.of_R hr), Lib.hid hb⟩
theorem ref_call (w : World) (v : Value) (l : List Int) (h : Hid (IntsAt w v l)) : ∃ L e, Hid (Cy.Says l L e) ∧ Calls Try.prog 10 #[v] w fun x w' => ∃ u, x = .returned (.tuple #[u, .int .i64 e]) ∧ Hid (IntsAt w' u L) ∧ Hid (Below w.heap.size w w') := by
  obtain ⟨A, c, rfl, hc, hC⟩ := h.out
  obtain ⟨k, L, e, h1, h2⟩ := Cy.ref_says l
  refine ⟨L, e, Lib.hid h2, (oncewebref14_Circle.calls k A c l L e w hC hc h1).mono ?_⟩
  rintro _ w' ⟨u, rfl, hr, hb⟩
  exact ⟨u, rfl, Lib.hid (IntsAt.of_R hr), Lib.hid hb⟩
theorem says_few {l L : List Int} {e : Int} (h : Cy.Says l L e) : L.length < 4611686018427387904 := by
  rcases h with ⟨_, rfl, _⟩ | ⟨_, _, rfl, _⟩ | ⟨h1, _, _, h2⟩
  · simp
  · simp
  · cases h2 with
    | none _ => simp
    | some m p _ _ _ hp => rw [Cy.orb_length]; omega

theorem bt {a b c : World} (h : Below a.heap.size a b) (k : Below b.heap.size b c) : Below a.heap.size a c := h.trans ⟨k.os, k.tape, k.output, k.size, fun i hi => k.block i (Nat.lt_of_lt_of_le hi h.size)⟩

set_option maxHeartbeats 1000000 in
set_option maxRecDepth 100000 in
theorem walk_circles (A : Option Addr) (l : List Int) (c : Nat) (w : World) (hl : l.length ≤ c) (hC : Kd.C (Kd.int .i64) w A l.length l) (hb : l.length * 8 ≤ 140737488351232) :
    Calls Try.prog 3 #[.slice A l.length c] w fun e w' => e = .returned (.bool true) ∧ Below w.heap.size w w' := by
  have HS := Lib.hid (show IntsAt w (.slice A l.length c) l from ⟨A, c, rfl, hl, hC⟩)
  have HL := Lib.hid (show l.length < 4611686018427387904 by omega)
  obtain ⟨i0, hi, hz0, hz1, hz2⟩ := info_parts Wb.info3
  have HI := Lib.hid (And.intro hi (And.intro hz0 (And.intro hz1 hz2)))
  have HO := Lib.hid (show (w.alloc (.cells #[] 3)).ownsRow w.heap.size 3 1 (.slice (some ⟨w.heap.size, 0, none⟩) 0 0) 0 [] from ⟨rfl, Or.inr ⟨w.heap.size, 0, #[], rfl, Nat.le_refl _, blk_new w _, Nat.le_refl _, Nat.zero_le _, rfl, rfl⟩⟩)
  have HC := Lib.hid (Kd.C_below hC ((Below.refl w.heap.size w).alloc (Nat.le_refl _) (.cells #[] 3)))
  have HN := Lib.hid (show 0 + l.length ≤ maxLen ∧ (0 + l.length) * 8 ≤ 140737488355328 ∧ w.heap.size ≤ (w.alloc (.cells #[] 3)).heap.size from ⟨by unfold maxLen; omega, by omega, by rw [World.size_alloc]; exact Nat.le_succ _⟩)
  cases A with
  | none =>
    obtain rfl : l = [] := by
      cases l with
      | nil => rfl
      | cons x l =>
        obtain ⟨ad, e, _⟩ := hC.2.2 (by simp)
        exact absurd e (by simp)
    clear hi hz0 hz1 hz2 hb hC hl
    have HR := Lib.hid (show Row w.heap.size (w.alloc (.cells #[] 3)) (.slice (some ⟨w.heap.size, 0, none⟩) 0 0) [] from HO.out)
    have HB := Lib.hid ((Below.refl w.heap.size w).alloc (Nat.le_refl _) (.cells #[] 3))
    go_enter Try.func3, Try.ntmps3
    go_wp2_with fail
    obtain ⟨L1, e1, HS1, HC1⟩ := dep_call _ _ [] (Lib.hid (IntsAt.of_row HR.out))
    refine HC1.mono ?_
    clear HC1
    rintro _ w2 ⟨u1, rfl, HU1, HB1⟩
    go_wp2_with fail
    obtain ⟨L2, e2, HS2, HC2⟩ := ref_call w2 (.slice none 0 c) [] (Lib.hid ((HS.out.below HB.out).below HB1.out))
    refine HC2.mono ?_
    clear HC2
    rintro _ w3 ⟨u2, rfl, HU2, HB2⟩
    obtain ⟨rfl, rfl⟩ := Cy.says_same HS1.out HS2.out
    go_wp2_with fail
    refine (ints_eq w3 u1 u2 L1 (HU1.out.below HB2.out) HU2.out (says_few HS1.out)).mono ?_
    rintro _ w4 ⟨rfl, hb4⟩
    have HB4 := Lib.hid hb4
    clear hb4
    go_wp2_with fail
    refine (ints_eq w4 _ (.slice none 0 c) [] (((IntsAt.of_row HR.out).below HB1.out |>.below HB2.out).below HB4.out) ((((HS.out.below HB.out).below HB1.out).below HB2.out).below HB4.out) HL.out).mono ?_
    rintro _ w5 ⟨rfl, hb5⟩
    have HB5 := Lib.hid hb5
    clear hb5
    go_wp2_with fail
    refine (works_true w5).mono ?_
    rintro _ w6 ⟨rfl, hb6⟩
    have HB6 := Lib.hid hb6
    clear hb6
    go_wp2_with fail
    go_ret
    exact ⟨rfl, bt (bt (bt (bt (bt HB.out HB1.out) HB2.out) HB4.out) HB5.out) HB6.out⟩
  | some ad =>
    clear hi hz0 hz1 hz2 hb hC hl
    go_enter Try.func3, Try.ntmps3
    go_wp2_with (at_builtin; refine wpList_append_own_at _ rfl _ _ 22 rfl w.heap.size 3 i0 (.int .i64 0) 1 8 Try.underlying22 HI.out.1 HI.out.2.1 HI.out.2.2.1 HI.out.2.2.2 rfl (by decide) (.slice (some ⟨w.heap.size, 0, none⟩) 0 0) 0 [] rfl HO.out ad l.length c (l.map (Value.int .i64)) rfl (news_in HC.out).1 (news_in HC.out).2.1 (news_in HC.out).2.2 HN.out.1 HN.out.2.1 HN.out.2.2 ?_; intro v' w1 hown hgrow hnil hloc; have HR := Lib.hid (show Row w.heap.size w1 v' l from (by have e := hown; rw [Nat.zero_add, List.nil_append] at e; exact e)); have HB := Lib.hid (show Below w.heap.size w w1 from ((Below.refl w.heap.size w).alloc (Nat.le_refl _) _).grown hgrow (by rw [World.size_alloc]; exact Nat.le_succ _) (fun k hk => Nat.le_of_eq (Option.some.inj hk))); clear hown hgrow hnil hloc)
    obtain ⟨L1, e1, HS1, HC1⟩ := dep_call w1 v' l (Lib.hid (IntsAt.of_row HR.out))
    refine HC1.mono ?_
    clear HC1
    rintro _ w2 ⟨u1, rfl, HU1, HB1⟩
    go_wp2_with fail
    obtain ⟨L2, e2, HS2, HC2⟩ := ref_call w2 (.slice (some ad) l.length c) l (Lib.hid ((HS.out.below HB.out).below HB1.out))
    refine HC2.mono ?_
    clear HC2
    rintro _ w3 ⟨u2, rfl, HU2, HB2⟩
    obtain ⟨rfl, rfl⟩ := Cy.says_same HS1.out HS2.out
    go_wp2_with fail
    refine (ints_eq w3 u1 u2 L1 (HU1.out.below HB2.out) HU2.out (says_few HS1.out)).mono ?_
    rintro _ w4 ⟨rfl, hb4⟩
    have HB4 := Lib.hid hb4
    clear hb4
    go_wp2_with fail
    refine (ints_eq w4 v' (.slice (some ad) l.length c) l (((IntsAt.of_row HR.out).below HB1.out |>.below HB2.out).below HB4.out) ((((HS.out.below HB.out).below HB1.out).below HB2.out).below HB4.out) HL.out).mono ?_
    rintro _ w5 ⟨rfl, hb5⟩
    have HB5 := Lib.hid hb5
    clear hb5
    go_wp2_with fail
    refine (works_true w5).mono ?_
    rintro _ w6 ⟨rfl, hb6⟩
    have HB6 := Lib.hid hb6
    clear hb6
    go_wp2_with fail
    go_ret
    exact ⟨rfl, bt (bt (bt (bt (bt HB.out HB1.out) HB2.out) HB4.out) HB5.out) HB6.out⟩
end Go.Proofs.Ytohkobfamofkgaa
