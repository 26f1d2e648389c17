/- The least deadline of a token and of all that it hangs on: limits, walked. -/
import Derived.Test.YtdnkedifjaccoaaDoorLk
import Derived.Test.YtdnkedifjaccoaaDoorLm
namespace Go.Proofs.YtdnkedifjaccoaaDoor.Ce
open Go.RowKit Go.Maps Go.Proofs Go.Proofs.YtdnkedifjaccoaaDoor Go.Proofs.YtdnkedifjaccoaaDoorW.PrintWords Go.Proofs.YtdnkedifjaccoaaDoorW.PrintLast Go.Proofs.YtdnkedifjaccoaaDoorW.PrintMore PToken
set_option linter.unusedVariables false
set_option linter.unusedSimpArgs false
section
variable {X : Nat → Prop} {b : Nat} {T : Tree} {s : Sh}
/-- What a visit is asked: the tree, the map, and whom it holds. -/
structure SeeIn (X : Nat → Prop) (w : World) (b : Nat) (T : Tree) (s : Sh) (m : Nat) (S : List Nat) : Prop where
  tm : Tm X w b T s
  out : ¬ X m
  seen : Seen w m (S.map s.gg)
  lt : ∀ y ∈ S, y < T.toks.length
theorem SeeIn.toks {w : World} {m : Nat} {S : List Nat} (h : SeeIn X w b T s m S) : ∀ y ∈ S.map s.gg, IsTok w y := fun y hy => by
  obtain ⟨i, hi, rfl⟩ := List.mem_map.1 hy
  exact h.tm.isTok i (h.lt i hi)
theorem SeeIn.mem {w : World} {m x : Nat} {S : List Nat} (h : SeeIn X w b T s m S) (hx : x < T.toks.length) : s.gg x ∈ S.map s.gg ↔ x ∈ S := by
  constructor
  · intro hm
    obtain ⟨i, hi, he⟩ := List.mem_map.1 hm
    rw [← h.tm.gg_inj (h.lt i hi) hx he]; exact hi
  · exact fun hm => List.mem_map.2 ⟨x, hm, rfl⟩
theorem SeeIn.chg {w w' : World} {m : Nat} {S S' : List Nat} (h : SeeIn X w b T s m S) (c : Chg (fun k => k = m) w w') (hs : Seen w' m (S'.map s.gg)) (hl : ∀ y ∈ S', y < T.toks.length) : SeeIn X w' b T s m S' :=
  ⟨h.tm.chg c (fun i hi e => h.out (e ▸ hi)), h.out, hs, hl⟩
theorem Tm.par_at {w : World} (h : Tm X w b T s) {x : Nat} (hx : x < T.toks.length) {A : Option Addr} {n c : Nat} (hpv : s.pv x = .slice A n c) (j : Nat) (hj : j < (T.tk x).par.length) :
    ∃ g, A = some ⟨g, 0, none⟩ ∧ w.cell? ⟨g, j, none⟩ = some (.pointer (some ⟨s.gg ((T.tk x).par.getD j 0), 0, none⟩)) := by
  obtain ⟨A', c', h1, -, -, h2⟩ := (h.parB x hx).open
  rw [h1] at hpv
  injection hpv with e1 e2 e3
  subst e1
  obtain ⟨g, h3, h4, -⟩ := h2 j (by rw [List.length_map]; exact hj)
  refine ⟨g, h3, ?_⟩
  rw [h4, List.getD_eq_getElem?_getD, List.getD_eq_getElem?_getD, List.getElem?_map, List.getElem?_eq_getElem hj]
  rfl
set_option maxHeartbeats 4000000 in
set_option maxRecDepth 100000 in
theorem limits_is (W : Tree.WF T) (hp8 : ∀ i, i < T.toks.length → (T.tk i).par.length ≤ 8) (m : Nat) : ∀ (x : Nat), x < T.toks.length → ∀ (w : World) (S : List Nat) (m0 : Int), SeeIn X w b T s m S →
    Calls Tryd.prog 40 #[.pointer (some ⟨s.gg x, 0, none⟩), .map (some m), .int .i64 m0] w fun e w' => ∃ S' m', e = .returned (.int .i64 m') ∧ Tree.LimP T x S m0 S' m' ∧ SeeIn X w' b T s m S' ∧ Chg (fun k => k = m) w w' := by
  intro x
  induction x using Nat.strongRecOn with
  | _ x IH0 =>
  intro hx w S m0 h
  have IH := Lib.hid IH0
  have HI := Lib.hid h
  have hmem := h.mem hx
  have htok := h.tm.isTok x hx
  obtain ⟨-, c1, c2, -, -, -⟩ := h.tm.tcells x hx
  by_cases hin : x ∈ S
  · have HP := Lib.hid (Tree.LimP.seen (m := m0) hin h.lt)
    have HQ := Lib.hid (hmem.2 hin)
    have HTK := Lib.hid (And.intro htok h.toks)
    clear IH IH0 h hmem htok c1 c2 hin
    go_enter Tryd.func40, Tryd.ntmps40
    go_wp2_with (first | (at_lookup; refine wpList_seen HI.out.seen HTK.out.1 HTK.out.2 rfl _ _ rfl rfl rfl ?_; rw [if_pos HQ.out]) | fail)
    go_ret
    exact ⟨S, m0, rfl, HP.out, HI.out, Chg.refl _ _⟩
  · have HQ := Lib.hid (fun k => hin (hmem.1 k))
    have HTK := Lib.hid (And.intro htok h.toks)
    have HX := Lib.hid hx
    obtain ⟨d, hd⟩ : ∃ d, (T.tk x).dl = d := ⟨_, rfl⟩
    have HST := Lib.hid (Tree.LimI.start (m := m0) hx h.lt)
    rw [hd] at c2 HST
    obtain ⟨A, c, hpv, hlc, -, -⟩ := (h.tm.parB x hx).open
    rw [List.length_map] at hpv hlc
    obtain ⟨n, hn⟩ : ∃ n, n = (T.tk x).par.length := ⟨_, rfl⟩
    rw [← hn] at hpv hlc
    rw [hpv] at c1
    have HN := Lib.hid (And.intro hn (And.intro (show n ≤ 8 from hn ▸ hp8 x hx) hpv))
    clear IH0 h hmem htok hin hx hpv hlc hn
    have HD := Lib.hid hd
    clear hd c1 c2
    go_enter Tryd.func40, Tryd.ntmps40
    go_upto_region 4 with (first | (at_lookup; refine wpList_seen HI.out.seen HTK.out.1 HTK.out.2 rfl _ _ rfl rfl rfl ?_; rw [if_neg HQ.out]) | (at_mapUpdate; refine wpList_see HI.out.seen HTK.out.1 HTK.out.2 HQ.out rfl _ _ _ rfl rfl rfl rfl ?_; intro w1 hs1 hc1; have H1 := Lib.hid (And.intro (HI.out.chg (S' := S ++ [x]) hc1 (by rw [List.map_append]; exact hs1) (fun y hy => (List.mem_append.1 hy).elim (HI.out.lt y) (fun e => List.mem_singleton.1 e ▸ HX.out))) hc1); clear hs1 hc1) | fail)
    obtain ⟨-, c1, c2, -, -, -⟩ := H1.out.1.tm.tcells x HX.out
    rw [HD.out] at c2
    rw [HN.out.2.2] at c1
    have hcase : (0 ≤ d ∧ m0 < 0 ∧ Tree.least1 m0 d = d) ∨ (0 ≤ d ∧ ¬ m0 < 0 ∧ d < m0 ∧ Tree.least1 m0 d = d) ∨ (¬ 0 ≤ d ∧ Tree.least1 m0 d = m0) ∨ (0 ≤ d ∧ ¬ m0 < 0 ∧ ¬ d < m0 ∧ Tree.least1 m0 d = m0) := by
      unfold Tree.least1
      by_cases k0 : 0 ≤ d
      · by_cases k1 : m0 < 0
        · exact Or.inl ⟨k0, k1, if_pos ⟨k0, Or.inl k1⟩⟩
        · by_cases k2 : d < m0
          · exact Or.inr (Or.inl ⟨k0, k1, k2, if_pos ⟨k0, Or.inr k2⟩⟩)
          · exact Or.inr (Or.inr (Or.inr ⟨k0, k1, k2, if_neg (fun e => e.2.elim k1 k2)⟩))
      · exact Or.inr (Or.inr (Or.inl ⟨k0, if_neg (fun e => k0 e.1)⟩))
    rcases hcase with ⟨k0, k1, k3⟩ | ⟨k0, k1, k2, k3⟩ | ⟨k0, k3⟩ | ⟨k0, k1, k2, k3⟩
    all_goals
      rw [k3] at HST
      clear k3
      go_upto_region 7 with fail
      go_loopg [2, 44] n (fun gk v2 v44 wr => ∃ (j : Nat) (Sj : List Nat) (mj : Int), v2 = .int .i64 mj ∧ v44 = .int .i64 (j : Int) ∧ j ≤ n ∧ n ≤ j + gk ∧ Hid (Tree.LimI T x S m0 j Sj mj ∧ SeeIn X wr b T s m Sj ∧ Chg (fun k => k = m) w wr))
      case atStart => exact ⟨0, S ++ [x], _, rfl, rfl, Nat.zero_le _, by omega, Lib.hid ⟨HST.out, H1.out⟩⟩
      case round =>
        obtain ⟨j, Sj, mj, rfl, rfl, hj, hg, HS⟩ := hrel
        clear c1 c2
        by_cases hlt : j < n
        · have hltz : (j : Int) < (n : Int) := Int.ofNat_lt.2 hlt
          have hj0 : (0 : Int) ≤ (j : Int) := Int.natCast_nonneg j
          have hjl : j < (T.tk x).par.length := HN.out.1 ▸ hlt
          obtain ⟨g, rfl, hce⟩ := HS.out.2.1.tm.par_at HX.out HN.out.2.2 j hjl
          have HPM := Lib.hid (show (T.tk x).par.getD j 0 ∈ (T.tk x).par by rw [List.getD_eq_getElem?_getD, List.getElem?_eq_getElem hjl]; exact List.getElem_mem hjl)
          obtain ⟨p, hp⟩ : ∃ p, (T.tk x).par.getD j 0 = p := ⟨_, rfl⟩
          have HPE := Lib.hid hp
          rw [hp] at hce HPM
          have HPX := Lib.hid (W.par x HX.out p HPM.out)
          have HJL := Lib.hid hjl
          have HW := Lib.hid (wsucc j (by have := HN.out.2.1; omega))
          have HL := Lib.hid (And.intro (Nat.succ_le_of_lt hlt) (And.intro (show n - (j + 1) < gk by omega) (show n ≤ j + 1 + (n - (j + 1)) by omega)))
          clear hp hjl hj hg hlt
          go_wp2_with (first | (go_at_call 40; refine (IH.out p HPX.out (Nat.lt_trans HPX.out HX.out) _ Sj mj HS.out.2.1).mono ?_; rintro _ w2 ⟨S', m', rfl, hq⟩; have H2 := Lib.hid hq; clear hq) | fail)
          go_roundg (n - (j + 1))
          case measure => exact HL.out.2.1
          case rel => exact ⟨j + 1, S', m', rfl, (by first | exact congrArg _ HW.out | rfl), HL.out.1, HL.out.2.2, Lib.hid ⟨HS.out.1.step HJL.out (HPE.out.symm ▸ H2.out.1), H2.out.2.1, HS.out.2.2.trans H2.out.2.2⟩⟩
        · have hltz : ¬ (j : Int) < (n : Int) := fun e => hlt (Int.ofNat_lt.1 e)
          have HDN := Lib.hid (HS.out.1.done (by rw [← HN.out.1]; omega))
          clear hj hg hlt
          go_wp2_with fail
          go_ret
          exact ⟨Sj, mj, rfl, HDN.out, HS.out.2.1, HS.out.2.2⟩
end
end Go.Proofs.YtdnkedifjaccoaaDoor.Ce
